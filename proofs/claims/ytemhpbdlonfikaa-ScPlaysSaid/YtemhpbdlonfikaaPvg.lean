/- Which instructions fit: the program's answer and the document's. -/
import Derived.Test.YtemhpbdlonfikaaPvf
namespace Go.Proofs.Ytemhpbdlonfikaa.P
open Go Go.RowKit Go.Proofs.YtemhpbdlonfikaaW.PrintWords Go.Proofs.YtemhpbdlonfikaaW.PrintLast Go.Proofs.YtemhpbdlonfikaaW.PrintMore

def numB (used : Bool) (n most : Int) : Bool := if used then decide (0 ≤ n ∧ n < most) else n == 0
def eax : List UInt8 := [69, 65, 88]
/-- Does an instruction fit a thread's registers and the locations? -/
def fitB (o : S87) (regs : List ByteArray) (nl : Int) : Bool :=
  isKd o.f0 && numB (uSrc o.f0) o.f2 regs.length && numB (uLoc o.f0) o.f3 nl && (uImm o.f0 || o.f4 == 0) &&
    (if o.f0 = 8 then numB true o.f1 regs.length && (rdOf ByteArray.empty regs o.f1).toList == eax else numB (uReg o.f0) o.f1 regs.length)
theorem fits1 (b : Bool) (n m : Int) : prog_fits_1.f b n m = some (numB b n m) := by
  unfold prog_fits_1.f numB
  cases b with
  | false => rfl
  | true =>
    simp only [if_true]
    by_cases h : 0 ≤ n
    · rw [if_pos h]
      congr 1
      rw [Bool.eq_iff_iff]
      simp [h]
    · rw [if_neg h]
      congr 1
      rw [Bool.eq_iff_iff]
      simp [h]
theorem fits_is (o : S87) (regs locs : List ByteArray) : Ev (fun k => prog_fits.f k o.f0 o.f1 o.f2 o.f3 o.f4 regs locs) (fitB o regs locs.length) := by
  obtain ⟨K, hK⟩ := kind_is o.f0
  refine ⟨max K 1, fun k hk => ?_⟩
  obtain ⟨k, rfl⟩ : ∃ m, k = m + 1 := ⟨k - 1, by omega⟩
  have e := hK (k + 1) (by omega)
  simp only at e
  simp only [prog_fits.f]
  rw [e]
  simp only [Option.bind_some, fits1, prog_fits.j0, fitB]
  cases isKd o.f0 with
  | false => simp
  | true =>
    cases numB (uSrc o.f0) o.f2 regs.length with
    | false => simp
    | true =>
      cases numB (uLoc o.f0) o.f3 locs.length with
      | false => simp
      | true =>
        have key : (if o.f0 = 8 then if o.f1 ≥ 0 then if o.f1 < (regs.length : Int) then if 0 ≤ o.f1 then some ((rdOf ByteArray.empty regs o.f1).toList == ([69, 65, 88] : List UInt8)) else none else some false else some false else some (numB (uReg o.f0) o.f1 regs.length)) =
            some (if o.f0 = 8 then numB true o.f1 regs.length && (rdOf ByteArray.empty regs o.f1).toList == eax else numB (uReg o.f0) o.f1 regs.length) := by
          by_cases h8 : o.f0 = 8
          · rw [if_pos h8, if_pos h8]
            unfold numB
            by_cases h0 : 0 ≤ o.f1
            · rw [if_pos h0]
              by_cases h1 : o.f1 < (regs.length : Int)
              · rw [if_pos h1, if_pos h0]; simp [h0, h1, eax]
              · rw [if_neg h1]; simp [h1]
            · rw [if_neg (by omega)]; simp [h0]
          · rw [if_neg h8, if_neg h8]
        cases uImm o.f0 with
        | true => simpa using key
        | false =>
          by_cases h4 : o.f4 = 0
          · rw [h4]; simpa using key
          · have : (o.f4 == 0) = false := beq_eq_false_iff_ne.2 h4
            simp [h4]

/-! ### the document's -/
theorem number_is (l : List ByteArray) (a : ByteArray) (hl : l.length ≤ 9223372036854775807) : ∃ r : Int, Ev (fun k => weirref09_number.f k l a) r ∧
    ((r = -1 ∧ ∀ j : Nat, j < l.length → (tx l j).toList ≠ a.toList) ∨ ∃ j : Nat, r = j ∧ j < l.length ∧ (tx l j).toList = a.toList ∧ ∀ q : Nat, q < j → (tx l q).toList ≠ a.toList) := by
  have key : ∀ (d i : Nat), i + d = l.length → (∀ q : Nat, q < i → (tx l q).toList ≠ a.toList) → ∃ r : Int, Ev (fun k => weirref09_number.l0 k l a i) r ∧
      ((r = -1 ∧ ∀ j : Nat, j < l.length → (tx l j).toList ≠ a.toList) ∨ ∃ j : Nat, r = j ∧ j < l.length ∧ (tx l j).toList = a.toList ∧ ∀ q : Nat, q < j → (tx l q).toList ≠ a.toList) := by
    intro d
    induction d with
    | zero =>
      intro i hi hq
      refine ⟨-1, Ev.step (f := fun _ => some (-1)) (fun k => ?_) (Ev.now _), .inl ⟨rfl, fun j hj => hq j (by omega)⟩⟩
      simp only [weirref09_number.l0]
      rw [if_neg (by omega)]
    | succ d ih =>
      intro i hi hq
      have hw := wrap_nat (k := i) (n := l.length) (by omega) hl
      by_cases hc : (rdOf ByteArray.empty l (i : Int)).toList = a.toList
      · refine ⟨i, Ev.step (f := fun _ => some (i : Int)) (fun k => ?_) (Ev.now _), .inr ⟨i, rfl, by omega, hc, hq⟩⟩
        simp only [weirref09_number.l0]
        rw [if_pos (by omega), if_pos (by omega), if_pos hc]
      · obtain ⟨r, h1, h2⟩ := ih (i + 1) (by omega) (fun q hq2 => by
          rcases Nat.lt_or_ge q i with h | h
          · exact hq q h
          · obtain rfl : q = i := by omega
            exact hc)
        refine ⟨r, Ev.step (fun k => ?_) h1, h2⟩
        simp only [weirref09_number.l0]
        rw [if_pos (by omega), if_pos (by omega), if_neg hc, hw]
  obtain ⟨r, h1, h2⟩ := key l.length 0 (by omega) (fun q hq => absurd hq (Nat.not_lt_zero q))
  exact ⟨r, Ev.congr (fun k => by simp only [weirref09_number.f]; rfl) h1, h2⟩
/-- Behind the register: source, location, immediate. -/
def restB (o : S87) (nr nl : Int) : Bool := numB (uSrc o.f0) o.f2 nr && numB (uLoc o.f0) o.f3 nl && (uImm o.f0 || o.f4 == 0)
theorem rest_is (x8 x9 x10 : Bool) (a2 a3 a4 nr nl : Int) :
    (if x8 = true then (if a2 < 0 then (some false) else (if a2 ≥ nr then (some false) else (if x9 = true then (if a3 < 0 then (some (!true)) else (if a3 ≥ nl then (some (!true)) else (if x10 = true then (some (!false)) else (some (!(a4 != 0)))))) else (if a3 = 0 then (if x10 = true then (some (!false)) else (some (!(a4 != 0)))) else (some (!true)))))) else (if a2 = 0 then (if x9 = true then (if a3 < 0 then (some (!true)) else (if a3 ≥ nl then (some (!true)) else (if x10 = true then (some (!false)) else (some (!(a4 != 0)))))) else (if a3 = 0 then (if x10 = true then (some (!false)) else (some (!(a4 != 0)))) else (some (!true)))) else (some false))) =
      some (numB x8 a2 nr && numB x9 a3 nl && (x10 || a4 == 0)) := by
  have imm : (if x10 = true then some (!false) else some (!(a4 != 0))) = some (x10 || a4 == 0) := by
    cases x10 with
    | true => simp
    | false => simp [bne]
  have loc : (if x9 = true then (if a3 < 0 then (some (!true)) else (if a3 ≥ nl then (some (!true)) else (if x10 = true then (some (!false)) else (some (!(a4 != 0)))))) else (if a3 = 0 then (if x10 = true then (some (!false)) else (some (!(a4 != 0)))) else (some (!true)))) = some (numB x9 a3 nl && (x10 || a4 == 0)) := by
    rw [imm]
    unfold numB
    cases x9 with
    | true =>
      by_cases h0 : a3 < 0
      · rw [if_pos rfl, if_pos h0, if_pos rfl, decide_eq_false (by omega)]; rfl
      · by_cases h1 : a3 ≥ nl
        · rw [if_pos rfl, if_neg h0, if_pos h1, if_pos rfl, decide_eq_false (by omega)]; rfl
        · rw [if_pos rfl, if_neg h0, if_neg h1, if_pos rfl, decide_eq_true (by omega), Bool.true_and]
    | false =>
      by_cases h0 : a3 = 0
      · subst h0; simp
      · have : (a3 == 0) = false := beq_eq_false_iff_ne.2 h0
        simp [h0]
  rw [loc]
  unfold numB
  cases x8 with
  | true =>
    by_cases h0 : a2 < 0
    · rw [if_pos rfl, if_pos h0, if_pos rfl, decide_eq_false (show ¬ (0 ≤ a2 ∧ a2 < nr) by omega)]; rfl
    · by_cases h1 : a2 ≥ nr
      · rw [if_pos rfl, if_neg h0, if_pos h1, if_pos rfl, decide_eq_false (show ¬ (0 ≤ a2 ∧ a2 < nr) by omega)]; rfl
      · rw [if_pos rfl, if_neg h0, if_neg h1, if_pos rfl, decide_eq_true (show 0 ≤ a2 ∧ a2 < nr by omega), Bool.true_and]
  | false =>
    by_cases h0 : a2 = 0
    · subst h0; simp
    · have : (a2 == 0) = false := beq_eq_false_iff_ne.2 h0
      simp [h0]
theorem kd_false {a : Int} (h : a < 1 ∨ 9 < a) : isKd a = false := by unfold isKd; exact decide_eq_false (by omega)
theorem kd_true {a : Int} (h : ¬ (a < 1 ∨ 9 < a)) : isKd a = true := by unfold isKd; exact decide_eq_true (by omega)
theorem eaxb : (⟨#[69, 65, 88]⟩ : ByteArray).toList = eax := by rw [ByteArray.toList_eq]; rfl
theorem right_is (o : S87) (regs : List ByteArray) (nl : Int) (hl : regs.length ≤ 9223372036854775807) (hr : risesB regs 1 (regs.length - 1) = true) :
    Ev (fun k => weirref09_right.f k o.f0 o.f1 o.f2 o.f3 o.f4 regs nl) (fitB o regs nl) := by
  obtain ⟨K, hK⟩ := uses_is o.f0
  obtain ⟨rn, ⟨K2, hK2⟩, hn⟩ := number_is regs (⟨#[69, 65, 88]⟩ : ByteArray) hl
  simp only [eaxb] at hn
  have hn2 : (o.f1 ≥ 0 ∧ o.f1 < (regs.length : Int) ∧ (rdOf ByteArray.empty regs o.f1).toList = eax) ↔ (¬ rn < 0 ∧ o.f1 = rn) := by
    rcases hn with ⟨rfl, hno⟩ | ⟨j, rfl, hj, he, hq⟩
    · constructor
      · rintro ⟨h0, h1, h2⟩
        obtain ⟨m, hm⟩ : ∃ m : Nat, o.f1 = m := ⟨o.f1.toNat, by omega⟩
        rw [hm] at h2 h1
        exact absurd h2 (hno m (by omega))
      · rintro ⟨h, _⟩
        exact absurd (by decide) h
    · constructor
      · rintro ⟨h0, h1, h2⟩
        obtain ⟨m, hm⟩ : ∃ m : Nat, o.f1 = m := ⟨o.f1.toNat, by omega⟩
        rw [hm] at h2 h1
        refine ⟨by omega, ?_⟩
        rw [hm]
        rcases Nat.lt_trichotomy m j with h | h | h
        · exact absurd h2 (hq m h)
        · rw [h]
        · exfalso
          have h3 := rises_lt hr (m - j - 1) j (by omega)
          rw [show j + (m - j - 1) + 1 = m by omega] at h3
          have h4 : (tx regs m).toList = (tx regs j).toList := h2.trans he.symm
          rw [h4, less_irrefl] at h3
          cases h3
      · rintro ⟨_, h⟩
        rw [h]
        exact ⟨by omega, by omega, he⟩
  refine ⟨max K K2 + 3, fun k hk => ?_⟩
  obtain ⟨k, rfl⟩ : ∃ m, k = m + 2 := ⟨k - 2, by omega⟩
  have e := hK (k + 2) (by omega)
  have e2 := hK2 (k + 1) (by omega)
  simp only at e e2
  simp only [weirref09_right.f]
  rw [e]
  simp only [Option.bind_some, weirref09_right.j0, weirref09_right.j1, weirref09_right.j2, e2]
  unfold fitB
  by_cases hkd : o.f0 < 1 ∨ 9 < o.f0
  · rw [kd_false hkd]
    rcases hkd with h | h
    · rw [if_pos h, if_pos (by simp)]; simp
    · rw [if_neg (by omega), if_pos (decide_eq_true h)]; simp
  · rw [kd_true hkd, if_neg (by omega), if_neg (by rw [decide_eq_false (by omega)]; decide)]
    simp only [rest_is]
    by_cases h8 : o.f0 = 8
    · rw [if_pos h8, if_pos h8]
      by_cases hc : ¬ rn < 0 ∧ o.f1 = rn
      · have h9 := hn2.2 hc
        rw [if_neg hc.1, if_neg (by rw [hc.2]; simp)]
        have : numB true o.f1 regs.length = true := by unfold numB; rw [if_pos rfl]; exact decide_eq_true ⟨h9.1, h9.2.1⟩
        rw [this, h9.2.2]
        simp
      · have h9 : (numB true o.f1 regs.length && (rdOf ByteArray.empty regs o.f1).toList == eax) = false := by
          rw [Bool.eq_false_iff]
          intro h
          rw [Bool.and_eq_true, beq_iff_eq] at h
          unfold numB at h
          rw [if_pos rfl] at h
          have h1 := of_decide_eq_true h.1
          exact hc (hn2.1 ⟨h1.1, h1.2, h.2⟩)
        rw [h9, Bool.and_false]
        by_cases hm : rn < 0
        · rw [if_pos hm, if_pos (by simp)]
        · rw [if_neg hm, if_pos (by simp only [bne_iff_ne]; exact fun h => hc ⟨hm, h⟩)]
    · rw [if_neg h8, if_neg h8]
      cases uReg o.f0 with
      | true =>
        rw [if_pos (by simp)]
        unfold numB
        by_cases h0 : o.f1 < 0
        · rw [if_pos h0, if_pos (by simp)]
          simp only [if_true, decide_eq_false (show ¬ (0 ≤ o.f1 ∧ o.f1 < (regs.length : Int)) by omega), Bool.and_false]
        · by_cases h1 : o.f1 ≥ (regs.length : Int)
          · rw [if_neg h0, if_pos h1, if_pos (by simp)]
            simp only [if_true, decide_eq_false (show ¬ (0 ≤ o.f1 ∧ o.f1 < (regs.length : Int)) by omega), Bool.and_false]
          · rw [if_neg h0, if_neg h1, if_neg (by simp)]
            have h2 : 0 ≤ o.f1 ∧ o.f1 < (regs.length : Int) := by omega
            simp [h2]
      | false =>
        rw [if_neg (by simp)]
        unfold numB
        by_cases h0 : o.f1 = 0
        · rw [if_neg (by rw [h0]; decide)]
          simp [h0]
        · rw [if_pos (bne_iff_ne.2 h0)]
          simp [h0]
theorem fit_ok {o : S87} {regs : List ByteArray} {nl : Nat} (h : fitB o regs nl = true) : OpOK o regs.length nl := by
  unfold fitB at h
  simp only [Bool.and_eq_true] at h
  obtain ⟨⟨⟨⟨_, hs⟩, hl⟩, _⟩, hr⟩ := h
  refine ⟨fun hk => ?_, fun hk => ?_, fun hk => ?_⟩
  · by_cases h8 : o.f0 = 8
    · rw [if_pos h8, Bool.and_eq_true] at hr
      have := hr.1
      unfold numB at this
      rw [if_pos rfl] at this
      exact of_decide_eq_true this
    · rw [if_neg h8] at hr
      unfold numB uReg at hr
      rw [if_pos (decide_eq_true (by omega))] at hr
      exact of_decide_eq_true hr
  · unfold numB uSrc at hs
    rw [if_pos (decide_eq_true (by omega))] at hs
    exact of_decide_eq_true hs
  · unfold numB uLoc at hl
    rw [if_pos (decide_eq_true (by omega))] at hl
    exact of_decide_eq_true hl
end Go.Proofs.Ytemhpbdlonfikaa.P
