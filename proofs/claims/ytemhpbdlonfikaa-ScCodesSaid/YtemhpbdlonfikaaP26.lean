/- The program's Valid and the document's, by one definition. -/
import Derived.Test.YtemhpbdlonfikaaPvh
import Derived.Test.YtemhpbdlonfikaaPua
import Derived.Test.YtemhpbdlonfikaaEa
import Derived.Test.YtemhpbdlonfikaaP3
namespace Go.Proofs.Ytemhpbdlonfikaa.P
open Go Go.RowKit Go.Proofs.YtemhpbdlonfikaaW.PrintWords Go.Proofs.YtemhpbdlonfikaaW.PrintLast Go.Proofs.YtemhpbdlonfikaaW.PrintMore

structure VSz (p : Pg) : Prop where
  z : Sized p
  rg : p.rg.length ≤ 9223372036854775807
  row : ∀ i : Int, (rd_L4 p.rg i).length ≤ 9223372036854775807
  lo : p.lo.length ≤ 9223372036854775807
  tx : Texts p.lo
def tailM (p : Pg) : Int := if 64 < evM p.lo.length p.th then 96 else 0
def fitRow (p : Pg) (i q : Nat) : Bool := fitB (rd_T87 (rd_L3 p.th (i : Int)) (q : Int)) (rd_L4 p.rg (i : Int)) p.lo.length
def fitTh (p : Pg) (i : Nat) : Bool := allR (fitRow p i) 0 (rd_L3 p.th (i : Int)).length
def thrM (p : Pg) (i d : Nat) : Int := if allR (fitTh p) i d then tailM p else 93
def locM (p : Pg) : Int := if 16 < p.lo.length then 97 else thrM p 0 p.th.length
noncomputable def namM (p : Pg) : Bool := p.m0.length == p.lo.length && (risesB p.lo 1 (p.lo.length - 1) && allR (fun i => nameB (tx p.lo i)) 0 p.lo.length)
noncomputable def lateM (p : Pg) : Int := if namM p then locM p else 52
def smallR (p : Pg) (i : Nat) : Bool := decide ((rd_L4 p.rg (i : Int)).length ≤ 8)
def regOK (p : Pg) (i : Nat) : Bool := (rd_L5 p.r0 (i : Int)).length == (rd_L4 p.rg (i : Int)).length && (risesB (rd_L4 p.rg (i : Int)) 1 ((rd_L4 p.rg (i : Int)).length - 1) && regsB (rd_L4 p.rg (i : Int)) 0 (rd_L4 p.rg (i : Int)).length)
noncomputable def sizeM (p : Pg) (i d : Nat) : Int := if allR (smallR p) i d then lateM p else 98
noncomputable def regM (p : Pg) (i d : Nat) : Int := if allR (regOK p) i d then sizeM p 0 p.th.length else 92
noncomputable def validM (p : Pg) : Int := if p.th.length = 0 ∨ 4 < p.th.length then 95 else if p.rg.length = p.th.length ∧ p.r0.length = p.th.length then regM p 0 p.th.length else 92

theorem ite_and {α : Type} {a b : Bool} {x y : α} : (if (a && b) = true then x else y) = if a = true then (if b = true then x else y) else y := by cases a <;> simp
theorem thr_prog {p : Pg} (h : VSz p) (hg : p.rg.length = p.th.length) : ∀ (d i : Nat), i + d = p.th.length → Ev (fun k => prog_Valid.l2 k p.th p.th.length i p.th p.rg p.lo p.r0 p.m0) (thrM p i d) := by
  intro d
  induction d with
  | zero =>
    intro i hi
    have hE : thrM p i 0 = if evM p.lo.length p.th > 64 then 96 else 0 := rfl
    rw [hE]
    refine Ev.step (f := fun k => (prog_Events.f k p.th p.rg p.lo p.r0 p.m0).bind fun t => if t > 64 then some 96 else some 0) (fun k => ?_) (Ev.bind (events_is p h.z) ?_)
    · simp only [prog_Valid.l2]
      rw [if_neg (by omega)]
    · refine Ev.congr (f := fun _ => some (if evM p.lo.length p.th > 64 then 96 else 0)) (fun k => ?_) (Ev.now _)
      split <;> rfl
  | succ d ih =>
    intro i hi
    have hw := wrap_nat (k := i) (n := p.th.length) (by omega) h.z.th
    have inner : ∀ (e j : Nat), j + e = (rd_L3 p.th i).length → Ev (fun k => prog_Valid.l3 k i p.th p.th.length i (rd_L3 p.th i) (rd_L3 p.th i).length j p.th p.rg p.lo p.r0 p.m0) (if allR (fitRow p i) j e then thrM p (i + 1) d else 93) := by
      intro e
      induction e with
      | zero =>
        intro j hj
        refine Ev.step (fun k => ?_) (ih (i + 1) (by omega))
        simp only [prog_Valid.l3]
        rw [if_neg (by omega), hw]
      | succ e ihe =>
        intro j hj
        have hwj := wrap_nat (k := j) (n := (rd_L3 p.th i).length) (by omega) (h.z.op i)
        rw [allR_succ, ite_and]
        refine Ev.step (f := fun k => (prog_fits.f k (rd_T87 (rd_L3 p.th i) j).f0 (rd_T87 (rd_L3 p.th i) j).f1 (rd_T87 (rd_L3 p.th i) j).f2 (rd_T87 (rd_L3 p.th i) j).f3 (rd_T87 (rd_L3 p.th i) j).f4 (rd_L4 p.rg i) p.lo).bind fun t => if t = true then prog_Valid.l3 k i p.th p.th.length i (rd_L3 p.th i) (rd_L3 p.th i).length ((j + 1 : Nat) : Int) p.th p.rg p.lo p.r0 p.m0 else some 93) (fun k => ?_) (Ev.bind (fits_is _ _ _) ?_)
        · simp only [prog_Valid.l3]
          rw [if_pos (by omega), if_pos (by omega), if_pos (by omega), if_pos (by omega), if_pos (by omega), hwj]
        · show Ev _ (if fitB (rd_T87 (rd_L3 p.th i) j) (rd_L4 p.rg i) p.lo.length = true then _ else _)
          cases fitB (rd_T87 (rd_L3 p.th i) j) (rd_L4 p.rg i) p.lo.length with
          | true => exact Ev.congr (fun k => if_pos rfl) (ihe (j + 1) (by omega))
          | false => exact Ev.congr (fun k => if_neg (by decide)) (Ev.now _)
    have h0 := inner (rd_L3 p.th i).length 0 (by omega)
    have hE : thrM p i (d + 1) = if allR (fitRow p i) 0 (rd_L3 p.th i).length then thrM p (i + 1) d else 93 := by
      unfold thrM; rw [allR_succ, ite_and]; rfl
    rw [hE]
    refine Ev.step (fun k => ?_) h0
    simp only [prog_Valid.l2]
    rw [if_pos (by omega), if_pos (by omega), if_pos (by omega)]; rfl
theorem j4_prog {p : Pg} (h : VSz p) (hg : p.rg.length = p.th.length) (b : Bool) : Ev (fun k => prog_Valid.j4 k b p.th p.rg p.lo p.r0 p.m0) (if b = true then 52 else locM p) := by
  cases b with
  | true =>
    refine Ev.step (f := fun _ => some 52) (fun k => ?_) (Ev.now _)
    simp only [prog_Valid.j4]; rfl
  | false =>
    rw [if_neg (by decide)]
    unfold locM
    by_cases hc : 16 < p.lo.length
    · rw [if_pos hc]
      refine Ev.step (f := fun _ => some 97) (fun k => ?_) (Ev.now _)
      simp only [prog_Valid.j4]
      rw [if_neg (by simp), if_pos (by omega)]
    · rw [if_neg hc]
      refine Ev.step (fun k => ?_) (thr_prog h hg p.th.length 0 (by omega))
      simp only [prog_Valid.j4]
      rw [if_neg (by simp), if_neg (by omega)]; rfl
theorem size_prog {p : Pg} (h : VSz p) (hg : p.rg.length = p.th.length) : ∀ (d i : Nat), i + d = p.th.length → Ev (fun k => prog_Valid.l1 k p.rg p.rg.length i p.th p.rg p.lo p.r0 p.m0) (sizeM p i d) := by
  intro d
  induction d with
  | zero =>
    intro i hi
    have hE : sizeM p i 0 = lateM p := rfl
    rw [hE]
    unfold lateM namM
    rw [ite_and]
    by_cases hm : p.m0.length = p.lo.length
    · rw [if_pos (by simp [hm])]
      refine Ev.step (f := fun k => (prog_rises__lexis_Name.f k p.lo).bind fun t => prog_Valid.j4 k (!t) p.th p.rg p.lo p.r0 p.m0) (fun k => ?_) (Ev.bind (rises_name p.lo h.lo h.tx) ?_)
      · simp only [prog_Valid.l1]
        rw [if_neg (by omega), if_pos (by omega)]
      · have := j4_prog h hg (!(risesB p.lo 1 (p.lo.length - 1) && allR (fun i => nameB (tx p.lo i)) 0 p.lo.length))
        cases hb : (risesB p.lo 1 (p.lo.length - 1) && allR (fun i => nameB (tx p.lo i)) 0 p.lo.length) with
        | true => rw [hb] at this; exact this
        | false => rw [hb] at this; exact this
    · rw [if_neg (by simp [hm])]
      refine Ev.step (fun k => ?_) (j4_prog h hg true)
      simp only [prog_Valid.l1]
      rw [if_neg (by omega), if_neg (by omega)]
  | succ d ih =>
    intro i hi
    have hw := wrap_nat (k := i) (n := p.th.length) (by omega) h.z.th
    have hE : sizeM p i (d + 1) = if smallR p i = true then sizeM p (i + 1) d else 98 := by unfold sizeM; rw [allR_succ, ite_and]
    rw [hE]
    unfold smallR
    by_cases hc : (rd_L4 p.rg i).length ≤ 8
    · rw [if_pos (decide_eq_true hc)]
      refine Ev.step (fun k => ?_) (ih (i + 1) (by omega))
      simp only [prog_Valid.l1]
      rw [if_pos (by omega), if_pos (by omega), if_pos (by omega), if_neg (by omega), hw]
    · rw [if_neg (by simpa using hc)]
      refine Ev.step (f := fun _ => some 98) (fun k => ?_) (Ev.now _)
      simp only [prog_Valid.l1]
      rw [if_pos (by omega), if_pos (by omega), if_pos (by omega), if_pos (by omega)]
theorem reg_prog {p : Pg} (h : VSz p) (hg : p.rg.length = p.th.length) (hr : p.r0.length = p.th.length) : ∀ (d i : Nat), i + d = p.th.length → Ev (fun k => prog_Valid.l0 k p.rg p.rg.length i p.th p.rg p.lo p.r0 p.m0) (regM p i d) := by
  intro d
  induction d with
  | zero =>
    intro i hi
    refine Ev.step (fun k => ?_) (size_prog h hg p.th.length 0 (by omega))
    simp only [prog_Valid.l0]
    rw [if_neg (by omega)]; rfl
  | succ d ih =>
    intro i hi
    have hw := wrap_nat (k := i) (n := p.th.length) (by omega) h.z.th
    have hE : regM p i (d + 1) = if regOK p i = true then regM p (i + 1) d else 92 := by unfold regM; rw [allR_succ, ite_and]
    rw [hE]
    unfold regOK
    rw [ite_and]
    by_cases hc : (rd_L5 p.r0 i).length = (rd_L4 p.rg i).length
    · rw [if_pos (by simp [hc])]
      refine Ev.step (f := fun k => (prog_rises__prog_Register.f k (rd_L4 p.rg i)).bind fun t => if t = true then prog_Valid.l0 k p.rg p.rg.length ((i + 1 : Nat) : Int) p.th p.rg p.lo p.r0 p.m0 else some 92) (fun k => ?_) (Ev.bind (rises_reg _ (h.row i)) ?_)
      · simp only [prog_Valid.l0]
        rw [if_pos (by omega), if_pos (by omega), if_pos (by omega), if_pos (by omega), if_pos (by omega), hw]
      · cases (risesB (rd_L4 p.rg i) 1 ((rd_L4 p.rg i).length - 1) && regsB (rd_L4 p.rg i) 0 (rd_L4 p.rg i).length) with
        | true => exact Ev.congr (fun k => if_pos rfl) (ih (i + 1) (by omega))
        | false => exact Ev.congr (fun k => if_neg (by decide)) (Ev.now _)
    · rw [if_neg (by simp [hc])]
      refine Ev.step (f := fun _ => some 92) (fun k => ?_) (Ev.now _)
      simp only [prog_Valid.l0]
      rw [if_pos (by omega), if_pos (by omega), if_pos (by omega), if_pos (by omega), if_neg (by omega)]
theorem valid_prog {p : Pg} (h : VSz p) : Ev (fun k => prog_Valid.f k p.th p.rg p.lo p.r0 p.m0) (validM p) := by
  have j0 : ∀ b : Bool, Ev (fun k => prog_Valid.j0 k b p.th p.rg p.lo p.r0 p.m0) (if b = true then 95 else if p.rg.length = p.th.length ∧ p.r0.length = p.th.length then regM p 0 p.th.length else 92) := by
    intro b
    cases b with
    | true =>
      refine Ev.step (f := fun _ => some 95) (fun k => ?_) (Ev.now _)
      simp only [prog_Valid.j0]; rfl
    | false =>
      rw [if_neg (by decide)]
      by_cases hg : p.rg.length = p.th.length
      · by_cases hr : p.r0.length = p.th.length
        · rw [if_pos ⟨hg, hr⟩]
          refine Ev.step (f := fun k => prog_Valid.j1 k ((p.r0.length : Int) != (p.th.length : Int)) p.th p.rg p.lo p.r0 p.m0) (fun k => ?_) ?_
          · simp only [prog_Valid.j0]
            rw [if_neg (by simp), if_pos (by omega)]
          · rw [show ((p.r0.length : Int) != (p.th.length : Int)) = false by simp [hr]]
            refine Ev.step (fun k => ?_) (reg_prog h hg hr p.th.length 0 (by omega))
            simp only [prog_Valid.j1]
            rw [if_neg (by simp)]; rfl
        · rw [if_neg (fun h => hr h.2)]
          refine Ev.step (f := fun k => prog_Valid.j1 k ((p.r0.length : Int) != (p.th.length : Int)) p.th p.rg p.lo p.r0 p.m0) (fun k => ?_) ?_
          · simp only [prog_Valid.j0]
            rw [if_neg (by simp), if_pos (by omega)]
          · rw [show ((p.r0.length : Int) != (p.th.length : Int)) = true by simp; omega]
            refine Ev.step (f := fun _ => some 92) (fun k => ?_) (Ev.now _)
            simp only [prog_Valid.j1]; rfl
      · rw [if_neg (fun h => hg h.1)]
        refine Ev.step (f := fun k => prog_Valid.j1 k true p.th p.rg p.lo p.r0 p.m0) (fun k => ?_) ?_
        · simp only [prog_Valid.j0]
          rw [if_neg (by simp), if_neg (by omega)]
        · refine Ev.step (f := fun _ => some 92) (fun k => ?_) (Ev.now _)
          simp only [prog_Valid.j1]; rfl
  unfold validM
  by_cases h0 : p.th.length = 0
  · rw [if_pos (.inl h0)]
    refine Ev.congr (fun k => ?_) (j0 true)
    simp only [prog_Valid.f]
    rw [if_pos (by omega)]
  · by_cases h4 : 4 < p.th.length
    · rw [if_pos (.inr h4)]
      refine Ev.congr (fun k => ?_) (j0 true)
      simp only [prog_Valid.f]
      rw [if_neg (by omega), decide_eq_true (by omega)]
    · rw [if_neg (by omega)]
      refine Ev.congr (fun k => ?_) (j0 false)
      simp only [prog_Valid.f]
      rw [if_neg (by omega), decide_eq_false (by omega)]
/-- What holds of a right program. -/
theorem valid_right {p : Pg} (h : validM p = 0) : RightPg p ∧ SmallPg p := by
  unfold validM at h
  split at h
  · cases h
  rename_i hn
  split at h
  · rename_i hl
    unfold regM at h
    split at h
    · rename_i hreg
      unfold sizeM at h
      split at h
      · rename_i hsm
        unfold lateM at h
        split at h
        · rename_i hnm
          unfold locM at h
          split at h
          · cases h
          rename_i hlo
          unfold thrM at h
          split at h
          · rename_i hfit
            have hm : p.m0.length = p.lo.length := by
              unfold namM at hnm
              rw [Bool.and_eq_true, beq_iff_eq] at hnm
              exact hnm.1
            refine ⟨⟨hl.1, fun i k h0 h1 h2 h3 => ?_⟩, ⟨by omega, by omega, fun i => ?_, hl.2, fun i hi => ?_, hm⟩⟩
            · obtain ⟨a, rfl⟩ : ∃ a : Nat, i = a := ⟨i.toNat, by omega⟩
              obtain ⟨b, rfl⟩ : ∃ b : Nat, k = b := ⟨k.toNat, by omega⟩
              have h4 := allR_at hfit (q := a) (by omega) (by omega)
              have h5 := allR_at (show allR (fitRow p a) 0 _ = true from h4) (q := b) (by omega) (by omega)
              exact fit_ok h5
            · rcases Nat.lt_or_ge i p.th.length with hi | hi
              · exact of_decide_eq_true (allR_at hsm (q := i) (by omega) (by omega))
              · have : rd_L4 p.rg i = [] := by
                  unfold rd_L4
                  rw [Int.toNat_natCast, List.getD_eq_getElem?_getD, List.getElem?_eq_none (by omega)]; rfl
                rw [this]; exact Nat.zero_le _
            · have h4 := allR_at hreg (q := i) (by omega) (by omega)
              unfold regOK at h4
              rw [Bool.and_eq_true, beq_iff_eq] at h4
              exact h4.1
          · cases h
        · cases h
      · cases h
    · cases h
  · cases h
end Go.Proofs.Ytemhpbdlonfikaa.P
/- A program's sizes by its lists. -/
namespace Go.Proofs.Ytemhpbdlonfikaa.P
open Go Go.RowKit Go.Proofs.YtemhpbdlonfikaaW.PrintWords
theorem getD_len {α : Type} {l : List (List α)} {n m : Nat} (h : ∀ x ∈ l, x.length ≤ m) : (l.getD n []).length ≤ m := by
  rw [List.getD_eq_getElem?_getD]
  cases hc : l[n]? with
  | none => simp
  | some x => exact h x (List.mem_of_getElem? hc)
theorem vsz_of {p : Pg} (h0 : p.th.length < 5864062014806) (h1 : p.rg.length < 5864062014806) (h2 : p.lo.length ≤ 8796093022208) (h3 : ∀ x ∈ p.th, x.length ≤ 3518437208883) (h4 : ∀ x ∈ p.rg, x.length ≤ 8796093022208) (h5 : ∀ s ∈ p.lo, s.size ≤ 140737488351232) : VSz p := by
  refine ⟨⟨by omega, fun i => Nat.le_trans (getD_len h3) (by omega)⟩, by omega, fun i => Nat.le_trans (getD_len h4) (by omega), by omega, fun i => ?_⟩
  unfold tx rdOf
  rw [List.getD_eq_getElem?_getD]
  cases hc : p.lo[((i : Int)).toNat]? with
  | none => simp
  | some x => exact h5 x (List.mem_of_getElem? hc)
end Go.Proofs.Ytemhpbdlonfikaa.P
/- Is it a state of the program: told by lists. -/
namespace Go.Proofs.Ytemhpbdlonfikaa.P
open Go Go.RowKit Go.Proofs.YtemhpbdlonfikaaW.PrintWords Go.Proofs.YtemhpbdlonfikaaW.PrintLast Go.Proofs.YtemhpbdlonfikaaW.PrintMore
variable {p : Pg} {P Q : List Int} {R : List (List Int)} {M : List Int} {B : List (List S59)} {K : Int}

def wrB (nl : Nat) (l : List S59) (j : Nat) : Bool := decide (0 ≤ (rd_T59 l (j : Int)).f0 ∧ (rd_T59 l (j : Int)).f0 < (nl : Int))
def thOK (p : Pg) (P Q : List Int) (R : List (List Int)) (B : List (List S59)) (i : Nat) : Prop :=
  0 ≤ rd P (i : Int) ∧ rd P (i : Int) ≤ ((rd_L3 p.th (i : Int)).length : Int) ∧ 0 ≤ rd Q (i : Int) ∧ rd Q (i : Int) ≤ 2 ∧ (rd_L5 R (i : Int)).length = (rd_L4 p.rg (i : Int)).length ∧ (rd_L7 B (i : Int)).length ≤ 64
instance (p : Pg) (P Q : List Int) (R : List (List Int)) (B : List (List S59)) (i : Nat) : Decidable (thOK p P Q R B i) := inferInstanceAs (Decidable (_ ∧ _))
def thB (p : Pg) (P Q : List Int) (R : List (List Int)) (B : List (List S59)) (i : Nat) : Bool :=
  decide (thOK p P Q R B i) && allR (wrB p.lo.length (rd_L7 B (i : Int))) 0 (rd_L7 B (i : Int)).length
def lenP (p : Pg) (P Q : List Int) (R : List (List Int)) (M : List Int) (B : List (List S59)) (K : Int) : Prop :=
  P.length = p.th.length ∧ Q.length = p.th.length ∧ R.length = p.th.length ∧ B.length = p.th.length ∧ M.length = p.lo.length ∧ -1 ≤ K ∧ K < (p.th.length : Int)
instance (p : Pg) (P Q : List Int) (R : List (List Int)) (M : List Int) (B : List (List S59)) (K : Int) : Decidable (lenP p P Q R M B K) := inferInstanceAs (Decidable (_ ∧ _))
def isM (p : Pg) (P Q : List Int) (R : List (List Int)) (M : List Int) (B : List (List S59)) (K : Int) : Bool := decide (lenP p P Q R M B K) && allR (thB p P Q R B) 0 p.th.length

/-- Threads that are right, one by one. -/
theorem thr_of : ∀ {ts : List (Nat × Nat)} {P Q : List Int} {R : List (List Int)}, P.length = ts.length → Q.length = ts.length → R.length = ts.length → (∀ x ∈ P, I64 x) → (∀ x ∈ Q, I64 x) → (∀ r ∈ R, ∀ x ∈ r, I64 x) →
    (∀ i : Nat, ∀ t, ts[i]? = some t → 0 ≤ rd P (i : Int) ∧ rd P (i : Int) ≤ (t.1 : Int) ∧ 0 ≤ rd Q (i : Int) ∧ rd Q (i : Int) ≤ 2 ∧ (rd_L5 R (i : Int)).length = t.2) → ThrOK ts P Q R
  | [], [], [], [], _, _, _, _, _, _, _ => trivial
  | (n, m) :: ts, a :: P, b :: Q, g :: R, h1, h2, h3, n1, n2, n3, h => by
    obtain ⟨a1, a2, b1, b2, g1⟩ := h 0 (n, m) rfl
    refine ⟨⟨a1, a2, n1 _ List.mem_cons_self⟩, ⟨b1, b2, n2 _ List.mem_cons_self⟩, ⟨g1, n3 _ List.mem_cons_self⟩, thr_of (by simpa using h1) (by simpa using h2) (by simpa using h3) (fun x hx => n1 x (List.mem_cons_of_mem _ hx)) (fun x hx => n2 x (List.mem_cons_of_mem _ hx)) (fun x hx => n3 x (List.mem_cons_of_mem _ hx)) fun i t ht => ?_⟩
    exact h (i + 1) t ht
theorem tsP_at (hg : p.rg.length = p.th.length) {i : Nat} {t : Nat × Nat} (h : (tsP p)[i]? = some t) : i < p.th.length ∧ t = ((rd_L3 p.th (i : Int)).length, (rd_L4 p.rg (i : Int)).length) := by
  have hi : i < p.th.length := by rw [← tsP_len hg]; exact (List.getElem?_eq_some_iff.1 h).1
  refine ⟨hi, ?_⟩
  have hd := tsP_drop hg hi
  have e : (tsP p)[i]? = ((tsP p).drop i)[0]? := by rw [List.getElem?_drop, Nat.add_zero]
  rw [e, hd] at h
  exact (Option.some.inj h).symm
/-- The numbers of a state that is handed in. -/
structure Nums (u : StT) : Prop where
  n0 : ∀ x ∈ u.1, I64 x
  n1 : ∀ x ∈ u.2.1, I64 x
  n2 : ∀ r ∈ u.2.2.1, ∀ x ∈ r, I64 x
  n3 : ∀ x ∈ u.2.2.2.1, I64 x
  n4 : ∀ r ∈ u.2.2.2.2.1, ∀ x ∈ r, I64 x.f0 ∧ I64 x.f1
theorem rd_L7_mem {l : List S59} (h : l ∈ B) : ∃ i : Nat, i < B.length ∧ rd_L7 B (i : Int) = l := by
  obtain ⟨i, hi, he⟩ := List.mem_iff_getElem.1 h
  refine ⟨i, hi, ?_⟩
  unfold rd_L7
  rw [Int.toNat_natCast, List.getD_eq_getElem?_getD, List.getElem?_eq_getElem hi, Option.getD_some, he]
theorem rd_L7_in {i : Nat} (h : i < B.length) : rd_L7 B (i : Int) ∈ B := by
  unfold rd_L7
  rw [Int.toNat_natCast, List.getD_eq_getElem?_getD, List.getElem?_eq_getElem h, Option.getD_some]
  exact List.getElem_mem h
theorem rd_T59_in {l : List S59} {i : Nat} (h : i < l.length) : rd_T59 l (i : Int) ∈ l := by
  unfold rd_T59
  rw [Int.toNat_natCast, List.getD_eq_getElem?_getD, List.getElem?_eq_getElem h, Option.getD_some]
  exact List.getElem_mem h
theorem rd_T59_mem {l : List S59} {x : S59} (h : x ∈ l) : ∃ i : Nat, i < l.length ∧ rd_T59 l (i : Int) = x := by
  obtain ⟨i, hi, he⟩ := List.mem_iff_getElem.1 h
  refine ⟨i, hi, ?_⟩
  unfold rd_T59
  rw [Int.toNat_natCast, List.getD_eq_getElem?_getD, List.getElem?_eq_getElem hi, Option.getD_some, he]
theorem is_ok (hg : p.rg.length = p.th.length) (hN : Nums (P, Q, R, M, B, K)) (h : isM p P Q R M B K = true) : StateOK (tsP p) p.lo.length (P, Q, R, M, B, K) := by
  obtain ⟨n0, n1, n2, n3, n4⟩ := hN
  unfold isM at h
  rw [Bool.and_eq_true] at h
  obtain ⟨hl, ha⟩ := h
  obtain ⟨l1, l2, l3, l4, l5, l6, l7⟩ := of_decide_eq_true hl
  have tl := tsP_len hg
  have at_ : ∀ i : Nat, i < p.th.length → thOK p P Q R B i ∧ allR (wrB p.lo.length (rd_L7 B (i : Int))) 0 (rd_L7 B (i : Int)).length = true := fun i hi => by
    have hb := allR_at ha (Nat.zero_le i) (by omega)
    unfold thB at hb
    rw [Bool.and_eq_true] at hb
    exact ⟨of_decide_eq_true hb.1, hb.2⟩
  refine ⟨thr_of (l1.trans tl.symm) (l2.trans tl.symm) (l3.trans tl.symm) n0 n1 n2 fun i t ht => ?_, l5, n3, l4.trans tl.symm, fun l hl => ?_, l6, ?_⟩
  · obtain ⟨hi, rfl⟩ := tsP_at hg ht
    obtain ⟨⟨a1, a2, a3, a4, a5, _⟩, _⟩ := at_ i hi
    exact ⟨a1, a2, a3, a4, a5⟩
  · obtain ⟨i, hi', rfl⟩ := rd_L7_mem hl
    have hi : i < B.length := hi'
    obtain ⟨⟨_, _, _, _, _, a6⟩, ar⟩ := at_ i (by omega)
    refine ⟨a6, fun x hx => ?_⟩
    have hI := n4 _ hl x hx
    obtain ⟨j, hj', rfl⟩ := rd_T59_mem hx
    have hj : j < (rd_L7 B (i : Int)).length := hj'
    obtain ⟨w1, w2⟩ := of_decide_eq_true (allR_at ar (Nat.zero_le j) (by omega))
    exact ⟨w1, w2, hI.1, hI.2⟩
  · show K ≤ ((tsP p).length : Int) - 1
    rw [tl]; omega
end Go.Proofs.Ytemhpbdlonfikaa.P
/- Copies of programs and states are them; a program is as itself. -/
namespace Go.Proofs.Ytemhpbdlonfikaa.P
open Go Go.RowKit Go.Proofs.YtemhpbdlonfikaaW.PrintWords Go.Proofs.YtemhpbdlonfikaaW.PrintLast Go.Proofs.YtemhpbdlonfikaaW.PrintMore

theorem take_snoc {α : Type} (xs : List α) (d : α) (i : Nat) (h : i < xs.length) : xs.take i ++ [xs.getD i d] = xs.take (i + 1) := by
  rw [List.take_add_one, List.getD_eq_getElem?_getD, List.getElem?_eq_getElem h]
  rfl
theorem at_all {α : Type} {l : List α} {d : α} {F : α → Prop} (h : ∀ x ∈ l, F x) {i : Nat} (hi : i < l.length) : F (l.getD i d) := h _ (by
  rw [List.getD_eq_getElem?_getD, List.getElem?_eq_getElem hi]
  exact List.getElem_mem hi)
/-- A program that fits into memory. -/
structure PgFit (p : Pg) : Prop where
  th : p.th.length < 5864062014805
  ths : ∀ x ∈ p.th, x.length < 3518437208883
  rg : p.rg.length < 5864062014805
  rgs : ∀ x ∈ p.rg, x.length < 8796093022208
  lo : p.lo.length < 8796093022208
  r0 : p.r0.length < 5864062014805
  r0s : ∀ x ∈ p.r0, x.length < 17592186044416
  m0 : p.m0.length < 17592186044416
/-- A state that fits into memory. -/
structure StFit (u : StT) : Prop where
  p : u.1.length < 17592186044416
  q : u.2.1.length < 17592186044416
  rg : u.2.2.1.length < 5864062014805
  rgs : ∀ x ∈ u.2.2.1, x.length < 17592186044416
  me : u.2.2.2.1.length < 17592186044416
  bf : u.2.2.2.2.1.length < 5864062014805
  bfs : ∀ x ∈ u.2.2.2.2.1, x.length < 8796093022208
theorem copy_ints {l : List (List Int)} (hl : l.length < 5864062014805) (hr : ∀ x ∈ l, x.length < 17592186044416) : Ev (fun k => weirref09_Copy.f k l) l := by
  have key : ∀ (d i : Nat), i + d = l.length → Ev (fun k => weirref09_Copy.l0 k l (l.take i) i) l := by
    intro d
    induction d with
    | zero =>
      intro i hi
      refine Ev.step (f := fun _ => some l) (fun k => ?_) (Ev.now _)
      simp only [weirref09_Copy.l0]
      rw [if_neg (by omega), List.take_of_length_le (by omega)]
    | succ d ih =>
      intro i hi
      have h1 : (l.getD i []).length < 17592186044416 := at_all hr (by omega)
      have hw := wrap_nat (k := i) (n := l.length) (by omega) (by omega)
      refine Ev.step (fun k => ?_) (ih (i + 1) (by omega))
      simp only [weirref09_Copy.l0, rd_L5, Int.toNat_natCast, Option.bind_some, List.nil_append, List.length_nil, Nat.zero_add]
      rw [if_pos (by omega), if_pos (by omega), if_pos h1, if_pos (by rw [List.length_take]; omega), take_snoc l [] i (by omega), hw]
  have h := key l.length 0 (by omega)
  refine Ev.congr (fun k => ?_) h
  simp only [weirref09_Copy.f, List.take_zero]; rfl
end Go.Proofs.Ytemhpbdlonfikaa.P
/- A state's text, told by sc.Code; what sc.Read answers; a state is as itself. -/
namespace Go.Proofs.Ytemhpbdlonfikaa.P
open Go Go.RowKit Go.Proofs.YtemhpbdlonfikaaW.PrintWords Go.Proofs.YtemhpbdlonfikaaW.PrintLast Go.Proofs.YtemhpbdlonfikaaW.PrintMore
section
variable {p : Pg}

theorem ThrOK.nums : ∀ {ts : List (Nat × Nat)} {P Q : List Int} {R : List (List Int)}, ThrOK ts P Q R → (∀ x ∈ P, I64 x) ∧ (∀ x ∈ Q, I64 x) ∧ (∀ r ∈ R, (∃ t ∈ ts, r.length = t.2) ∧ ∀ x ∈ r, I64 x)
  | [], [], [], [], _ => ⟨by simp, by simp, by simp⟩
  | (n, m) :: ts, a :: P, b :: Q, g :: R, ⟨⟨_, _, a3⟩, ⟨_, _, b3⟩, ⟨g1, g2⟩, h⟩ => by
    obtain ⟨h1, h2, h3⟩ := ThrOK.nums h
    refine ⟨fun x hx => ?_, fun x hx => ?_, fun x hx => ?_⟩
    · rcases List.mem_cons.1 hx with rfl | hx
      · exact a3
      · exact h1 x hx
    · rcases List.mem_cons.1 hx with rfl | hx
      · exact b3
      · exact h2 x hx
    · rcases List.mem_cons.1 hx with rfl | hx
      · exact ⟨⟨(n, m), List.mem_cons_self, g1⟩, g2⟩
      · obtain ⟨⟨t, ht, e⟩, h5⟩ := h3 x hx
        exact ⟨⟨t, List.mem_cons_of_mem _ ht, e⟩, h5⟩
/-- The program is small. -/
structure Few (p : Pg) : Prop where
  th : p.th.length ≤ 4
  lo : p.lo.length ≤ 16
  rg : p.rg.length = p.th.length
  row : ∀ i : Nat, (rd_L4 p.rg (i : Int)).length ≤ 8
theorem ok_text (hp : Few p) {u : StT} (h : StateOK (tsP p) p.lo.length u) : TextOK u.1 u.2.1 u.2.2.1 u.2.2.2.1 u.2.2.2.2.1 u.2.2.2.2.2 := by
  have tl := tsP_len hp.rg
  have h0 := hp.th
  have h1 := hp.lo
  obtain ⟨e1, e2, e3⟩ := h.thr.len
  obtain ⟨n1, n2, n3⟩ := h.thr.nums
  have e4 := h.lb
  have e5 := h.lm
  refine ⟨by omega, by omega, by omega, fun r hr => ?_, by omega, by omega, fun r hr => (h.nb r hr).1, n1, n2, fun r hr => (n3 r hr).2, h.nm, fun r hr x hx => ⟨((h.nb r hr).2 x hx).2.2.1, ((h.nb r hr).2 x hx).2.2.2⟩, ?_⟩
  · obtain ⟨⟨t, ht, e⟩, _⟩ := n3 r hr
    obtain ⟨i, hi, rfl⟩ := List.mem_iff_getElem.1 ht
    obtain ⟨_, e6⟩ := tsP_at hp.rg (List.getElem?_eq_getElem hi)
    rw [e6] at e
    have := hp.row i
    omega
  · have l1 := h.l1
    have l2 := h.l2
    rw [tl] at l2
    unfold I64
    omega
end
variable {p : Pg} {P Q : List Int} {R : List (List Int)} {M : List Int} {B : List (List S59)} {K : Int}
theorem few_of (h : validM p = 0) (hl : p.rg.length = p.th.length) : Few p :=
  ⟨(valid_right h).2.th, (valid_right h).2.lo, hl, (valid_right h).2.row⟩
theorem valid_len (h : validM p = 0) : p.rg.length = p.th.length := by
  unfold validM at h
  split at h
  · cases h
  · split at h
    · rename_i hl; exact hl.1
    · cases h
abbrev noText : ByteArray := ⟨#[]⟩
end Go.Proofs.Ytemhpbdlonfikaa.P
-- Printed by xprint.py, a program of this session over the kit's printer.
namespace Go.Proofs.Ytemhpbdlonfikaa.P
open Go.RowKit Go.Proofs.YtemhpbdlonfikaaW.PrintWords Go.Proofs.YtemhpbdlonfikaaW.PrintLast Go.Proofs.YtemhpbdlonfikaaW.PrintMore
attribute [local go_sem] max2_int min2_int max_two min_two max_three min_three max_four min_four   -- for this text's walks alone

/-! ### weirref04_Put: function 64 -/
mutual
def weirref04_Put.j0 : Nat → Int → Option (ByteArray)
 | 0, _ => none
 | k + 1, x3 => weirref04_Put.l0 k x3 ([] : List Int)
def weirref04_Put.l0 : Nat → Int → List Int → Option (ByteArray)
 | 0, _, _ => none
 | k + 1, x3, x4 => if x3 ≥ 128 then (if x4.length < 140737488355328 then (weirref04_Put.l0 k (IntKind.u64.wrap (Int.tdiv x3 128)) (x4 ++ [((Int.tmod x3 128) + 128) % 256])) else (none)) else (if x4.length < 140737488355328 then (some (strOfNums (x4 ++ [(x3) % 256]))) else (none))
end
def weirref04_Put.f (k : Nat) (a0 : Int) : Option (ByteArray) := if a0 < 0 then (weirref04_Put.j0 k (Go.bits .xor .u64 18446744073709551615 (IntKind.u64.wrap ((IntKind.u64.wrap (a0)) * 2)))) else (weirref04_Put.j0 k (IntKind.u64.wrap ((IntKind.u64.wrap (a0)) * 2)))
theorem weirref04_Put.mono_l : ∀ k, (∀ y0, LeO (weirref04_Put.j0 k y0) (weirref04_Put.j0 (k + 1) y0)) ∧ (∀ y0 y1, LeO (weirref04_Put.l0 k y0 y1) (weirref04_Put.l0 (k + 1) y0 y1))
 | 0 => ⟨fun _ r h => by simp [weirref04_Put.j0] at h, fun _ _ r h => by simp [weirref04_Put.l0] at h⟩
 | k + 1 => by
  obtain ⟨ih0, ih1⟩ := weirref04_Put.mono_l k; refine ⟨?_, ?_⟩; intro y0; unfold weirref04_Put.j0; rotate_left; intro y0 y1; unfold weirref04_Put.l0; rotate_left
  all_goals (repeat' first
   | (with_reducible exact ih0 _)
   | (with_reducible exact ih1 _ _)
   | (with_reducible exact LeO.refl _)
   | (with_reducible exact LeO.none _)
   | (with_reducible refine LeO.ite ?_ ?_)
   | (with_reducible refine LeO.bind ?_ (fun _ => ?_))
   | exact ih0 _
   | exact ih1 _ _
   | exact LeO.none _
   | refine LeO.ite ?_ ?_
   | refine LeO.bind ?_ (fun _ => ?_))
theorem weirref04_Put.mono : ∀ a0 k, LeO (weirref04_Put.f k a0) (weirref04_Put.f (k + 1) a0) := by
 intro a0 k; obtain ⟨ih0, ih1⟩ := weirref04_Put.mono_l k; unfold weirref04_Put.f
 repeat' first
   | (with_reducible exact ih0 _)
   | (with_reducible exact ih1 _ _)
   | (with_reducible exact LeO.refl _)
   | (with_reducible exact LeO.none _)
   | (with_reducible refine LeO.ite ?_ ?_)
   | (with_reducible refine LeO.bind ?_ (fun _ => ?_))
   | exact ih0 _
   | exact ih1 _ _
   | exact LeO.none _
   | refine LeO.ite ?_ ?_
   | refine LeO.bind ?_ (fun _ => ?_)
set_option maxHeartbeats 8000000 in
set_option maxRecDepth 100000 in
theorem weirref04_Put.calls (k : Nat) (a0 : Int) (r : ByteArray) (w : World) (h : weirref04_Put.f k a0 = some r) :
  Calls Try.prog 64 #[.int .i64 a0] w fun e w' => e = .returned (.string r) ∧ Below w.heap.size w w' := by
 have HB := Aside0.mk (Below.refl w.heap.size w); have H : (if a0 < 0 then (weirref04_Put.j0 k (Go.bits .xor .u64 18446744073709551615 (IntKind.u64.wrap ((IntKind.u64.wrap (a0)) * 2)))) else (weirref04_Put.j0 k (IntKind.u64.wrap ((IntKind.u64.wrap (a0)) * 2)))) = some r := h; clear h; have HC2 := Aside0.mk H; clear H; go_enter Try.func64, Try.ntmps64
 go_upto_if 9 with (fail)
 go_cut [3] (fun v3 wc => ∃ (kq : Nat) (x3_1 : Int), v3 = .int .u64 x3_1 ∧ Aside0 (weirref04_Put.j0 kq x3_1 = some r) ∧ Aside0 (kq ≤ k) ∧ Aside0 (Below w.heap.size w wc))
 case first =>
  have H := HC2.out; clear HC2
  by_cases c3 : a0 < 0
  ·
   rw [if_pos c3] at H; have c3b0 : decide (a0 < 0) = true := decide_eq_true c3; clear c3
   (first | rw [c3b0] | (simp only [i64_w, i32_w]; rw [c3b0]) | skip)
   have H' := Aside0.mk H; clear H; go_wp2; go_meet
   case rel => exact ⟨_, (Go.bits .xor .u64 18446744073709551615 (IntKind.u64.wrap ((IntKind.u64.wrap (a0)) * 2))), ff_, H', ⟨by first | omega | exact Nat.le_refl _⟩, ⟨bel_⟩⟩
  ·
   rw [if_neg c3] at H; have c3b0 : decide (a0 < 0) = false := decide_eq_false c3; clear c3
   (first | rw [c3b0] | (simp only [i64_w, i32_w]; rw [c3b0]) | skip)
   have H' := Aside0.mk H; clear H; go_wp2; go_meet
   case rel => exact ⟨_, (IntKind.u64.wrap ((IntKind.u64.wrap (a0)) * 2)), ff_, H', ⟨by first | omega | exact Nat.le_refl _⟩, ⟨bel_⟩⟩
 case rest =>
  clear HC2; obtain ⟨kq, x3_1, rfl, HA, HJ1, HB⟩ := hcut
  cases kq with
  | zero => exact absurd HA.out (by simp [weirref04_Put.j0])
  | succ kj1 =>
   have H := HA.out; clear HA; simp only [weirref04_Put.j0] at H; have H' := Aside0.mk H; clear H; go_wp2
   go_loopg [3, 4] kj1 (fun kq v3 v4 w' => ∃ (x3_2 : Int) (x4_2 : List Int), v3 = .int .u64 x3_2 ∧ Aside0 (weirref04_Put.l0 kq x3_2 x4_2 = some r) ∧ Aside0 (kq ≤ kj1) ∧ Aside0 (Kd.R (Kd.int .u8) 5 w' w.heap.size (fun _ => True) v4 x4_2) ∧ Aside0 (Below w.heap.size w w'))
   case atStart => exact ⟨(x3_1), (([] : List Int)), ff_, H', ⟨Nat.le_refl _⟩, ⟨by first | exact Kd.R_nil _ _ _ _ _ | exact Kd.N_nil _ _ _ _ _ | exact Kd.V_nil _ _ _ _ _ | exact Kd.Q_nil _ _ _ _ _ | exact Kd.S_nil _ _ _ _ _⟩, ⟨bel_⟩⟩
   case round =>
    clear H'; obtain ⟨x3_2, x4_2, rfl, HA, HK2, HO_4, HB⟩ := hrel
    cases gk with
    | zero => exact absurd HA.out (by simp [weirref04_Put.l0])
    | succ k2 =>
     have H := HA.out; clear HA; simp only [weirref04_Put.l0] at H
     by_cases c4 : x3_2 ≥ 128
     ·
      rw [if_pos c4] at H; have c4b0 : decide (128 ≤ x3_2) = true := decide_eq_true c4; clear c4
      by_cases c5 : x4_2.length < 140737488355328
      ·
       rw [if_pos c5] at H; have LMc5 := Aside0.mk c5; clear c5; obtain ⟨y619, hy619⟩ : ∃ y_ : List Int, y_ = (x4_2 ++ [((Int.tmod x3_2 128) + 128) % 256]) := ⟨_, rfl⟩; replace H : (weirref04_Put.l0 k2 (IntKind.u64.wrap (Int.tdiv x3_2 128)) y619) = some r := by first | (rw [hy619]; with_reducible exact H) | (have H2_ := (Option.bind_some _ _).symm.trans H; rw [hy619]; with_reducible exact H2_) | (have H2_ := (Option.bind_some _ _).symm.trans H; with_reducible exact H2_) | with_reducible exact H | (rw [hy619]; exact H) | exact H
       have Ny619 := Aside0.mk hy619; clear hy619; have H' := Aside0.mk H; clear H
       go_wp2_with (first | ((with_reducible refine gate_builtin (b := .append) (xs := #[.tmp 14, .tmp 19]) rfl ?_); at_builtin; refine Kd.R_append (Kd.int .u8) (w0 := w) w.heap.size rfl (.tmp 14) (.tmp 19) 142 5 (.int .u8 0) 1 rfl Try.underlying142 info5 rfl (by decide) (by omega) u4 x4_2 (((Int.tmod x3_2 128) + 128) % 256) [.int .u8 (((Int.tmod x3_2 128) + 128) % 256)] (fun _ => True) (fun _ => False) rfl rfl ?aP (fun _ hk => hk.elim) ?aF ?aO ?aB ?aS ?aL ?_; (case aP => exact rfl); (case aB => exact bel_); (case aF => exact (fun _ _ => trivial)); (case aO => exact (rs_ HO_4)); (case aS => exact (below_size bel_)); (case aL => have := LMc5.out; omega); intro v620 w6 ho hb hg hat; rw [← Ny619.out] at ho; have n0_ := Aside0.mk (hb); have n1_ := Aside0.mk (ho); clear HB; clear HO_4; have HB := n0_; have HO621 := n1_; clear n0_ n1_; clear ho hb hg hat))
       go_roundg k2
       case measure => have := HJ1.out; have := HK2.out; omega
       case rel => exact ⟨(IntKind.u64.wrap (Int.tdiv x3_2 128)), (y619), ff_, H', ⟨by have := HJ1.out; have := HK2.out; omega⟩, ⟨rs_ HO621⟩, ⟨bel_⟩⟩
      ·
       rw [if_neg c5] at H; exact absurd H (by simp)
     ·
      rw [if_neg c4] at H; have c4b0 : decide (128 ≤ x3_2) = false := decide_eq_false c4; clear c4
      by_cases c7 : x4_2.length < 140737488355328
      ·
       rw [if_pos c7] at H; have LMc7 := Aside0.mk c7; clear c7; obtain ⟨y622, hy622⟩ : ∃ y_ : List Int, y_ = (x4_2 ++ [(x3_2) % 256]) := ⟨_, rfl⟩; replace H : (some (strOfNums y622)) = some r := by first | (rw [hy622]; with_reducible exact H) | (have H2_ := (Option.bind_some _ _).symm.trans H; rw [hy622]; with_reducible exact H2_) | (have H2_ := (Option.bind_some _ _).symm.trans H; with_reducible exact H2_) | with_reducible exact H | (rw [hy622]; exact H) | exact H
       have Ny622 := Aside0.mk hy622; clear hy622; obtain rfl := Option.some.inj H
       go_wp2_with (first | ((with_reducible refine gate_builtin (b := .append) (xs := #[.tmp 23, .tmp 26]) rfl ?_); at_builtin; refine Kd.R_append (Kd.int .u8) (w0 := w) w.heap.size rfl (.tmp 23) (.tmp 26) 142 5 (.int .u8 0) 1 rfl Try.underlying142 info5 rfl (by decide) (by omega) u4 x4_2 ((x3_2) % 256) [.int .u8 ((x3_2) % 256)] (fun _ => True) (fun _ => False) rfl rfl ?aP (fun _ hk => hk.elim) ?aF ?aO ?aB ?aS ?aL ?_; (case aP => exact rfl); (case aB => exact bel_); (case aF => exact (fun _ _ => trivial)); (case aO => exact (rs_ HO_4)); (case aS => exact (below_size bel_)); (case aL => have := LMc7.out; omega); intro v623 w8 ho hb hg hat; rw [← Ny622.out] at ho; have n0_ := Aside0.mk (hb); have n1_ := Aside0.mk (ho); clear HB; clear HO_4; have HB := n0_; have HO624 := n1_; clear n0_ n1_; clear ho hb hg hat; have hcv9 := own_string (P := Try.prog) Try.underlying142 Try.underlying5 Try.underlying9 (Kd.own_of_R HO624.out)))
       go_ret
       exact ⟨ee_, bel_⟩
      ·
       rw [if_neg c7] at H; exact absurd H (by simp)

end Go.Proofs.Ytemhpbdlonfikaa.P
