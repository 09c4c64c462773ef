/- Which instructions fit, and which lists of texts rise: the program's answers and the document's. -/
import Derived.Test.YtemhpbdlonfikaaPve
namespace Go.Proofs.Ytemhpbdlonfikaa.P
open Go Go.RowKit Go.Proofs.YtemhpbdlonfikaaW.PrintWords Go.Proofs.YtemhpbdlonfikaaW.PrintLast Go.Proofs.YtemhpbdlonfikaaW.PrintMore

/-! ### rising texts -/
theorem less_irrefl : ∀ a : List UInt8, Op.bytesLess a a = false
  | [] => rfl
  | x :: a => by
    unfold Op.bytesLess
    rw [less_irrefl a]
    simp
theorem less_trans : ∀ a b c : List UInt8, Op.bytesLess a b = true → Op.bytesLess b c = true → Op.bytesLess a c = true
  | a, [], c, h, _ => by cases a <;> simp [Op.bytesLess] at h
  | a, y :: b, [], _, h => by simp [Op.bytesLess] at h
  | [], y :: b, z :: c, _, _ => rfl
  | x :: a, y :: b, z :: c, h1, h2 => by
    simp only [Op.bytesLess, Bool.or_eq_true, decide_eq_true_eq, Bool.and_eq_true, beq_iff_eq] at h1 h2 ⊢
    rcases h1 with h1 | ⟨rfl, h1⟩
    · rcases h2 with h2 | ⟨rfl, h2⟩
      · exact .inl (UInt8.lt_trans h1 h2)
      · exact .inl h1
    · rcases h2 with h2 | ⟨rfl, h2⟩
      · exact .inl h2
      · exact .inr ⟨rfl, less_trans a b c h1 h2⟩
/-- The text at a place. -/
def tx (l : List ByteArray) (i : Nat) : ByteArray := rdOf ByteArray.empty l (i : Int)
/-- Do the texts rise from place i on (d of them left)? -/
def risesB (l : List ByteArray) (i d : Nat) : Bool := (List.range d).all fun (j : Nat) => Op.bytesLess (tx l (i + j - 1)).toList (tx l (i + j)).toList
theorem risesB_succ (l : List ByteArray) (i d : Nat) : risesB l i (d + 1) = (Op.bytesLess (tx l (i - 1)).toList (tx l i).toList && risesB l (i + 1) d) := by
  unfold risesB
  rw [List.range_succ_eq_map, List.all_cons, List.all_map]
  congr 2
  funext j
  show Op.bytesLess (tx l (i + (j + 1) - 1)).toList (tx l (i + (j + 1))).toList = _
  rw [show i + (j + 1) - 1 = i + 1 + j - 1 by omega, show i + (j + 1) = i + 1 + j by omega]
theorem rises_ref (l : List ByteArray) (hl : l.length ≤ 9223372036854775807) : Ev (fun k => weirref09_rises.f k l) (risesB l 1 (l.length - 1)) := by
  have key : ∀ (d i : Nat), 1 ≤ i → (i + d = l.length ∨ (d = 0 ∧ l.length ≤ i)) → Ev (fun k => weirref09_rises.l0 k l i) (risesB l i d) := by
    intro d
    induction d with
    | zero =>
      intro i _ hi
      refine Ev.step (f := fun _ => some true) (fun k => ?_) (Ev.now _)
      simp only [weirref09_rises.l0]
      rw [if_neg (by omega)]
    | succ d ih =>
      intro i h1 hi
      have hw := wrap_nat (k := i) (n := l.length) (by omega) hl
      have hm : wrap64 ((i : Int) - 1) = ((i - 1 : Nat) : Int) := by unfold wrap64; omega
      rw [risesB_succ]
      by_cases hc : Op.bytesLess (tx l (i - 1)).toList (tx l i).toList = true
      · rw [hc, Bool.true_and]
        refine Ev.step (fun k => ?_) (ih (i + 1) (by omega) (by omega))
        simp only [weirref09_rises.l0]
        rw [if_pos (by omega), hm, if_pos (by omega), if_pos (by omega), if_pos (by omega), if_pos (show Op.bytesLess (rdOf ByteArray.empty l ((i - 1 : Nat) : Int)).toList (rdOf ByteArray.empty l (i : Int)).toList = true from hc), hw]
      · rw [Bool.eq_false_iff.2 hc, Bool.false_and]
        refine Ev.step (f := fun _ => some false) (fun k => ?_) (Ev.now _)
        simp only [weirref09_rises.l0]
        rw [if_pos (by omega), hm, if_pos (by omega), if_pos (by omega), if_pos (by omega), if_neg (show ¬ Op.bytesLess (rdOf ByteArray.empty l ((i - 1 : Nat) : Int)).toList (rdOf ByteArray.empty l (i : Int)).toList = true from hc)]
  have h0 := key (l.length - 1) 1 (Nat.le_refl _) (by omega)
  exact Ev.congr (fun k => by simp only [weirref09_rises.f]; rfl) h0
theorem rises_lt {l : List ByteArray} (h : risesB l 1 (l.length - 1) = true) : ∀ (d i : Nat), i + d + 1 < l.length → Op.bytesLess (tx l i).toList (tx l (i + d + 1)).toList = true := by
  have one : ∀ i : Nat, i + 1 < l.length → Op.bytesLess (tx l i).toList (tx l (i + 1)).toList = true := fun i hi => by
    have := List.all_eq_true.1 h i (List.mem_range.2 (by omega))
    rwa [show 1 + i - 1 = i by omega, show 1 + i = i + 1 by omega] at this
  intro d
  induction d with
  | zero => exact fun i hi => one i hi
  | succ d ih => exact fun i hi => less_trans _ _ _ (ih i (by omega)) (one (i + d + 1) (by omega))
/-- All texts are registers' names. -/
def regsB (l : List ByteArray) (i d : Nat) : Bool := (List.range d).all fun (j : Nat) => among (tx l (i + j)) 16
theorem regsB_succ (l : List ByteArray) (i d : Nat) : regsB l i (d + 1) = (among (tx l i) 16 && regsB l (i + 1) d) := by
  unfold regsB
  rw [List.range_succ_eq_map, List.all_cons, List.all_map]
  congr 2
  funext j
  show among (tx l (i + (j + 1))) 16 = _
  rw [show i + (j + 1) = i + 1 + j by omega]
theorem reg_is (s : ByteArray) : prog_Register.f s = some (among s 16) := by
  obtain ⟨r, h1, h2⟩ := register_same s
  have : r = among s 16 := by have := h2; unfold weirref09_Register.f at this; exact (Option.some.inj this).symm
  rw [h1, this]
theorem rises_reg (l : List ByteArray) (hl : l.length ≤ 9223372036854775807) : Ev (fun k => prog_rises__prog_Register.f k l) (risesB l 1 (l.length - 1) && regsB l 0 l.length) := by
  have key : ∀ (d i : Nat), 1 ≤ i → i + d = l.length → Ev (fun k => prog_rises__prog_Register.l0 k l l l.length i) (risesB l i d && regsB l i d) := by
    intro d
    induction d with
    | zero =>
      intro i _ hi
      refine Ev.step (f := fun _ => some true) (fun k => ?_) (Ev.now _)
      simp only [prog_rises__prog_Register.l0]
      rw [if_neg (by omega)]
    | succ d ih =>
      intro i h1 hi
      have hw := wrap_nat (k := i) (n := l.length) (by omega) hl
      have hm : wrap64 ((i : Int) - 1) = ((i - 1 : Nat) : Int) := by unfold wrap64; omega
      rw [risesB_succ, regsB_succ]
      by_cases hc : Op.bytesLess (tx l (i - 1)).toList (tx l i).toList = true
      · rw [hc, Bool.true_and]
        cases ha : among (tx l i) 16 with
        | true =>
          rw [Bool.true_and]
          refine Ev.step (fun k => ?_) (ih (i + 1) (by omega) (by omega))
          simp only [prog_rises__prog_Register.l0]
          rw [if_pos (by omega), if_pos (by omega), if_pos (by omega), if_pos (by omega), hm, if_pos (by omega), if_pos (by omega), if_pos (show Op.bytesLess (rdOf ByteArray.empty l ((i - 1 : Nat) : Int)).toList (rdOf ByteArray.empty l (i : Int)).toList = true from hc), reg_is, Option.bind_some, if_pos (show among (rdOf ByteArray.empty l (i : Int)) 16 = true from ha), hw]
        | false =>
          rw [Bool.false_and, Bool.and_false]
          refine Ev.step (f := fun _ => some false) (fun k => ?_) (Ev.now _)
          simp only [prog_rises__prog_Register.l0]
          rw [if_pos (by omega), if_pos (by omega), if_pos (by omega), if_pos (by omega), hm, if_pos (by omega), if_pos (by omega), if_pos (show Op.bytesLess (rdOf ByteArray.empty l ((i - 1 : Nat) : Int)).toList (rdOf ByteArray.empty l (i : Int)).toList = true from hc), reg_is, Option.bind_some, if_neg (by rw [show among (rdOf ByteArray.empty l (i : Int)) 16 = false from ha]; decide)]
      · rw [Bool.eq_false_iff.2 hc, Bool.false_and, Bool.false_and]
        refine Ev.step (f := fun _ => some false) (fun k => ?_) (Ev.now _)
        simp only [prog_rises__prog_Register.l0]
        rw [if_pos (by omega), if_pos (by omega), if_pos (by omega), if_pos (by omega), hm, if_pos (by omega), if_pos (by omega), if_neg (show ¬ Op.bytesLess (rdOf ByteArray.empty l ((i - 1 : Nat) : Int)).toList (rdOf ByteArray.empty l (i : Int)).toList = true from hc)]
  refine Ev.congr (g := fun k => prog_rises__prog_Register.f k l) (f := fun k => prog_rises__prog_Register.l0 k l l l.length ((0 : Nat) : Int)) (fun k => by simp only [prog_rises__prog_Register.f]; rfl) ?_
  rcases Nat.eq_zero_or_pos l.length with h0 | h0
  · rw [h0]
    refine Ev.step (f := fun _ => some true) (fun k => ?_) (Ev.now _)
    simp only [prog_rises__prog_Register.l0]
    rw [if_neg (by omega)]
  · obtain ⟨n, hn⟩ : ∃ n, l.length = n + 1 := ⟨l.length - 1, by omega⟩
    have hk := key n 1 (Nat.le_refl _) (by omega)
    rw [show l.length - 1 = n by omega]
    have hw := wrap_nat (k := 0) (n := l.length) (by omega) hl
    rw [hn, regsB_succ]
    cases ha : among (tx l 0) 16 with
    | true =>
      rw [Bool.true_and]
      refine Ev.step (fun k => ?_) hk
      simp only [prog_rises__prog_Register.l0]
      rw [← hn, if_pos (by omega), if_pos (by omega), if_pos (by omega), if_neg (by omega), reg_is, Option.bind_some, if_pos (show among (rdOf ByteArray.empty l ((0 : Nat) : Int)) 16 = true from ha), hw]
    | false =>
      rw [Bool.false_and, Bool.and_false]
      refine Ev.step (f := fun _ => some false) (fun k => ?_) (Ev.now _)
      simp only [prog_rises__prog_Register.l0]
      rw [← hn, if_pos (by omega), if_pos (by omega), if_pos (by omega), if_neg (by omega), reg_is, Option.bind_some, if_neg (by rw [show among (rdOf ByteArray.empty l ((0 : Nat) : Int)) 16 = false from ha]; decide)]
end Go.Proofs.Ytemhpbdlonfikaa.P
