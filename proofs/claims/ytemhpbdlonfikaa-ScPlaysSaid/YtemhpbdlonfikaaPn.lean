/- Name and Register of the program answer what the document's answer, at every text. -/
import Derived.Test.YtemhpbdlonfikaaP2
import Derived.Test.YtemhpbdlonfikaaP8
import Derived.Test.YtemhpbdlonfikaaHreg
import Derived.Test.YtemhpbdlonfikaaP1
namespace Go.Proofs.Ytemhpbdlonfikaa.P
open Go.RowKit Go.Proofs.YtemhpbdlonfikaaW.PrintWords Go.Proofs.YtemhpbdlonfikaaW.PrintLast

theorem wrap_small {x : Int} (h0 : -9223372036854775808 ≤ x) (h1 : x ≤ 9223372036854775807) : wrap64 x = x := by
  unfold wrap64
  omega
/-! ### Name -/
/-- Is a byte a letter, a digit? -/
def isL (c : Int) : Bool := decide ((97 ≤ c ∧ c ≤ 122) ∨ (65 ≤ c ∧ c ≤ 90) ∨ c = 95)
def isD (c : Int) : Bool := decide (48 ≤ c ∧ c ≤ 57)
theorem letter_is (c : Int) : lexis_letter.f c = some (isL c) := by
  unfold lexis_letter.f isL
  (repeat' split) <;> (refine congrArg some ?_; rw [Bool.eq_iff_iff]; simp only [beq_iff_eq, decide_eq_true_eq, true_iff]; omega)
theorem letter_ref (c : Int) : weirref05_letter.f c = some (isL c) := by
  unfold weirref05_letter.f isL
  (repeat' split) <;> (refine congrArg some ?_; rw [Bool.eq_iff_iff]; simp only [beq_iff_eq, decide_eq_true_eq, true_iff]; omega)
theorem digit_is (c : Int) : lexis_digit.f c = some (isD c) := by
  unfold lexis_digit.f isD
  (repeat' split) <;> (refine congrArg some ?_; rw [Bool.eq_iff_iff]; simp only [decide_eq_true_eq, Bool.false_eq_true, false_iff]; omega)
theorem digit_ref (c : Int) : weirref05_digit.f c = some (isD c) := by
  unfold weirref05_digit.f isD
  (repeat' split) <;> (refine congrArg some ?_; rw [Bool.eq_iff_iff]; simp only [decide_eq_true_eq, Bool.false_eq_true, false_iff]; omega)
/-- The byte at a place; 0 behind the end. -/
def by_ (s : ByteArray) (i : Nat) : Int := if (i : Int) < s.size then bt s i else 0
/-- Does a name that has come to place i go on? -/
def goes (s : ByteArray) (i : Nat) : Bool :=
  decide ((i : Int) < s.size) && (isL (bt s i) || isD (bt s i) || bt s i == 46 || ((bt s i == 43 || bt s i == 45) && (isL (by_ s (i + 1)) || isD (by_ s (i + 1)))))
theorem byteAt_is (s : ByteArray) (i : Nat) : lexis_byteAt.f s i = some (by_ s i) := by
  unfold lexis_byteAt.f by_
  split
  · rw [if_pos (by omega)]
  · rfl

theorem name_both (s : ByteArray) (hs : s.size ≤ 140737488351232) (d : Nat) : ∀ i : Nat, 1 ≤ i → i + d = s.size →
    ∃ r, Ev (fun k => lexis_name.l0 k s i) r ∧ Ev (fun k => weirref05_name.l0 k s 0 i) r := by
  induction d with
  | zero =>
    intro i h1 hi
    refine ⟨i, ?_, ?_⟩
    · refine Ev.step (f := fun _ => some (i : Int)) (fun k => ?_) (Ev.now _)
      have e1 : wrap64 ((i : Int) + 1) = ((i + 1 : Nat) : Int) := by rw [wrap_small (by omega) (by omega)]; omega
      simp only [lexis_name.l0]
      rw [e1, byteAt_is, byteAt_is]
      simp only [Option.bind_some]
      rw [if_pos (by omega)]
    · refine Ev.step (f := fun _ => some (i : Int)) (fun k => ?_) (Ev.now _)
      simp only [weirref05_name.l0]
      rw [wrap_small (x := 0 + (i : Int)) (by omega) (by omega), if_neg (by omega)]
  | succ d ih =>
    intro i h1 hi
    have e1 : wrap64 ((i : Int) + 1) = ((i + 1 : Nat) : Int) := by rw [wrap_small (by omega) (by omega)]; omega
    have e0 : wrap64 (0 + (i : Int)) = (i : Int) := by rw [wrap_small (by omega) (by omega)]; omega
    obtain ⟨r, hr1, hr2⟩ := ih (i + 1) (by omega) (by omega)
    have hby : by_ s i = bt s i := by unfold by_; rw [if_pos (by omega)]
    have hl : ∀ k, lexis_name.l0 (k + 2) s i = if goes s i then lexis_name.l0 k s ((i + 1 : Nat) : Int) else some (i : Int) := by
      intro k
      have hlt : decide ((i : Int) < s.size) = true := decide_eq_true (by omega)
      simp only [lexis_name.l0, lexis_name.j2, e1, byteAt_is, letter_is, digit_is, Option.bind_some, hby, goes, hlt, Bool.true_and]
      rw [if_neg (by omega)]
      generalize isL (bt s i) = p1
      generalize isD (bt s i) = p2
      generalize isL (by_ s (i + 1)) = p3
      generalize isD (by_ s (i + 1)) = p4
      generalize bt s i = c
      by_cases a3 : c = 46
      · subst a3; cases p1 <;> cases p2 <;> simp
      by_cases a4 : c = 43
      · subst a4; cases p1 <;> cases p2 <;> cases p3 <;> cases p4 <;> simp
      by_cases a5 : c = 45
      · subst a5; cases p1 <;> cases p2 <;> cases p3 <;> cases p4 <;> simp
      cases p1 <;> cases p2 <;> simp [a3, a4, a5]
    have hf : ∀ k, weirref05_name.l0 (k + 3) s 0 i = if goes s i then weirref05_name.l0 k s 0 ((i + 1 : Nat) : Int) else some (i : Int) := by
      intro k
      have hlt : decide ((i : Int) < s.size) = true := decide_eq_true (by omega)
      simp only [weirref05_name.l0, weirref05_name.j2, weirref05_name.j3, e0, e1, letter_ref, digit_ref, Option.bind_some, goes, hlt, Bool.true_and]
      rw [if_pos (by omega), if_pos (by omega)]
      have hv : (isL (bt s i) = true → bt s i ≠ 43 ∧ bt s i ≠ 45) ∧ (isD (bt s i) = true → bt s i ≠ 43 ∧ bt s i ≠ 45) := by
        unfold isL isD
        constructor <;> (intro h; have := of_decide_eq_true h; constructor <;> omega)
      obtain ⟨v1, v2⟩ := hv
      by_cases h2 : ((i + 1 : Nat) : Int) < s.size
      · have hb2 : by_ s (i + 1) = bt s ((i + 1 : Nat) : Int) := by unfold by_; rw [if_pos h2]
        have hp : (0 : Int) ≤ ((i + 1 : Nat) : Int) := by omega
        rw [hb2, decide_eq_true h2]
        simp only [if_true, if_pos hp, if_pos h2]
        generalize isL (bt s i) = p1 at *
        generalize isD (bt s i) = p2 at *
        generalize isL (bt s ((i + 1 : Nat) : Int)) = p3
        generalize isD (bt s ((i + 1 : Nat) : Int)) = p4
        generalize bt s i = c at *
        by_cases a3 : c = 46
        · subst a3; cases p1 <;> cases p2 <;> simp
        by_cases a4 : c = 43
        · subst a4; cases p1 <;> cases p2 <;> cases p3 <;> cases p4 <;> simp_all
        by_cases a5 : c = 45
        · subst a5; cases p1 <;> cases p2 <;> cases p3 <;> cases p4 <;> simp_all
        cases p1 <;> cases p2 <;> simp [a3, a4, a5]
      · have hb2 : by_ s (i + 1) = 0 := by unfold by_; rw [if_neg h2]
        have w1 : isL 0 = false := by decide
        have w2 : isD 0 = false := by decide
        rw [hb2, decide_eq_false h2, w1, w2]
        generalize isL (bt s i) = p1 at *
        generalize isD (bt s i) = p2 at *
        generalize bt s i = c at *
        by_cases a3 : c = 46
        · subst a3; cases p1 <;> cases p2 <;> simp
        by_cases a4 : c = 43
        · subst a4; cases p1 <;> cases p2 <;> simp_all
        by_cases a5 : c = 45
        · subst a5; cases p1 <;> cases p2 <;> simp_all
        cases p1 <;> cases p2 <;> simp [a3, a4, a5]
    by_cases hg : goes s i = true
    · refine ⟨r, ?_, ?_⟩
      · refine Ev.step (fun k => rfl) (Ev.step (fun k => ?_) hr1)
        rw [hl k, if_pos hg]
      · refine Ev.step (fun k => rfl) (Ev.step (fun k => rfl) (Ev.step (fun k => ?_) hr2))
        rw [hf k, if_pos hg]
    · refine ⟨i, ?_, ?_⟩
      · refine Ev.step (fun k => rfl) (Ev.step (f := fun _ => some (i : Int)) (fun k => ?_) (Ev.now _))
        rw [hl k, if_neg hg]
      · refine Ev.step (fun k => rfl) (Ev.step (fun k => rfl) (Ev.step (f := fun _ => some (i : Int)) (fun k => ?_) (Ev.now _)))
        rw [hf k, if_neg hg]

theorem name_tells (s : ByteArray) (hs : s.size ≤ 140737488351232) : ∃ r, Ev (fun k => lexis_Name.f k s) r ∧ Ev (fun k => weirref05_Name.f k s) r := by
  by_cases h0 : s.size = 0
  · have hl : s.toList = [] := by
      rw [ByteArray.toList_eq]
      exact List.eq_nil_of_length_eq_zero (by rw [Array.length_toList]; exact h0)
    refine ⟨false, Ev.congr (fun k => ?_) (Ev.now _), Ev.congr (fun k => ?_) (Ev.now _)⟩
    · simp only [lexis_Name.f]; rw [if_pos hl]
    · simp only [weirref05_Name.f]; rw [if_neg (by omega)]
  have hl : ¬ s.toList = [] := by
    rw [ByteArray.toList_eq]
    exact fun e => h0 (by have := congrArg List.length e; rw [Array.length_toList] at this; exact this)
  by_cases h1 : s.size ≤ 64
  · have hb := letter_is (bt s 0)
    have hr := letter_ref (bt s 0)
    by_cases hp : isL (bt s 0) = true
    · obtain ⟨r, h2, h3⟩ := name_both s hs (s.size - 1) 1 (by omega) (by omega)
      rw [hp] at hb hr
      refine ⟨r == (s.size : Int), Ev.congr (f := fun k => (lexis_name.f k s).bind fun t => some (t == (s.size : Int))) (fun k => ?_) (Ev.bind (f := fun _ t => some (t == (s.size : Int))) (Ev.congr (f := fun k => lexis_name.j0 k s false) (fun k => ?_) (Ev.step (fun k => ?_) h2)) (Ev.now _)), Ev.congr (f := fun k => (weirref05_name.f k s 0).bind fun t => some (t == (s.size : Int))) (fun k => ?_) (Ev.bind (f := fun _ t => some (t == (s.size : Int))) (Ev.congr (f := fun k => weirref05_name.j0 k s 0 false) (fun k => ?_) (Ev.step (fun k => ?_) h3)) (Ev.now _))⟩
      · simp only [lexis_Name.f]; rw [if_neg hl, if_pos (by omega)]
      · simp only [lexis_name.f]; rw [if_neg hl, if_pos (by omega), hb]; rfl
      · simp only [lexis_name.j0, Bool.false_eq_true, if_false]; rfl
      · simp only [weirref05_Name.f]; rw [if_pos (by omega), if_pos (by omega)]
      · simp only [weirref05_name.f]; rw [if_neg (by omega), if_pos (by omega), if_pos (by omega), hr]; rfl
      · simp only [weirref05_name.j0, Bool.false_eq_true, if_false]; rfl
    · have hp' : isL (bt s 0) = false := by simpa using hp
      rw [hp'] at hb hr
      have hz : ((0 : Int) == (s.size : Int)) = false := by simp; omega
      refine ⟨false, Ev.congr (f := fun k => (lexis_name.f k s).bind fun t => some (t == (s.size : Int))) (fun k => ?_) (by rw [← hz]; exact Ev.bind (f := fun _ t => some (t == (s.size : Int))) (Ev.congr (f := fun k => lexis_name.j0 k s true) (fun k => by simp only [lexis_name.f]; rw [if_neg hl, if_pos (by omega), hb]; simp only [Option.bind_some, Bool.not_false]) (Ev.step (fun k => by simp only [lexis_name.j0, if_true]) (Ev.now (0 : Int)))) (Ev.now _)), Ev.congr (f := fun k => (weirref05_name.f k s 0).bind fun t => some (t == (s.size : Int))) (fun k => ?_) (by rw [← hz]; exact Ev.bind (f := fun _ t => some (t == (s.size : Int))) (Ev.congr (f := fun k => weirref05_name.j0 k s 0 true) (fun k => by simp only [weirref05_name.f]; rw [if_neg (by omega), if_pos (by omega), if_pos (by omega), hr]; simp only [Option.bind_some, Bool.not_false]) (Ev.step (fun k => by simp only [weirref05_name.j0, if_true]) (Ev.now (0 : Int)))) (Ev.now _))⟩
      · simp only [lexis_Name.f]; rw [if_neg hl, if_pos (by omega)]
      · simp only [weirref05_Name.f]; rw [if_pos (by omega), if_pos (by omega)]
  · refine ⟨false, Ev.congr (fun k => ?_) (Ev.now _), Ev.congr (fun k => ?_) (Ev.now _)⟩
    · simp only [lexis_Name.f]; rw [if_neg hl, if_neg (by omega)]
    · simp only [weirref05_Name.f]; rw [if_pos (by omega), if_neg (by omega)]

end Go.Proofs.Ytemhpbdlonfikaa.P
