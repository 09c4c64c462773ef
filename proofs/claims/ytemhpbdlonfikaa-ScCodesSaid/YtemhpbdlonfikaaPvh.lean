/- Name and Register of the program answer what the document's answer, at every text. -/
import Derived.Test.YtemhpbdlonfikaaP3
import Derived.Test.YtemhpbdlonfikaaP4
import Derived.Test.YtemhpbdlonfikaaP5
import Derived.Test.YtemhpbdlonfikaaP6
import Derived.Test.YtemhpbdlonfikaaP7
import Derived.Test.YtemhpbdlonfikaaHreg
import Derived.Test.YtemhpbdlonfikaaP9
import Derived.Test.YtemhpbdlonfikaaP11
import Derived.Test.YtemhpbdlonfikaaP12
import Derived.Test.YtemhpbdlonfikaaP13
import Derived.Test.YtemhpbdlonfikaaP14
import Derived.Test.YtemhpbdlonfikaaEa
import Derived.Test.YtemhpbdlonfikaaPua
namespace Go.Proofs.Ytemhpbdlonfikaa.P
open Go.RowKit Go.Proofs.YtemhpbdlonfikaaW.PrintWords Go.Proofs.YtemhpbdlonfikaaW.PrintLast

theorem wrap_small {x : Int} (h0 : -9223372036854775808 ≤ x) (h1 : x ≤ 9223372036854775807) : wrap64 x = x := by
  unfold wrap64
  omega
/-! ### Name -/
/-- Is a byte a letter, a digit? -/
def isL (c : Int) : Bool := decide ((97 ≤ c ∧ c ≤ 122) ∨ (65 ≤ c ∧ c ≤ 90) ∨ c = 95)
def isD (c : Int) : Bool := decide (48 ≤ c ∧ c ≤ 57)
theorem letter_is (c : Int) : lexis_letter.f c = some (isL c) := by
  unfold lexis_letter.f isL
  (repeat' split) <;> (refine congrArg some ?_; rw [Bool.eq_iff_iff]; simp only [beq_iff_eq, decide_eq_true_eq, true_iff]; omega)
theorem letter_ref (c : Int) : weirref05_letter.f c = some (isL c) := by
  unfold weirref05_letter.f isL
  (repeat' split) <;> (refine congrArg some ?_; rw [Bool.eq_iff_iff]; simp only [beq_iff_eq, decide_eq_true_eq, true_iff]; omega)
theorem digit_is (c : Int) : lexis_digit.f c = some (isD c) := by
  unfold lexis_digit.f isD
  (repeat' split) <;> (refine congrArg some ?_; rw [Bool.eq_iff_iff]; simp only [decide_eq_true_eq, Bool.false_eq_true, false_iff]; omega)
theorem digit_ref (c : Int) : weirref05_digit.f c = some (isD c) := by
  unfold weirref05_digit.f isD
  (repeat' split) <;> (refine congrArg some ?_; rw [Bool.eq_iff_iff]; simp only [decide_eq_true_eq, Bool.false_eq_true, false_iff]; omega)
/-- The byte at a place; 0 behind the end. -/
def by_ (s : ByteArray) (i : Nat) : Int := if (i : Int) < s.size then bt s i else 0
/-- Does a name that has come to place i go on? -/
def goes (s : ByteArray) (i : Nat) : Bool :=
  decide ((i : Int) < s.size) && (isL (bt s i) || isD (bt s i) || bt s i == 46 || ((bt s i == 43 || bt s i == 45) && (isL (by_ s (i + 1)) || isD (by_ s (i + 1)))))
theorem byteAt_is (s : ByteArray) (i : Nat) : lexis_byteAt.f s i = some (by_ s i) := by
  unfold lexis_byteAt.f by_
  split
  · rw [if_pos (by omega)]
  · rfl

theorem name_both (s : ByteArray) (hs : s.size ≤ 140737488351232) (d : Nat) : ∀ i : Nat, 1 ≤ i → i + d = s.size →
    ∃ r, Ev (fun k => lexis_name.l0 k s i) r ∧ Ev (fun k => weirref05_name.l0 k s 0 i) r := by
  induction d with
  | zero =>
    intro i h1 hi
    refine ⟨i, ?_, ?_⟩
    · refine Ev.step (f := fun _ => some (i : Int)) (fun k => ?_) (Ev.now _)
      have e1 : wrap64 ((i : Int) + 1) = ((i + 1 : Nat) : Int) := by rw [wrap_small (by omega) (by omega)]; omega
      simp only [lexis_name.l0]
      rw [e1, byteAt_is, byteAt_is]
      simp only [Option.bind_some]
      rw [if_pos (by omega)]
    · refine Ev.step (f := fun _ => some (i : Int)) (fun k => ?_) (Ev.now _)
      simp only [weirref05_name.l0]
      rw [wrap_small (x := 0 + (i : Int)) (by omega) (by omega), if_neg (by omega)]
  | succ d ih =>
    intro i h1 hi
    have e1 : wrap64 ((i : Int) + 1) = ((i + 1 : Nat) : Int) := by rw [wrap_small (by omega) (by omega)]; omega
    have e0 : wrap64 (0 + (i : Int)) = (i : Int) := by rw [wrap_small (by omega) (by omega)]; omega
    obtain ⟨r, hr1, hr2⟩ := ih (i + 1) (by omega) (by omega)
    have hby : by_ s i = bt s i := by unfold by_; rw [if_pos (by omega)]
    have hl : ∀ k, lexis_name.l0 (k + 2) s i = if goes s i then lexis_name.l0 k s ((i + 1 : Nat) : Int) else some (i : Int) := by
      intro k
      have hlt : decide ((i : Int) < s.size) = true := decide_eq_true (by omega)
      simp only [lexis_name.l0, lexis_name.j2, e1, byteAt_is, letter_is, digit_is, Option.bind_some, hby, goes, hlt, Bool.true_and]
      rw [if_neg (by omega)]
      generalize isL (bt s i) = p1
      generalize isD (bt s i) = p2
      generalize isL (by_ s (i + 1)) = p3
      generalize isD (by_ s (i + 1)) = p4
      generalize bt s i = c
      by_cases a3 : c = 46
      · subst a3; cases p1 <;> cases p2 <;> simp
      by_cases a4 : c = 43
      · subst a4; cases p1 <;> cases p2 <;> cases p3 <;> cases p4 <;> simp
      by_cases a5 : c = 45
      · subst a5; cases p1 <;> cases p2 <;> cases p3 <;> cases p4 <;> simp
      cases p1 <;> cases p2 <;> simp [a3, a4, a5]
    have hf : ∀ k, weirref05_name.l0 (k + 3) s 0 i = if goes s i then weirref05_name.l0 k s 0 ((i + 1 : Nat) : Int) else some (i : Int) := by
      intro k
      have hlt : decide ((i : Int) < s.size) = true := decide_eq_true (by omega)
      simp only [weirref05_name.l0, weirref05_name.j2, weirref05_name.j3, e0, e1, letter_ref, digit_ref, Option.bind_some, goes, hlt, Bool.true_and]
      rw [if_pos (by omega), if_pos (by omega)]
      have hv : (isL (bt s i) = true → bt s i ≠ 43 ∧ bt s i ≠ 45) ∧ (isD (bt s i) = true → bt s i ≠ 43 ∧ bt s i ≠ 45) := by
        unfold isL isD
        constructor <;> (intro h; have := of_decide_eq_true h; constructor <;> omega)
      obtain ⟨v1, v2⟩ := hv
      by_cases h2 : ((i + 1 : Nat) : Int) < s.size
      · have hb2 : by_ s (i + 1) = bt s ((i + 1 : Nat) : Int) := by unfold by_; rw [if_pos h2]
        have hp : (0 : Int) ≤ ((i + 1 : Nat) : Int) := by omega
        rw [hb2, decide_eq_true h2]
        simp only [if_true, if_pos hp, if_pos h2]
        generalize isL (bt s i) = p1 at *
        generalize isD (bt s i) = p2 at *
        generalize isL (bt s ((i + 1 : Nat) : Int)) = p3
        generalize isD (bt s ((i + 1 : Nat) : Int)) = p4
        generalize bt s i = c at *
        by_cases a3 : c = 46
        · subst a3; cases p1 <;> cases p2 <;> simp
        by_cases a4 : c = 43
        · subst a4; cases p1 <;> cases p2 <;> cases p3 <;> cases p4 <;> simp_all
        by_cases a5 : c = 45
        · subst a5; cases p1 <;> cases p2 <;> cases p3 <;> cases p4 <;> simp_all
        cases p1 <;> cases p2 <;> simp [a3, a4, a5]
      · have hb2 : by_ s (i + 1) = 0 := by unfold by_; rw [if_neg h2]
        have w1 : isL 0 = false := by decide
        have w2 : isD 0 = false := by decide
        rw [hb2, decide_eq_false h2, w1, w2]
        generalize isL (bt s i) = p1 at *
        generalize isD (bt s i) = p2 at *
        generalize bt s i = c at *
        by_cases a3 : c = 46
        · subst a3; cases p1 <;> cases p2 <;> simp
        by_cases a4 : c = 43
        · subst a4; cases p1 <;> cases p2 <;> simp_all
        by_cases a5 : c = 45
        · subst a5; cases p1 <;> cases p2 <;> simp_all
        cases p1 <;> cases p2 <;> simp [a3, a4, a5]
    by_cases hg : goes s i = true
    · refine ⟨r, ?_, ?_⟩
      · refine Ev.step (fun k => rfl) (Ev.step (fun k => ?_) hr1)
        rw [hl k, if_pos hg]
      · refine Ev.step (fun k => rfl) (Ev.step (fun k => rfl) (Ev.step (fun k => ?_) hr2))
        rw [hf k, if_pos hg]
    · refine ⟨i, ?_, ?_⟩
      · refine Ev.step (fun k => rfl) (Ev.step (f := fun _ => some (i : Int)) (fun k => ?_) (Ev.now _))
        rw [hl k, if_neg hg]
      · refine Ev.step (fun k => rfl) (Ev.step (fun k => rfl) (Ev.step (f := fun _ => some (i : Int)) (fun k => ?_) (Ev.now _)))
        rw [hf k, if_neg hg]

theorem name_tells (s : ByteArray) (hs : s.size ≤ 140737488351232) : ∃ r, Ev (fun k => lexis_Name.f k s) r ∧ Ev (fun k => weirref05_Name.f k s) r := by
  by_cases h0 : s.size = 0
  · have hl : s.toList = [] := by
      rw [ByteArray.toList_eq]
      exact List.eq_nil_of_length_eq_zero (by rw [Array.length_toList]; exact h0)
    refine ⟨false, Ev.congr (fun k => ?_) (Ev.now _), Ev.congr (fun k => ?_) (Ev.now _)⟩
    · simp only [lexis_Name.f]; rw [if_pos hl]
    · simp only [weirref05_Name.f]; rw [if_neg (by omega)]
  have hl : ¬ s.toList = [] := by
    rw [ByteArray.toList_eq]
    exact fun e => h0 (by have := congrArg List.length e; rw [Array.length_toList] at this; exact this)
  by_cases h1 : s.size ≤ 64
  · have hb := letter_is (bt s 0)
    have hr := letter_ref (bt s 0)
    by_cases hp : isL (bt s 0) = true
    · obtain ⟨r, h2, h3⟩ := name_both s hs (s.size - 1) 1 (by omega) (by omega)
      rw [hp] at hb hr
      refine ⟨r == (s.size : Int), Ev.congr (f := fun k => (lexis_name.f k s).bind fun t => some (t == (s.size : Int))) (fun k => ?_) (Ev.bind (f := fun _ t => some (t == (s.size : Int))) (Ev.congr (f := fun k => lexis_name.j0 k s false) (fun k => ?_) (Ev.step (fun k => ?_) h2)) (Ev.now _)), Ev.congr (f := fun k => (weirref05_name.f k s 0).bind fun t => some (t == (s.size : Int))) (fun k => ?_) (Ev.bind (f := fun _ t => some (t == (s.size : Int))) (Ev.congr (f := fun k => weirref05_name.j0 k s 0 false) (fun k => ?_) (Ev.step (fun k => ?_) h3)) (Ev.now _))⟩
      · simp only [lexis_Name.f]; rw [if_neg hl, if_pos (by omega)]
      · simp only [lexis_name.f]; rw [if_neg hl, if_pos (by omega), hb]; rfl
      · simp only [lexis_name.j0, Bool.false_eq_true, if_false]; rfl
      · simp only [weirref05_Name.f]; rw [if_pos (by omega), if_pos (by omega)]
      · simp only [weirref05_name.f]; rw [if_neg (by omega), if_pos (by omega), if_pos (by omega), hr]; rfl
      · simp only [weirref05_name.j0, Bool.false_eq_true, if_false]; rfl
    · have hp' : isL (bt s 0) = false := by simpa using hp
      rw [hp'] at hb hr
      have hz : ((0 : Int) == (s.size : Int)) = false := by simp; omega
      refine ⟨false, Ev.congr (f := fun k => (lexis_name.f k s).bind fun t => some (t == (s.size : Int))) (fun k => ?_) (by rw [← hz]; exact Ev.bind (f := fun _ t => some (t == (s.size : Int))) (Ev.congr (f := fun k => lexis_name.j0 k s true) (fun k => by simp only [lexis_name.f]; rw [if_neg hl, if_pos (by omega), hb]; simp only [Option.bind_some, Bool.not_false]) (Ev.step (fun k => by simp only [lexis_name.j0, if_true]) (Ev.now (0 : Int)))) (Ev.now _)), Ev.congr (f := fun k => (weirref05_name.f k s 0).bind fun t => some (t == (s.size : Int))) (fun k => ?_) (by rw [← hz]; exact Ev.bind (f := fun _ t => some (t == (s.size : Int))) (Ev.congr (f := fun k => weirref05_name.j0 k s 0 true) (fun k => by simp only [weirref05_name.f]; rw [if_neg (by omega), if_pos (by omega), if_pos (by omega), hr]; simp only [Option.bind_some, Bool.not_false]) (Ev.step (fun k => by simp only [weirref05_name.j0, if_true]) (Ev.now (0 : Int)))) (Ev.now _))⟩
      · simp only [lexis_Name.f]; rw [if_neg hl, if_pos (by omega)]
      · simp only [weirref05_Name.f]; rw [if_pos (by omega), if_pos (by omega)]
  · refine ⟨false, Ev.congr (fun k => ?_) (Ev.now _), Ev.congr (fun k => ?_) (Ev.now _)⟩
    · simp only [lexis_Name.f]; rw [if_neg hl, if_neg (by omega)]
    · simp only [weirref05_Name.f]; rw [if_pos (by omega), if_neg (by omega)]

end Go.Proofs.Ytemhpbdlonfikaa.P
/- How many events a program has, and which instructions fit: the program's answers and the document's. -/
namespace Go.Proofs.Ytemhpbdlonfikaa.P
open Go Go.RowKit Go.Proofs.YtemhpbdlonfikaaW.PrintWords Go.Proofs.YtemhpbdlonfikaaW.PrintLast Go.Proofs.YtemhpbdlonfikaaW.PrintMore

theorem register_same (s : ByteArray) : ∃ r, prog_Register.f s = some r ∧ weirref09_Register.f s = some r := by
  refine ⟨among s 16, ?_, rfl⟩
  unfold prog_Register.f among
  rw [List.take_of_length_le (by rw [regNames_length]; omega)]
  unfold regNames
  simp only [List.any_cons, List.any_nil, ByteArray.toList_eq]
  generalize s.data.toList = l
  have key : ∀ (a : List UInt8) (b : Bool), (if l = a then some true else some b) = some ((a == l) || b) := by
    intro a b
    by_cases h : l = a
    · rw [if_pos h, h]; simp
    · rw [if_neg h]
      have h' : (a == l) = false := by simpa using fun e => h e.symm
      rw [h', Bool.false_or]
  simp only [key]

/-- An instruction's events. -/
def wt (a : Int) : Int := if a = 3 ∨ a = 4 ∨ a = 5 ∨ a = 6 then 1 else if a = 7 ∨ a = 8 ∨ a = 9 then 2 else 0
/-- Which fields an instruction's kind uses; is there such a kind? -/
def uReg (a : Int) : Bool := decide (a = 1 ∨ a = 2 ∨ a = 3 ∨ a = 7 ∨ a = 9)
def uSrc (a : Int) : Bool := decide (a = 2 ∨ a = 5 ∨ a = 8)
def uLoc (a : Int) : Bool := decide (a = 3 ∨ a = 4 ∨ a = 5 ∨ a = 7 ∨ a = 8 ∨ a = 9)
def uImm (a : Int) : Bool := decide (a = 1 ∨ a = 4)
def isKd (a : Int) : Bool := decide (1 ≤ a ∧ a ≤ 9)
theorem nine (a : Int) : a = 1 ∨ a = 2 ∨ a = 3 ∨ a = 4 ∨ a = 5 ∨ a = 6 ∨ a = 7 ∨ a = 8 ∨ a = 9 ∨ (a < 1 ∨ 9 < a) := by omega
theorem kind_is (a : Int) : Ev (fun k => prog_kind.f k a) (uReg a, uSrc a, uLoc a, uImm a, wt a, isKd a) := by
  refine ⟨1, fun k hk => ?_⟩
  obtain ⟨k, rfl⟩ : ∃ m, k = m + 1 := ⟨k - 1, by omega⟩
  simp only [prog_kind.f, prog_kind.j0]
  rcases nine a with rfl | rfl | rfl | rfl | rfl | rfl | rfl | rfl | rfl | h
  · decide
  · decide
  · decide
  · decide
  · decide
  · decide
  · decide
  · decide
  · decide
  · have n1 : ¬ a = 1 := by omega
    have n2 : ¬ a = 2 := by omega
    have n3 : ¬ a = 3 := by omega
    have n4 : ¬ a = 4 := by omega
    have n5 : ¬ a = 5 := by omega
    have n6 : ¬ a = 6 := by omega
    have n7 : ¬ a = 7 := by omega
    have n8 : ¬ a = 8 := by omega
    have n9 : ¬ a = 9 := by omega
    have hk : ¬ (1 ≤ a ∧ a ≤ 9) := by omega
    simp [n1, n2, n3, n4, n5, n6, n7, n8, n9, uReg, uSrc, uLoc, uImm, wt, isKd, hk]
theorem uses_is (a : Int) : Ev (fun k => weirref09_uses.f k a) (uReg a, uSrc a, uLoc a, uImm a) := by
  refine ⟨1, fun k hk => ?_⟩
  obtain ⟨k, rfl⟩ : ∃ m, k = m + 1 := ⟨k - 1, by omega⟩
  simp only [weirref09_uses.f, weirref09_uses.j0]
  rcases nine a with rfl | rfl | rfl | rfl | rfl | rfl | rfl | rfl | rfl | h
  · decide
  · decide
  · decide
  · decide
  · decide
  · decide
  · decide
  · decide
  · decide
  · have n1 : ¬ a = 1 := by omega
    have n2 : ¬ a = 2 := by omega
    have n3 : ¬ a = 3 := by omega
    have n4 : ¬ a = 4 := by omega
    have n5 : ¬ a = 5 := by omega
    have n7 : ¬ a = 7 := by omega
    have n8 : ¬ a = 8 := by omega
    have n9 : ¬ a = 9 := by omega
    simp [n1, n2, n3, n4, n5, n7, n8, n9, uReg, uSrc, uLoc, uImm]
theorem weight_is (a : Int) : Ev (fun k => weirref09_weight.f k a) (wt a) := by
  refine ⟨1, fun k hk => ?_⟩
  obtain ⟨k, rfl⟩ : ∃ m, k = m + 1 := ⟨k - 1, by omega⟩
  simp only [weirref09_weight.f, weirref09_weight.j0]
  rcases nine a with rfl | rfl | rfl | rfl | rfl | rfl | rfl | rfl | rfl | h
  · decide
  · decide
  · decide
  · decide
  · decide
  · decide
  · decide
  · decide
  · decide
  · have n3 : ¬ a = 3 := by omega
    have n4 : ¬ a = 4 := by omega
    have n5 : ¬ a = 5 := by omega
    have n6 : ¬ a = 6 := by omega
    have n7 : ¬ a = 7 := by omega
    have n8 : ¬ a = 8 := by omega
    have n9 : ¬ a = 9 := by omega
    simp [n3, n4, n5, n6, n7, n8, n9, wt]

/-! ### events -/
def evL (x : Int) (ops : List S87) : Int := ops.foldl (fun x o => wrap64 (x + wt o.f0)) x
def evM (n : Int) (th : List (List S87)) : Int := th.foldl evL n
theorem drop_T87 {l : List S87} {j : Nat} (h : j < l.length) : l.drop j = rd_T87 l (j : Int) :: l.drop (j + 1) := by
  rw [List.drop_eq_getElem_cons h]
  congr 1
  simp [rd_T87, List.getD_eq_getElem?_getD, List.getElem?_eq_getElem h]
theorem drop_L3 {l : List (List S87)} {j : Nat} (h : j < l.length) : l.drop j = rd_L3 l (j : Int) :: l.drop (j + 1) := by
  rw [List.drop_eq_getElem_cons h]
  congr 1
  simp [rd_L3, List.getD_eq_getElem?_getD, List.getElem?_eq_getElem h]
/-- Sizes that no wrap round touches. -/
structure Sized (p : Pg) : Prop where
  th : p.th.length ≤ 9223372036854775807
  op : ∀ i : Int, (rd_L3 p.th i).length ≤ 9223372036854775807
theorem events_is (p : Pg) (hz : Sized p) : Ev (fun k => prog_Events.f k p.th p.rg p.lo p.r0 p.m0) (evM p.lo.length p.th) := by
  have outer : ∀ (d i : Nat) (x : Int), i + d = p.th.length → Ev (fun k => prog_Events.l0 k x p.th p.th.length i) (evM x (p.th.drop i)) := by
    intro d
    induction d with
    | zero =>
      intro i x hi
      rw [List.drop_eq_nil_of_le (by omega)]
      refine Ev.step (f := fun _ => some x) (fun k => ?_) (Ev.now _)
      simp only [prog_Events.l0]
      rw [if_neg (by omega)]
    | succ d ih =>
      intro i x hi
      rw [drop_L3 (by omega)]
      have hw := wrap_nat (k := i) (n := p.th.length) (by omega) hz.th
      have inner : ∀ (e j : Nat) (y : Int), j + e = (rd_L3 p.th i).length → Ev (fun k => prog_Events.l1 k y p.th p.th.length i (rd_L3 p.th i) (rd_L3 p.th i).length j) (evM (evL y ((rd_L3 p.th i).drop j)) (p.th.drop (i + 1))) := by
        intro e
        induction e with
        | zero =>
          intro j y hj
          rw [List.drop_eq_nil_of_le (by omega)]
          refine Ev.step (fun k => ?_) (ih (i + 1) y (by omega))
          simp only [prog_Events.l1]
          rw [if_neg (by omega), hw]
        | succ e ihe =>
          intro j y hj
          rw [drop_T87 (l := rd_L3 p.th i) (j := j) (by omega)]
          have hwj := wrap_nat (k := j) (n := (rd_L3 p.th i).length) (by omega) (hz.op i)
          refine Ev.step (f := fun k => (prog_kind.f k (rd_T87 (rd_L3 p.th i) j).f0).bind fun bt => prog_Events.l1 k (wrap64 (y + bt.2.2.2.2.1)) p.th p.th.length i (rd_L3 p.th i) (rd_L3 p.th i).length ((j + 1 : Nat) : Int)) (fun k => ?_) (Ev.bind (kind_is _) (ihe (j + 1) _ (by omega)))
          simp only [prog_Events.l1]
          rw [if_pos (by omega), if_pos (by omega), if_pos (by omega), hwj]
      refine Ev.step (fun k => ?_) (inner (rd_L3 p.th i).length 0 x (by omega))
      simp only [prog_Events.l0]
      rw [if_pos (by omega), if_pos (by omega), if_pos (by omega)]; rfl
  exact Ev.congr (fun k => by simp only [prog_Events.f]; rfl) (outer p.th.length 0 p.lo.length (by omega))
theorem events_ref (p : Pg) (hz : Sized p) : Ev (fun k => weirref09_Events.f k p.th p.rg p.lo p.r0 p.m0) (evM p.lo.length p.th) := by
  have outer : ∀ (d i : Nat) (x : Int), i + d = p.th.length → Ev (fun k => weirref09_Events.l0 k x i p.th p.rg p.lo p.r0 p.m0) (evM x (p.th.drop i)) := by
    intro d
    induction d with
    | zero =>
      intro i x hi
      rw [List.drop_eq_nil_of_le (by omega)]
      refine Ev.step (f := fun _ => some x) (fun k => ?_) (Ev.now _)
      simp only [weirref09_Events.l0]
      rw [if_neg (by omega)]
    | succ d ih =>
      intro i x hi
      rw [drop_L3 (by omega)]
      have hw := wrap_nat (k := i) (n := p.th.length) (by omega) hz.th
      have inner : ∀ (e j : Nat) (y : Int), j + e = (rd_L3 p.th i).length → Ev (fun k => weirref09_Events.l1 k y i j p.th p.rg p.lo p.r0 p.m0) (evM (evL y ((rd_L3 p.th i).drop j)) (p.th.drop (i + 1))) := by
        intro e
        induction e with
        | zero =>
          intro j y hj
          rw [List.drop_eq_nil_of_le (by omega)]
          refine Ev.step (fun k => ?_) (ih (i + 1) y (by omega))
          simp only [weirref09_Events.l1]
          rw [if_pos (by omega), if_pos (by omega), if_neg (by omega), hw]
        | succ e ihe =>
          intro j y hj
          rw [drop_T87 (l := rd_L3 p.th i) (j := j) (by omega)]
          have hwj := wrap_nat (k := j) (n := (rd_L3 p.th i).length) (by omega) (hz.op i)
          refine Ev.step (f := fun k => (weirref09_weight.f k (rd_T87 (rd_L3 p.th i) j).f0).bind fun t => weirref09_Events.l1 k (wrap64 (y + t)) i ((j + 1 : Nat) : Int) p.th p.rg p.lo p.r0 p.m0) (fun k => ?_) (Ev.bind (weight_is _) (ihe (j + 1) _ (by omega)))
          simp only [weirref09_Events.l1]
          rw [if_pos (by omega), if_pos (by omega), if_pos (by omega), if_pos (by omega), hwj]
      refine Ev.step (fun k => ?_) (inner (rd_L3 p.th i).length 0 x (by omega))
      simp only [weirref09_Events.l0]
      rw [if_pos (by omega)]; rfl
  exact Ev.congr (fun k => by simp only [weirref09_Events.f]; rfl) (outer p.th.length 0 p.lo.length (by omega))
end Go.Proofs.Ytemhpbdlonfikaa.P
/- Which instructions fit, and which lists of texts rise: the program's answers and the document's. -/
namespace Go.Proofs.Ytemhpbdlonfikaa.P
open Go Go.RowKit Go.Proofs.YtemhpbdlonfikaaW.PrintWords Go.Proofs.YtemhpbdlonfikaaW.PrintLast Go.Proofs.YtemhpbdlonfikaaW.PrintMore

/-! ### rising texts -/
theorem less_irrefl : ∀ a : List UInt8, Op.bytesLess a a = false
  | [] => rfl
  | x :: a => by
    unfold Op.bytesLess
    rw [less_irrefl a]
    simp
theorem less_trans : ∀ a b c : List UInt8, Op.bytesLess a b = true → Op.bytesLess b c = true → Op.bytesLess a c = true
  | a, [], c, h, _ => by cases a <;> simp [Op.bytesLess] at h
  | a, y :: b, [], _, h => by simp [Op.bytesLess] at h
  | [], y :: b, z :: c, _, _ => rfl
  | x :: a, y :: b, z :: c, h1, h2 => by
    simp only [Op.bytesLess, Bool.or_eq_true, decide_eq_true_eq, Bool.and_eq_true, beq_iff_eq] at h1 h2 ⊢
    rcases h1 with h1 | ⟨rfl, h1⟩
    · rcases h2 with h2 | ⟨rfl, h2⟩
      · exact .inl (UInt8.lt_trans h1 h2)
      · exact .inl h1
    · rcases h2 with h2 | ⟨rfl, h2⟩
      · exact .inl h2
      · exact .inr ⟨rfl, less_trans a b c h1 h2⟩
/-- The text at a place. -/
def tx (l : List ByteArray) (i : Nat) : ByteArray := rdOf ByteArray.empty l (i : Int)
/-- Do the texts rise from place i on (d of them left)? -/
def risesB (l : List ByteArray) (i d : Nat) : Bool := (List.range d).all fun (j : Nat) => Op.bytesLess (tx l (i + j - 1)).toList (tx l (i + j)).toList
theorem risesB_succ (l : List ByteArray) (i d : Nat) : risesB l i (d + 1) = (Op.bytesLess (tx l (i - 1)).toList (tx l i).toList && risesB l (i + 1) d) := by
  unfold risesB
  rw [List.range_succ_eq_map, List.all_cons, List.all_map]
  congr 2
  funext j
  show Op.bytesLess (tx l (i + (j + 1) - 1)).toList (tx l (i + (j + 1))).toList = _
  rw [show i + (j + 1) - 1 = i + 1 + j - 1 by omega, show i + (j + 1) = i + 1 + j by omega]
theorem rises_ref (l : List ByteArray) (hl : l.length ≤ 9223372036854775807) : Ev (fun k => weirref09_rises.f k l) (risesB l 1 (l.length - 1)) := by
  have key : ∀ (d i : Nat), 1 ≤ i → (i + d = l.length ∨ (d = 0 ∧ l.length ≤ i)) → Ev (fun k => weirref09_rises.l0 k l i) (risesB l i d) := by
    intro d
    induction d with
    | zero =>
      intro i _ hi
      refine Ev.step (f := fun _ => some true) (fun k => ?_) (Ev.now _)
      simp only [weirref09_rises.l0]
      rw [if_neg (by omega)]
    | succ d ih =>
      intro i h1 hi
      have hw := wrap_nat (k := i) (n := l.length) (by omega) hl
      have hm : wrap64 ((i : Int) - 1) = ((i - 1 : Nat) : Int) := by unfold wrap64; omega
      rw [risesB_succ]
      by_cases hc : Op.bytesLess (tx l (i - 1)).toList (tx l i).toList = true
      · rw [hc, Bool.true_and]
        refine Ev.step (fun k => ?_) (ih (i + 1) (by omega) (by omega))
        simp only [weirref09_rises.l0]
        rw [if_pos (by omega), hm, if_pos (by omega), if_pos (by omega), if_pos (by omega), if_pos (show Op.bytesLess (rdOf ByteArray.empty l ((i - 1 : Nat) : Int)).toList (rdOf ByteArray.empty l (i : Int)).toList = true from hc), hw]
      · rw [Bool.eq_false_iff.2 hc, Bool.false_and]
        refine Ev.step (f := fun _ => some false) (fun k => ?_) (Ev.now _)
        simp only [weirref09_rises.l0]
        rw [if_pos (by omega), hm, if_pos (by omega), if_pos (by omega), if_pos (by omega), if_neg (show ¬ Op.bytesLess (rdOf ByteArray.empty l ((i - 1 : Nat) : Int)).toList (rdOf ByteArray.empty l (i : Int)).toList = true from hc)]
  have h0 := key (l.length - 1) 1 (Nat.le_refl _) (by omega)
  exact Ev.congr (fun k => by simp only [weirref09_rises.f]; rfl) h0
theorem rises_lt {l : List ByteArray} (h : risesB l 1 (l.length - 1) = true) : ∀ (d i : Nat), i + d + 1 < l.length → Op.bytesLess (tx l i).toList (tx l (i + d + 1)).toList = true := by
  have one : ∀ i : Nat, i + 1 < l.length → Op.bytesLess (tx l i).toList (tx l (i + 1)).toList = true := fun i hi => by
    have := List.all_eq_true.1 h i (List.mem_range.2 (by omega))
    rwa [show 1 + i - 1 = i by omega, show 1 + i = i + 1 by omega] at this
  intro d
  induction d with
  | zero => exact fun i hi => one i hi
  | succ d ih => exact fun i hi => less_trans _ _ _ (ih i (by omega)) (one (i + d + 1) (by omega))
/-- All texts are registers' names. -/
def regsB (l : List ByteArray) (i d : Nat) : Bool := (List.range d).all fun (j : Nat) => among (tx l (i + j)) 16
theorem regsB_succ (l : List ByteArray) (i d : Nat) : regsB l i (d + 1) = (among (tx l i) 16 && regsB l (i + 1) d) := by
  unfold regsB
  rw [List.range_succ_eq_map, List.all_cons, List.all_map]
  congr 2
  funext j
  show among (tx l (i + (j + 1))) 16 = _
  rw [show i + (j + 1) = i + 1 + j by omega]
theorem reg_is (s : ByteArray) : prog_Register.f s = some (among s 16) := by
  obtain ⟨r, h1, h2⟩ := register_same s
  have : r = among s 16 := by have := h2; unfold weirref09_Register.f at this; exact (Option.some.inj this).symm
  rw [h1, this]
theorem rises_reg (l : List ByteArray) (hl : l.length ≤ 9223372036854775807) : Ev (fun k => prog_rises__prog_Register.f k l) (risesB l 1 (l.length - 1) && regsB l 0 l.length) := by
  have key : ∀ (d i : Nat), 1 ≤ i → i + d = l.length → Ev (fun k => prog_rises__prog_Register.l0 k l l l.length i) (risesB l i d && regsB l i d) := by
    intro d
    induction d with
    | zero =>
      intro i _ hi
      refine Ev.step (f := fun _ => some true) (fun k => ?_) (Ev.now _)
      simp only [prog_rises__prog_Register.l0]
      rw [if_neg (by omega)]
    | succ d ih =>
      intro i h1 hi
      have hw := wrap_nat (k := i) (n := l.length) (by omega) hl
      have hm : wrap64 ((i : Int) - 1) = ((i - 1 : Nat) : Int) := by unfold wrap64; omega
      rw [risesB_succ, regsB_succ]
      by_cases hc : Op.bytesLess (tx l (i - 1)).toList (tx l i).toList = true
      · rw [hc, Bool.true_and]
        cases ha : among (tx l i) 16 with
        | true =>
          rw [Bool.true_and]
          refine Ev.step (fun k => ?_) (ih (i + 1) (by omega) (by omega))
          simp only [prog_rises__prog_Register.l0]
          rw [if_pos (by omega), if_pos (by omega), if_pos (by omega), if_pos (by omega), hm, if_pos (by omega), if_pos (by omega), if_pos (show Op.bytesLess (rdOf ByteArray.empty l ((i - 1 : Nat) : Int)).toList (rdOf ByteArray.empty l (i : Int)).toList = true from hc), reg_is, Option.bind_some, if_pos (show among (rdOf ByteArray.empty l (i : Int)) 16 = true from ha), hw]
        | false =>
          rw [Bool.false_and, Bool.and_false]
          refine Ev.step (f := fun _ => some false) (fun k => ?_) (Ev.now _)
          simp only [prog_rises__prog_Register.l0]
          rw [if_pos (by omega), if_pos (by omega), if_pos (by omega), if_pos (by omega), hm, if_pos (by omega), if_pos (by omega), if_pos (show Op.bytesLess (rdOf ByteArray.empty l ((i - 1 : Nat) : Int)).toList (rdOf ByteArray.empty l (i : Int)).toList = true from hc), reg_is, Option.bind_some, if_neg (by rw [show among (rdOf ByteArray.empty l (i : Int)) 16 = false from ha]; decide)]
      · rw [Bool.eq_false_iff.2 hc, Bool.false_and, Bool.false_and]
        refine Ev.step (f := fun _ => some false) (fun k => ?_) (Ev.now _)
        simp only [prog_rises__prog_Register.l0]
        rw [if_pos (by omega), if_pos (by omega), if_pos (by omega), if_pos (by omega), hm, if_pos (by omega), if_pos (by omega), if_neg (show ¬ Op.bytesLess (rdOf ByteArray.empty l ((i - 1 : Nat) : Int)).toList (rdOf ByteArray.empty l (i : Int)).toList = true from hc)]
  refine Ev.congr (g := fun k => prog_rises__prog_Register.f k l) (f := fun k => prog_rises__prog_Register.l0 k l l l.length ((0 : Nat) : Int)) (fun k => by simp only [prog_rises__prog_Register.f]; rfl) ?_
  rcases Nat.eq_zero_or_pos l.length with h0 | h0
  · rw [h0]
    refine Ev.step (f := fun _ => some true) (fun k => ?_) (Ev.now _)
    simp only [prog_rises__prog_Register.l0]
    rw [if_neg (by omega)]
  · obtain ⟨n, hn⟩ : ∃ n, l.length = n + 1 := ⟨l.length - 1, by omega⟩
    have hk := key n 1 (Nat.le_refl _) (by omega)
    rw [show l.length - 1 = n by omega]
    have hw := wrap_nat (k := 0) (n := l.length) (by omega) hl
    rw [hn, regsB_succ]
    cases ha : among (tx l 0) 16 with
    | true =>
      rw [Bool.true_and]
      refine Ev.step (fun k => ?_) hk
      simp only [prog_rises__prog_Register.l0]
      rw [← hn, if_pos (by omega), if_pos (by omega), if_pos (by omega), if_neg (by omega), reg_is, Option.bind_some, if_pos (show among (rdOf ByteArray.empty l ((0 : Nat) : Int)) 16 = true from ha), hw]
    | false =>
      rw [Bool.false_and, Bool.and_false]
      refine Ev.step (f := fun _ => some false) (fun k => ?_) (Ev.now _)
      simp only [prog_rises__prog_Register.l0]
      rw [← hn, if_pos (by omega), if_pos (by omega), if_pos (by omega), if_neg (by omega), reg_is, Option.bind_some, if_neg (by rw [show among (rdOf ByteArray.empty l ((0 : Nat) : Int)) 16 = false from ha]; decide)]
end Go.Proofs.Ytemhpbdlonfikaa.P
/- Which instructions fit: the program's answer and the document's. -/
namespace Go.Proofs.Ytemhpbdlonfikaa.P
open Go Go.RowKit Go.Proofs.YtemhpbdlonfikaaW.PrintWords Go.Proofs.YtemhpbdlonfikaaW.PrintLast Go.Proofs.YtemhpbdlonfikaaW.PrintMore

def numB (used : Bool) (n most : Int) : Bool := if used then decide (0 ≤ n ∧ n < most) else n == 0
def eax : List UInt8 := [69, 65, 88]
/-- Does an instruction fit a thread's registers and the locations? -/
def fitB (o : S87) (regs : List ByteArray) (nl : Int) : Bool :=
  isKd o.f0 && numB (uSrc o.f0) o.f2 regs.length && numB (uLoc o.f0) o.f3 nl && (uImm o.f0 || o.f4 == 0) &&
    (if o.f0 = 8 then numB true o.f1 regs.length && (rdOf ByteArray.empty regs o.f1).toList == eax else numB (uReg o.f0) o.f1 regs.length)
theorem fits1 (b : Bool) (n m : Int) : prog_fits_1.f b n m = some (numB b n m) := by
  unfold prog_fits_1.f numB
  cases b with
  | false => rfl
  | true =>
    simp only [if_true]
    by_cases h : 0 ≤ n
    · rw [if_pos h]
      congr 1
      rw [Bool.eq_iff_iff]
      simp [h]
    · rw [if_neg h]
      congr 1
      rw [Bool.eq_iff_iff]
      simp [h]
theorem fits_is (o : S87) (regs locs : List ByteArray) : Ev (fun k => prog_fits.f k o.f0 o.f1 o.f2 o.f3 o.f4 regs locs) (fitB o regs locs.length) := by
  obtain ⟨K, hK⟩ := kind_is o.f0
  refine ⟨max K 1, fun k hk => ?_⟩
  obtain ⟨k, rfl⟩ : ∃ m, k = m + 1 := ⟨k - 1, by omega⟩
  have e := hK (k + 1) (by omega)
  simp only at e
  simp only [prog_fits.f]
  rw [e]
  simp only [Option.bind_some, fits1, prog_fits.j0, fitB]
  cases isKd o.f0 with
  | false => simp
  | true =>
    cases numB (uSrc o.f0) o.f2 regs.length with
    | false => simp
    | true =>
      cases numB (uLoc o.f0) o.f3 locs.length with
      | false => simp
      | true =>
        have key : (if o.f0 = 8 then if o.f1 ≥ 0 then if o.f1 < (regs.length : Int) then if 0 ≤ o.f1 then some ((rdOf ByteArray.empty regs o.f1).toList == ([69, 65, 88] : List UInt8)) else none else some false else some false else some (numB (uReg o.f0) o.f1 regs.length)) =
            some (if o.f0 = 8 then numB true o.f1 regs.length && (rdOf ByteArray.empty regs o.f1).toList == eax else numB (uReg o.f0) o.f1 regs.length) := by
          by_cases h8 : o.f0 = 8
          · rw [if_pos h8, if_pos h8]
            unfold numB
            by_cases h0 : 0 ≤ o.f1
            · rw [if_pos h0]
              by_cases h1 : o.f1 < (regs.length : Int)
              · rw [if_pos h1, if_pos h0]; simp [h0, h1, eax]
              · rw [if_neg h1]; simp [h1]
            · rw [if_neg (by omega)]; simp [h0]
          · rw [if_neg h8, if_neg h8]
        cases uImm o.f0 with
        | true => simpa using key
        | false =>
          by_cases h4 : o.f4 = 0
          · rw [h4]; simpa using key
          · have : (o.f4 == 0) = false := beq_eq_false_iff_ne.2 h4
            simp [h4]

/-! ### the document's -/
theorem number_is (l : List ByteArray) (a : ByteArray) (hl : l.length ≤ 9223372036854775807) : ∃ r : Int, Ev (fun k => weirref09_number.f k l a) r ∧
    ((r = -1 ∧ ∀ j : Nat, j < l.length → (tx l j).toList ≠ a.toList) ∨ ∃ j : Nat, r = j ∧ j < l.length ∧ (tx l j).toList = a.toList ∧ ∀ q : Nat, q < j → (tx l q).toList ≠ a.toList) := by
  have key : ∀ (d i : Nat), i + d = l.length → (∀ q : Nat, q < i → (tx l q).toList ≠ a.toList) → ∃ r : Int, Ev (fun k => weirref09_number.l0 k l a i) r ∧
      ((r = -1 ∧ ∀ j : Nat, j < l.length → (tx l j).toList ≠ a.toList) ∨ ∃ j : Nat, r = j ∧ j < l.length ∧ (tx l j).toList = a.toList ∧ ∀ q : Nat, q < j → (tx l q).toList ≠ a.toList) := by
    intro d
    induction d with
    | zero =>
      intro i hi hq
      refine ⟨-1, Ev.step (f := fun _ => some (-1)) (fun k => ?_) (Ev.now _), .inl ⟨rfl, fun j hj => hq j (by omega)⟩⟩
      simp only [weirref09_number.l0]
      rw [if_neg (by omega)]
    | succ d ih =>
      intro i hi hq
      have hw := wrap_nat (k := i) (n := l.length) (by omega) hl
      by_cases hc : (rdOf ByteArray.empty l (i : Int)).toList = a.toList
      · refine ⟨i, Ev.step (f := fun _ => some (i : Int)) (fun k => ?_) (Ev.now _), .inr ⟨i, rfl, by omega, hc, hq⟩⟩
        simp only [weirref09_number.l0]
        rw [if_pos (by omega), if_pos (by omega), if_pos hc]
      · obtain ⟨r, h1, h2⟩ := ih (i + 1) (by omega) (fun q hq2 => by
          rcases Nat.lt_or_ge q i with h | h
          · exact hq q h
          · obtain rfl : q = i := by omega
            exact hc)
        refine ⟨r, Ev.step (fun k => ?_) h1, h2⟩
        simp only [weirref09_number.l0]
        rw [if_pos (by omega), if_pos (by omega), if_neg hc, hw]
  obtain ⟨r, h1, h2⟩ := key l.length 0 (by omega) (fun q hq => absurd hq (Nat.not_lt_zero q))
  exact ⟨r, Ev.congr (fun k => by simp only [weirref09_number.f]; rfl) h1, h2⟩
theorem rest_is (x8 x9 x10 : Bool) (a2 a3 a4 nr nl : Int) :
    (if x8 = true then (if a2 < 0 then (some false) else (if a2 ≥ nr then (some false) else (if x9 = true then (if a3 < 0 then (some (!true)) else (if a3 ≥ nl then (some (!true)) else (if x10 = true then (some (!false)) else (some (!(a4 != 0)))))) else (if a3 = 0 then (if x10 = true then (some (!false)) else (some (!(a4 != 0)))) else (some (!true)))))) else (if a2 = 0 then (if x9 = true then (if a3 < 0 then (some (!true)) else (if a3 ≥ nl then (some (!true)) else (if x10 = true then (some (!false)) else (some (!(a4 != 0)))))) else (if a3 = 0 then (if x10 = true then (some (!false)) else (some (!(a4 != 0)))) else (some (!true)))) else (some false))) =
      some (numB x8 a2 nr && numB x9 a3 nl && (x10 || a4 == 0)) := by
  have imm : (if x10 = true then some (!false) else some (!(a4 != 0))) = some (x10 || a4 == 0) := by
    cases x10 with
    | true => simp
    | false => simp [bne]
  have loc : (if x9 = true then (if a3 < 0 then (some (!true)) else (if a3 ≥ nl then (some (!true)) else (if x10 = true then (some (!false)) else (some (!(a4 != 0)))))) else (if a3 = 0 then (if x10 = true then (some (!false)) else (some (!(a4 != 0)))) else (some (!true)))) = some (numB x9 a3 nl && (x10 || a4 == 0)) := by
    rw [imm]
    unfold numB
    cases x9 with
    | true =>
      by_cases h0 : a3 < 0
      · rw [if_pos rfl, if_pos h0, if_pos rfl, decide_eq_false (by omega)]; rfl
      · by_cases h1 : a3 ≥ nl
        · rw [if_pos rfl, if_neg h0, if_pos h1, if_pos rfl, decide_eq_false (by omega)]; rfl
        · rw [if_pos rfl, if_neg h0, if_neg h1, if_pos rfl, decide_eq_true (by omega), Bool.true_and]
    | false =>
      by_cases h0 : a3 = 0
      · subst h0; simp
      · have : (a3 == 0) = false := beq_eq_false_iff_ne.2 h0
        simp [h0]
  rw [loc]
  unfold numB
  cases x8 with
  | true =>
    by_cases h0 : a2 < 0
    · rw [if_pos rfl, if_pos h0, if_pos rfl, decide_eq_false (show ¬ (0 ≤ a2 ∧ a2 < nr) by omega)]; rfl
    · by_cases h1 : a2 ≥ nr
      · rw [if_pos rfl, if_neg h0, if_pos h1, if_pos rfl, decide_eq_false (show ¬ (0 ≤ a2 ∧ a2 < nr) by omega)]; rfl
      · rw [if_pos rfl, if_neg h0, if_neg h1, if_pos rfl, decide_eq_true (show 0 ≤ a2 ∧ a2 < nr by omega), Bool.true_and]
  | false =>
    by_cases h0 : a2 = 0
    · subst h0; simp
    · have : (a2 == 0) = false := beq_eq_false_iff_ne.2 h0
      simp [h0]
theorem kd_false {a : Int} (h : a < 1 ∨ 9 < a) : isKd a = false := by unfold isKd; exact decide_eq_false (by omega)
theorem kd_true {a : Int} (h : ¬ (a < 1 ∨ 9 < a)) : isKd a = true := by unfold isKd; exact decide_eq_true (by omega)
theorem eaxb : (⟨#[69, 65, 88]⟩ : ByteArray).toList = eax := by rw [ByteArray.toList_eq]; rfl
theorem right_is (o : S87) (regs : List ByteArray) (nl : Int) (hl : regs.length ≤ 9223372036854775807) (hr : risesB regs 1 (regs.length - 1) = true) :
    Ev (fun k => weirref09_right.f k o.f0 o.f1 o.f2 o.f3 o.f4 regs nl) (fitB o regs nl) := by
  obtain ⟨K, hK⟩ := uses_is o.f0
  obtain ⟨rn, ⟨K2, hK2⟩, hn⟩ := number_is regs (⟨#[69, 65, 88]⟩ : ByteArray) hl
  simp only [eaxb] at hn
  have hn2 : (o.f1 ≥ 0 ∧ o.f1 < (regs.length : Int) ∧ (rdOf ByteArray.empty regs o.f1).toList = eax) ↔ (¬ rn < 0 ∧ o.f1 = rn) := by
    rcases hn with ⟨rfl, hno⟩ | ⟨j, rfl, hj, he, hq⟩
    · constructor
      · rintro ⟨h0, h1, h2⟩
        obtain ⟨m, hm⟩ : ∃ m : Nat, o.f1 = m := ⟨o.f1.toNat, by omega⟩
        rw [hm] at h2 h1
        exact absurd h2 (hno m (by omega))
      · rintro ⟨h, _⟩
        exact absurd (by decide) h
    · constructor
      · rintro ⟨h0, h1, h2⟩
        obtain ⟨m, hm⟩ : ∃ m : Nat, o.f1 = m := ⟨o.f1.toNat, by omega⟩
        rw [hm] at h2 h1
        refine ⟨by omega, ?_⟩
        rw [hm]
        rcases Nat.lt_trichotomy m j with h | h | h
        · exact absurd h2 (hq m h)
        · rw [h]
        · exfalso
          have h3 := rises_lt hr (m - j - 1) j (by omega)
          rw [show j + (m - j - 1) + 1 = m by omega] at h3
          have h4 : (tx regs m).toList = (tx regs j).toList := h2.trans he.symm
          rw [h4, less_irrefl] at h3
          cases h3
      · rintro ⟨_, h⟩
        rw [h]
        exact ⟨by omega, by omega, he⟩
  refine ⟨max K K2 + 3, fun k hk => ?_⟩
  obtain ⟨k, rfl⟩ : ∃ m, k = m + 2 := ⟨k - 2, by omega⟩
  have e := hK (k + 2) (by omega)
  have e2 := hK2 (k + 1) (by omega)
  simp only at e e2
  simp only [weirref09_right.f]
  rw [e]
  simp only [Option.bind_some, weirref09_right.j0, weirref09_right.j1, weirref09_right.j2, e2]
  unfold fitB
  by_cases hkd : o.f0 < 1 ∨ 9 < o.f0
  · rw [kd_false hkd]
    rcases hkd with h | h
    · rw [if_pos h, if_pos (by simp)]; simp
    · rw [if_neg (by omega), if_pos (decide_eq_true h)]; simp
  · rw [kd_true hkd, if_neg (by omega), if_neg (by rw [decide_eq_false (by omega)]; decide)]
    simp only [rest_is]
    by_cases h8 : o.f0 = 8
    · rw [if_pos h8, if_pos h8]
      by_cases hc : ¬ rn < 0 ∧ o.f1 = rn
      · have h9 := hn2.2 hc
        rw [if_neg hc.1, if_neg (by rw [hc.2]; simp)]
        have : numB true o.f1 regs.length = true := by unfold numB; rw [if_pos rfl]; exact decide_eq_true ⟨h9.1, h9.2.1⟩
        rw [this, h9.2.2]
        simp
      · have h9 : (numB true o.f1 regs.length && (rdOf ByteArray.empty regs o.f1).toList == eax) = false := by
          rw [Bool.eq_false_iff]
          intro h
          rw [Bool.and_eq_true, beq_iff_eq] at h
          unfold numB at h
          rw [if_pos rfl] at h
          have h1 := of_decide_eq_true h.1
          exact hc (hn2.1 ⟨h1.1, h1.2, h.2⟩)
        rw [h9, Bool.and_false]
        by_cases hm : rn < 0
        · rw [if_pos hm, if_pos (by simp)]
        · rw [if_neg hm, if_pos (by simp only [bne_iff_ne]; exact fun h => hc ⟨hm, h⟩)]
    · rw [if_neg h8, if_neg h8]
      cases uReg o.f0 with
      | true =>
        rw [if_pos (by simp)]
        unfold numB
        by_cases h0 : o.f1 < 0
        · rw [if_pos h0, if_pos (by simp)]
          simp only [if_true, decide_eq_false (show ¬ (0 ≤ o.f1 ∧ o.f1 < (regs.length : Int)) by omega), Bool.and_false]
        · by_cases h1 : o.f1 ≥ (regs.length : Int)
          · rw [if_neg h0, if_pos h1, if_pos (by simp)]
            simp only [if_true, decide_eq_false (show ¬ (0 ≤ o.f1 ∧ o.f1 < (regs.length : Int)) by omega), Bool.and_false]
          · rw [if_neg h0, if_neg h1, if_neg (by simp)]
            have h2 : 0 ≤ o.f1 ∧ o.f1 < (regs.length : Int) := by omega
            simp [h2]
      | false =>
        rw [if_neg (by simp)]
        unfold numB
        by_cases h0 : o.f1 = 0
        · rw [if_neg (by rw [h0]; decide)]
          simp [h0]
        · rw [if_pos (bne_iff_ne.2 h0)]
          simp [h0]
theorem fit_ok {o : S87} {regs : List ByteArray} {nl : Nat} (h : fitB o regs nl = true) : OpOK o regs.length nl := by
  unfold fitB at h
  simp only [Bool.and_eq_true] at h
  obtain ⟨⟨⟨⟨_, hs⟩, hl⟩, _⟩, hr⟩ := h
  refine ⟨fun hk => ?_, fun hk => ?_, fun hk => ?_⟩
  · by_cases h8 : o.f0 = 8
    · rw [if_pos h8, Bool.and_eq_true] at hr
      have := hr.1
      unfold numB at this
      rw [if_pos rfl] at this
      exact of_decide_eq_true this
    · rw [if_neg h8] at hr
      unfold numB uReg at hr
      rw [if_pos (decide_eq_true (by omega))] at hr
      exact of_decide_eq_true hr
  · unfold numB uSrc at hs
    rw [if_pos (decide_eq_true (by omega))] at hs
    exact of_decide_eq_true hs
  · unfold numB uLoc at hl
    rw [if_pos (decide_eq_true (by omega))] at hl
    exact of_decide_eq_true hl
end Go.Proofs.Ytemhpbdlonfikaa.P
/- Which programs are right: the program's Valid and the document's answer alike, and what holds of a right one. -/
namespace Go.Proofs.Ytemhpbdlonfikaa.P
open Go Go.RowKit Go.Proofs.YtemhpbdlonfikaaW.PrintWords Go.Proofs.YtemhpbdlonfikaaW.PrintLast Go.Proofs.YtemhpbdlonfikaaW.PrintMore

/-- All of d numbers from i on. -/
def allR (f : Nat → Bool) (i d : Nat) : Bool := (List.range d).all fun (j : Nat) => f (i + j)
theorem allR_succ (f : Nat → Bool) (i d : Nat) : allR f i (d + 1) = (f i && allR f (i + 1) d) := by
  unfold allR
  rw [List.range_succ_eq_map, List.all_cons, List.all_map]
  congr 2
  funext j
  show f (i + (j + 1)) = f (i + 1 + j)
  rw [show i + (j + 1) = i + 1 + j by omega]
theorem allR_at {f : Nat → Bool} {i d : Nat} (h : allR f i d = true) {q : Nat} (h0 : i ≤ q) (h1 : q < i + d) : f q = true := by
  have := List.all_eq_true.1 h (q - i) (List.mem_range.2 (by omega))
  rwa [show i + (q - i) = q by omega] at this
open Classical in
/-- Is a text a name? -/
noncomputable def nameB (s : ByteArray) : Bool := if h : s.size ≤ 140737488351232 then Classical.choose (name_tells s h) else false
theorem nameB_is (s : ByteArray) (h : s.size ≤ 140737488351232) : Ev (fun k => lexis_Name.f k s) (nameB s) ∧ Ev (fun k => weirref05_Name.f k s) (nameB s) := by
  unfold nameB
  rw [dif_pos h]
  exact Classical.choose_spec (name_tells s h)
/-- Texts of sizes that a machine holds. -/
def Texts (l : List ByteArray) : Prop := ∀ i : Nat, (tx l i).size ≤ 140737488351232
theorem rises_name (l : List ByteArray) (hl : l.length ≤ 9223372036854775807) (ht : Texts l) : Ev (fun k => prog_rises__lexis_Name.f k l) (risesB l 1 (l.length - 1) && allR (fun i => nameB (tx l i)) 0 l.length) := by
  have key : ∀ (d i : Nat), 1 ≤ i → i + d = l.length → Ev (fun k => prog_rises__lexis_Name.l0 k l l l.length i) (risesB l i d && allR (fun i => nameB (tx l i)) i d) := by
    intro d
    induction d with
    | zero =>
      intro i _ hi
      refine Ev.step (f := fun _ => some true) (fun k => ?_) (Ev.now _)
      simp only [prog_rises__lexis_Name.l0]
      rw [if_neg (by omega)]
    | succ d ih =>
      intro i h1 hi
      have hw := wrap_nat (k := i) (n := l.length) (by omega) hl
      have hm : wrap64 ((i : Int) - 1) = ((i - 1 : Nat) : Int) := by unfold wrap64; omega
      rw [risesB_succ, allR_succ]
      by_cases hc : Op.bytesLess (tx l (i - 1)).toList (tx l i).toList = true
      · rw [hc, Bool.true_and]
        have hn := (nameB_is (tx l i) (ht i)).1
        cases ha : nameB (tx l i) with
        | true =>
          rw [ha] at hn
          rw [Bool.true_and]
          refine Ev.step (f := fun k => (lexis_Name.f k (tx l i)).bind fun t => if t = true then prog_rises__lexis_Name.l0 k l l l.length ((i + 1 : Nat) : Int) else some false) (fun k => ?_) (Ev.bind hn (Ev.congr (fun k => if_pos rfl) (ih (i + 1) (by omega) (by omega))))
          simp only [prog_rises__lexis_Name.l0]
          rw [if_pos (by omega), if_pos (by omega), if_pos (by omega), if_pos (by omega), hm, if_pos (by omega), if_pos (by omega), if_pos (show Op.bytesLess (rdOf ByteArray.empty l ((i - 1 : Nat) : Int)).toList (rdOf ByteArray.empty l (i : Int)).toList = true from hc), hw]; rfl
        | false =>
          rw [ha] at hn
          rw [Bool.false_and, Bool.and_false]
          refine Ev.step (f := fun k => (lexis_Name.f k (tx l i)).bind fun t => if t = true then prog_rises__lexis_Name.l0 k l l l.length ((i + 1 : Nat) : Int) else some false) (fun k => ?_) (Ev.bind hn (Ev.congr (fun k => if_neg (by decide)) (Ev.now _)))
          simp only [prog_rises__lexis_Name.l0]
          rw [if_pos (by omega), if_pos (by omega), if_pos (by omega), if_pos (by omega), hm, if_pos (by omega), if_pos (by omega), if_pos (show Op.bytesLess (rdOf ByteArray.empty l ((i - 1 : Nat) : Int)).toList (rdOf ByteArray.empty l (i : Int)).toList = true from hc), hw]; rfl
      · rw [Bool.eq_false_iff.2 hc, Bool.false_and, Bool.false_and]
        refine Ev.step (f := fun _ => some false) (fun k => ?_) (Ev.now _)
        simp only [prog_rises__lexis_Name.l0]
        rw [if_pos (by omega), if_pos (by omega), if_pos (by omega), if_pos (by omega), hm, if_pos (by omega), if_pos (by omega), if_neg (show ¬ Op.bytesLess (rdOf ByteArray.empty l ((i - 1 : Nat) : Int)).toList (rdOf ByteArray.empty l (i : Int)).toList = true from hc)]
  refine Ev.congr (g := fun k => prog_rises__lexis_Name.f k l) (f := fun k => prog_rises__lexis_Name.l0 k l l l.length ((0 : Nat) : Int)) (fun k => by simp only [prog_rises__lexis_Name.f]; rfl) ?_
  rcases Nat.eq_zero_or_pos l.length with h0 | h0
  · rw [h0]
    refine Ev.step (f := fun _ => some true) (fun k => ?_) (Ev.now _)
    simp only [prog_rises__lexis_Name.l0]
    rw [if_neg (by omega)]
  · obtain ⟨n, hn⟩ : ∃ n, l.length = n + 1 := ⟨l.length - 1, by omega⟩
    have hk := key n 1 (Nat.le_refl _) (by omega)
    rw [show l.length - 1 = n by omega]
    have hw := wrap_nat (k := 0) (n := l.length) (by omega) hl
    rw [hn, allR_succ]
    rw [hn] at hk
    have hnm := (nameB_is (tx l 0) (ht 0)).1
    cases ha : nameB (tx l 0) with
    | true =>
      rw [ha] at hnm
      rw [Bool.true_and]
      refine Ev.step (f := fun k => (lexis_Name.f k (tx l 0)).bind fun t => if t = true then prog_rises__lexis_Name.l0 k l l ((n + 1 : Nat) : Int) ((0 + 1 : Nat) : Int) else some false) (fun k => ?_) (Ev.bind hnm (Ev.congr (fun k => if_pos rfl) hk))
      simp only [prog_rises__lexis_Name.l0]
      rw [if_pos (by omega), if_pos (by omega), if_pos (by omega), if_neg (by omega), hw]; rfl
    | false =>
      rw [ha] at hnm
      rw [Bool.false_and, Bool.and_false]
      refine Ev.step (f := fun k => (lexis_Name.f k (tx l 0)).bind fun t => if t = true then prog_rises__lexis_Name.l0 k l l ((n + 1 : Nat) : Int) ((0 + 1 : Nat) : Int) else some false) (fun k => ?_) (Ev.bind hnm (Ev.congr (fun k => if_neg (by decide)) (Ev.now _)))
      simp only [prog_rises__lexis_Name.l0]
      rw [if_pos (by omega), if_pos (by omega), if_pos (by omega), if_neg (by omega), hw]; rfl
end Go.Proofs.Ytemhpbdlonfikaa.P
