/- How many events a program has, and which instructions fit: the program's answers and the document's. -/
import Derived.Test.YtemhpbdlonfikaaPub
import Derived.Test.YtemhpbdlonfikaaPn
namespace Go.Proofs.Ytemhpbdlonfikaa.P
open Go Go.RowKit Go.Proofs.YtemhpbdlonfikaaW.PrintWords Go.Proofs.YtemhpbdlonfikaaW.PrintLast Go.Proofs.YtemhpbdlonfikaaW.PrintMore

theorem register_same (s : ByteArray) : ∃ r, prog_Register.f s = some r ∧ weirref09_Register.f s = some r := by
  refine ⟨among s 16, ?_, rfl⟩
  unfold prog_Register.f among
  rw [List.take_of_length_le (by rw [regNames_length]; omega)]
  unfold regNames
  simp only [List.any_cons, List.any_nil, ByteArray.toList_eq]
  generalize s.data.toList = l
  have key : ∀ (a : List UInt8) (b : Bool), (if l = a then some true else some b) = some ((a == l) || b) := by
    intro a b
    by_cases h : l = a
    · rw [if_pos h, h]; simp
    · rw [if_neg h]
      have h' : (a == l) = false := by simpa using fun e => h e.symm
      rw [h', Bool.false_or]
  simp only [key]

/-- An instruction's events. -/
def wt (a : Int) : Int := if a = 3 ∨ a = 4 ∨ a = 5 ∨ a = 6 then 1 else if a = 7 ∨ a = 8 ∨ a = 9 then 2 else 0
/-- Which fields an instruction's kind uses; is there such a kind? -/
def uReg (a : Int) : Bool := decide (a = 1 ∨ a = 2 ∨ a = 3 ∨ a = 7 ∨ a = 9)
def uSrc (a : Int) : Bool := decide (a = 2 ∨ a = 5 ∨ a = 8)
def uLoc (a : Int) : Bool := decide (a = 3 ∨ a = 4 ∨ a = 5 ∨ a = 7 ∨ a = 8 ∨ a = 9)
def uImm (a : Int) : Bool := decide (a = 1 ∨ a = 4)
def isKd (a : Int) : Bool := decide (1 ≤ a ∧ a ≤ 9)
theorem nine (a : Int) : a = 1 ∨ a = 2 ∨ a = 3 ∨ a = 4 ∨ a = 5 ∨ a = 6 ∨ a = 7 ∨ a = 8 ∨ a = 9 ∨ (a < 1 ∨ 9 < a) := by omega
theorem kind_is (a : Int) : Ev (fun k => prog_kind.f k a) (uReg a, uSrc a, uLoc a, uImm a, wt a, isKd a) := by
  refine ⟨1, fun k hk => ?_⟩
  obtain ⟨k, rfl⟩ : ∃ m, k = m + 1 := ⟨k - 1, by omega⟩
  simp only [prog_kind.f, prog_kind.j0]
  rcases nine a with rfl | rfl | rfl | rfl | rfl | rfl | rfl | rfl | rfl | h
  · decide
  · decide
  · decide
  · decide
  · decide
  · decide
  · decide
  · decide
  · decide
  · have n1 : ¬ a = 1 := by omega
    have n2 : ¬ a = 2 := by omega
    have n3 : ¬ a = 3 := by omega
    have n4 : ¬ a = 4 := by omega
    have n5 : ¬ a = 5 := by omega
    have n6 : ¬ a = 6 := by omega
    have n7 : ¬ a = 7 := by omega
    have n8 : ¬ a = 8 := by omega
    have n9 : ¬ a = 9 := by omega
    have hk : ¬ (1 ≤ a ∧ a ≤ 9) := by omega
    simp [n1, n2, n3, n4, n5, n6, n7, n8, n9, uReg, uSrc, uLoc, uImm, wt, isKd, hk]
theorem uses_is (a : Int) : Ev (fun k => weirref09_uses.f k a) (uReg a, uSrc a, uLoc a, uImm a) := by
  refine ⟨1, fun k hk => ?_⟩
  obtain ⟨k, rfl⟩ : ∃ m, k = m + 1 := ⟨k - 1, by omega⟩
  simp only [weirref09_uses.f, weirref09_uses.j0]
  rcases nine a with rfl | rfl | rfl | rfl | rfl | rfl | rfl | rfl | rfl | h
  · decide
  · decide
  · decide
  · decide
  · decide
  · decide
  · decide
  · decide
  · decide
  · have n1 : ¬ a = 1 := by omega
    have n2 : ¬ a = 2 := by omega
    have n3 : ¬ a = 3 := by omega
    have n4 : ¬ a = 4 := by omega
    have n5 : ¬ a = 5 := by omega
    have n7 : ¬ a = 7 := by omega
    have n8 : ¬ a = 8 := by omega
    have n9 : ¬ a = 9 := by omega
    simp [n1, n2, n3, n4, n5, n7, n8, n9, uReg, uSrc, uLoc, uImm]
theorem weight_is (a : Int) : Ev (fun k => weirref09_weight.f k a) (wt a) := by
  refine ⟨1, fun k hk => ?_⟩
  obtain ⟨k, rfl⟩ : ∃ m, k = m + 1 := ⟨k - 1, by omega⟩
  simp only [weirref09_weight.f, weirref09_weight.j0]
  rcases nine a with rfl | rfl | rfl | rfl | rfl | rfl | rfl | rfl | rfl | h
  · decide
  · decide
  · decide
  · decide
  · decide
  · decide
  · decide
  · decide
  · decide
  · have n3 : ¬ a = 3 := by omega
    have n4 : ¬ a = 4 := by omega
    have n5 : ¬ a = 5 := by omega
    have n6 : ¬ a = 6 := by omega
    have n7 : ¬ a = 7 := by omega
    have n8 : ¬ a = 8 := by omega
    have n9 : ¬ a = 9 := by omega
    simp [n3, n4, n5, n6, n7, n8, n9, wt]

/-! ### events -/
def evL (x : Int) (ops : List S87) : Int := ops.foldl (fun x o => wrap64 (x + wt o.f0)) x
def evM (n : Int) (th : List (List S87)) : Int := th.foldl evL n
theorem drop_T87 {l : List S87} {j : Nat} (h : j < l.length) : l.drop j = rd_T87 l (j : Int) :: l.drop (j + 1) := by
  rw [List.drop_eq_getElem_cons h]
  congr 1
  simp [rd_T87, List.getD_eq_getElem?_getD, List.getElem?_eq_getElem h]
theorem drop_L3 {l : List (List S87)} {j : Nat} (h : j < l.length) : l.drop j = rd_L3 l (j : Int) :: l.drop (j + 1) := by
  rw [List.drop_eq_getElem_cons h]
  congr 1
  simp [rd_L3, List.getD_eq_getElem?_getD, List.getElem?_eq_getElem h]
/-- Sizes that no wrap round touches. -/
structure Sized (p : Pg) : Prop where
  th : p.th.length ≤ 9223372036854775807
  op : ∀ i : Int, (rd_L3 p.th i).length ≤ 9223372036854775807
theorem events_is (p : Pg) (hz : Sized p) : Ev (fun k => prog_Events.f k p.th p.rg p.lo p.r0 p.m0) (evM p.lo.length p.th) := by
  have outer : ∀ (d i : Nat) (x : Int), i + d = p.th.length → Ev (fun k => prog_Events.l0 k x p.th p.th.length i) (evM x (p.th.drop i)) := by
    intro d
    induction d with
    | zero =>
      intro i x hi
      rw [List.drop_eq_nil_of_le (by omega)]
      refine Ev.step (f := fun _ => some x) (fun k => ?_) (Ev.now _)
      simp only [prog_Events.l0]
      rw [if_neg (by omega)]
    | succ d ih =>
      intro i x hi
      rw [drop_L3 (by omega)]
      have hw := wrap_nat (k := i) (n := p.th.length) (by omega) hz.th
      have inner : ∀ (e j : Nat) (y : Int), j + e = (rd_L3 p.th i).length → Ev (fun k => prog_Events.l1 k y p.th p.th.length i (rd_L3 p.th i) (rd_L3 p.th i).length j) (evM (evL y ((rd_L3 p.th i).drop j)) (p.th.drop (i + 1))) := by
        intro e
        induction e with
        | zero =>
          intro j y hj
          rw [List.drop_eq_nil_of_le (by omega)]
          refine Ev.step (fun k => ?_) (ih (i + 1) y (by omega))
          simp only [prog_Events.l1]
          rw [if_neg (by omega), hw]
        | succ e ihe =>
          intro j y hj
          rw [drop_T87 (l := rd_L3 p.th i) (j := j) (by omega)]
          have hwj := wrap_nat (k := j) (n := (rd_L3 p.th i).length) (by omega) (hz.op i)
          refine Ev.step (f := fun k => (prog_kind.f k (rd_T87 (rd_L3 p.th i) j).f0).bind fun bt => prog_Events.l1 k (wrap64 (y + bt.2.2.2.2.1)) p.th p.th.length i (rd_L3 p.th i) (rd_L3 p.th i).length ((j + 1 : Nat) : Int)) (fun k => ?_) (Ev.bind (kind_is _) (ihe (j + 1) _ (by omega)))
          simp only [prog_Events.l1]
          rw [if_pos (by omega), if_pos (by omega), if_pos (by omega), hwj]
      refine Ev.step (fun k => ?_) (inner (rd_L3 p.th i).length 0 x (by omega))
      simp only [prog_Events.l0]
      rw [if_pos (by omega), if_pos (by omega), if_pos (by omega)]; rfl
  exact Ev.congr (fun k => by simp only [prog_Events.f]; rfl) (outer p.th.length 0 p.lo.length (by omega))
theorem events_ref (p : Pg) (hz : Sized p) : Ev (fun k => weirref09_Events.f k p.th p.rg p.lo p.r0 p.m0) (evM p.lo.length p.th) := by
  have outer : ∀ (d i : Nat) (x : Int), i + d = p.th.length → Ev (fun k => weirref09_Events.l0 k x i p.th p.rg p.lo p.r0 p.m0) (evM x (p.th.drop i)) := by
    intro d
    induction d with
    | zero =>
      intro i x hi
      rw [List.drop_eq_nil_of_le (by omega)]
      refine Ev.step (f := fun _ => some x) (fun k => ?_) (Ev.now _)
      simp only [weirref09_Events.l0]
      rw [if_neg (by omega)]
    | succ d ih =>
      intro i x hi
      rw [drop_L3 (by omega)]
      have hw := wrap_nat (k := i) (n := p.th.length) (by omega) hz.th
      have inner : ∀ (e j : Nat) (y : Int), j + e = (rd_L3 p.th i).length → Ev (fun k => weirref09_Events.l1 k y i j p.th p.rg p.lo p.r0 p.m0) (evM (evL y ((rd_L3 p.th i).drop j)) (p.th.drop (i + 1))) := by
        intro e
        induction e with
        | zero =>
          intro j y hj
          rw [List.drop_eq_nil_of_le (by omega)]
          refine Ev.step (fun k => ?_) (ih (i + 1) y (by omega))
          simp only [weirref09_Events.l1]
          rw [if_pos (by omega), if_pos (by omega), if_neg (by omega), hw]
        | succ e ihe =>
          intro j y hj
          rw [drop_T87 (l := rd_L3 p.th i) (j := j) (by omega)]
          have hwj := wrap_nat (k := j) (n := (rd_L3 p.th i).length) (by omega) (hz.op i)
          refine Ev.step (f := fun k => (weirref09_weight.f k (rd_T87 (rd_L3 p.th i) j).f0).bind fun t => weirref09_Events.l1 k (wrap64 (y + t)) i ((j + 1 : Nat) : Int) p.th p.rg p.lo p.r0 p.m0) (fun k => ?_) (Ev.bind (weight_is _) (ihe (j + 1) _ (by omega)))
          simp only [weirref09_Events.l1]
          rw [if_pos (by omega), if_pos (by omega), if_pos (by omega), if_pos (by omega), hwj]
      refine Ev.step (fun k => ?_) (inner (rd_L3 p.th i).length 0 x (by omega))
      simp only [weirref09_Events.l0]
      rw [if_pos (by omega)]; rfl
  exact Ev.congr (fun k => by simp only [weirref09_Events.f]; rfl) (outer p.th.length 0 p.lo.length (by omega))
end Go.Proofs.Ytemhpbdlonfikaa.P
