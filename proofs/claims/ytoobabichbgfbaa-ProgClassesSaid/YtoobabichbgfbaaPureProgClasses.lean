/- Class and Register of the program answer what the document's Class and Register answer, at every number and every text. -/
import Derived.Test.YtoobabichbgfbaaP2
namespace Go.Proofs.Ytoobabichbgfbaa.Pure
open Go.RowKit Go.Proofs.Ytoobabichbgfbaa.P Go.Proofs.YtoobabichbgfbaaW.PrintWords Go.Proofs.YtoobabichbgfbaaW.PrintLast

theorem class_tells (e : Int) : ∃ r, Ev (fun k => prog_Class.f k e) r ∧ Ev (fun k => weirref09_Class.f k e) r := by
  have h : ∀ k, ∃ r, prog_Class.f (k + 3) e = some r ∧ weirref09_Class.f (k + 3) e = some r ∧ ∀ m, prog_Class.f (m + 3) e = some r := by
    intro k
    simp only [prog_Class.f, weirref09_Class.f, prog_Class.j0, prog_Class.j1, prog_Class.j2, weirref09_Class.j0, weirref09_Class.j1, weirref09_Class.j2]
    (repeat' split) <;> exact ⟨_, rfl, rfl, fun _ => rfl⟩
  obtain ⟨r, h1, _, h3⟩ := h 0
  have h2 : ∀ m, weirref09_Class.f (m + 3) e = some r := by
    intro m
    obtain ⟨r', a1, a2, _⟩ := h m
    rw [h3 m] at a1
    rw [a2]
    exact a1.symm
  refine ⟨r, ⟨3, fun k hk => ?_⟩, ⟨3, fun k hk => ?_⟩⟩
  · obtain ⟨m, rfl⟩ : ∃ m, k = m + 3 := ⟨k - 3, by omega⟩
    exact h3 m
  · obtain ⟨m, rfl⟩ : ∃ m, k = m + 3 := ⟨k - 3, by omega⟩
    exact h2 m

theorem register_same (s : ByteArray) : ∃ r, prog_Register.f s = some r ∧ weirref09_Register.f s = some r := by
  refine ⟨among s 16, ?_, rfl⟩
  unfold prog_Register.f among
  rw [List.take_of_length_le (by rw [regNames_length]; omega)]
  unfold regNames
  simp only [List.any_cons, List.any_nil, ByteArray.toList_eq]
  generalize s.data.toList = l
  have key : ∀ (a : List UInt8) (b : Bool), (if l = a then some true else some b) = some ((a == l) || b) := by
    intro a b
    by_cases h : l = a
    · rw [if_pos h, h]; simp
    · rw [if_neg h]
      have h' : (a == l) = false := by simpa using fun e => h e.symm
      rw [h', Bool.false_or]
  simp only [key]

theorem loop_ends (e : Int) (s : ByteArray) (d : Nat) : ∀ i : Nat, i + d = 120 → Ev (fun k => weirlaw09_ProgClasses.l0 k e s i) true := by
  induction d with
  | zero =>
    intro i hi
    obtain ⟨r, h1, h2⟩ := class_tells e
    obtain ⟨q, h3, h4⟩ := register_same s
    refine Ev.step (f := fun k => (prog_Class.f k e).bind fun a => (weirref09_Class.f k e).bind fun b => if a = b then some (q == q) else some false) (fun k => ?_) (Ev.bind (f := fun k a => (weirref09_Class.f k e).bind fun b => if a = b then some (q == q) else some false) h1 (Ev.bind (f := fun _ b => if r = b then some (q == q) else some false) h2 (by simp; exact Ev.now _)))
    simp only [weirlaw09_ProgClasses.l0]
    rw [if_neg (by omega), h3, h4]
    rfl
  | succ d ih =>
    intro i hi
    obtain ⟨r, h1, h2⟩ := class_tells i
    have e1 : wrap64 ((i : Int) + 1) = ((i + 1 : Nat) : Int) := by unfold wrap64; omega
    refine Ev.step (f := fun k => (prog_Class.f k i).bind fun a => (weirref09_Class.f k i).bind fun b => if a = b then weirlaw09_ProgClasses.l0 k e s ((i + 1 : Nat) : Int) else some false) (fun k => ?_) (Ev.bind (f := fun k a => (weirref09_Class.f k i).bind fun b => if a = b then weirlaw09_ProgClasses.l0 k e s ((i + 1 : Nat) : Int) else some false) h1 (Ev.bind (f := fun k b => if r = b then weirlaw09_ProgClasses.l0 k e s ((i + 1 : Nat) : Int) else some false) h2 (by simp only [if_true]; exact ih (i + 1) (by omega))))
    simp only [weirlaw09_ProgClasses.l0]
    rw [if_pos (by omega), e1]

theorem ProgClasses : weirlaw09_ProgClasses.Pure := by
  intro e s _ _
  exact Ev.rounds (Ev.congr (fun k => rfl) (loop_ends e s 120 0 rfl))
end Go.Proofs.Ytoobabichbgfbaa.Pure
