/- append of a slice of another slice type, as a step; the greatest of a list. -/
import Derived.Test.YtohpboblmmbjnaaBag
import Derived.Test.YtohpboblmmbjnaaP8
namespace Go.Proofs.Ytohpboblmmbjnaa.P
open Go Go.RowKit Go.Shelf Go.Proofs.YtohpboblmmbjnaaW.PrintWords Go.Proofs.YtohpboblmmbjnaaW.PrintLast Go.Proofs.YtohpboblmmbjnaaW.PrintMore Go.Proofs.Odo

theorem append_two {P : Program} {t t2 ty e e2 : TypeId} (ht : P.underlying t = some (.slice e)) (ht2 : P.underlying t2 = some (.slice e2)) (v x : Value) (W : World) :
    (Builtin.append_ #[t, t2] ty #[v, x]).run P W = (Builtin.append_ #[t, t] ty #[v, x]).run P W := by
  unfold Builtin.append_
  cases v <;> simp only [List.getElem?_toArray, List.getElem?_cons_zero, List.getElem?_cons_succ, Sem.run_bind, run_underlying ht, run_underlying ht2, Result.andThen_ok, pure_bind]

section
variable {P : Program} {ops : Array Oper} {o : Oper} {a : Act} {Q : Exit → Act → World → Prop} {Kc : Act → World → Prop}
theorem append_two_step {α : Type} (d : Kd α) {Rr : α → List Value → Prop} {w0 W : World} (base : Nat) (hg : o.guard = none) (s x : Operand) (t t2 e e2 : TypeId) (z : Value) (bytes : Nat)
    (ho : o.op = .call { callee := .builtin .append, args := #[s, x], argTypes := #[t, t2] })
    (ht : P.underlying t = some (.slice e)) (ht2 : P.underlying t2 = some (.slice e2)) (hinfo : (P.info? e).map (fun i => (i.zero, i.size, i.bytes)) = some (some z, d.sz, bytes)) (hz : z.cells.size = d.sz) (hs0 : 0 < d.sz) (hb0 : 0 < bytes)
    (v : Value) (xs ys : List α) (A : Option Addr) (m c : Nat) (ok okp : Nat → Prop) (hs : a.eval s = v) (hx : a.eval x = .slice A m c)
    (HO : d.R e W base ok v xs) (HR : ReadsRow Rr d.sz W A m ys) (hKM : ∀ x cs, Rr x cs → d.M W base okp x cs) (hokp : ∀ k, okp k → ok k ∧ some k ≠ v.ownBlock) (hfresh : ∀ k, W.heap.size ≤ k → ok k)
    (HB : Below base w0 W) (hbase : base ≤ W.heap.size) (hl : (xs.length + m) * bytes ≤ 140737488355328)
    (h : ∀ v1 w1, d.R e w1 base ok v1 (xs ++ ys) → Below base w0 w1 → W.grownBy w1 v.ownBlock → (v1.ownBlock = v.ownBlock ∨ ∃ b, v1.ownBlock = some b ∧ W.heap.size ≤ b) → Kc (a.put o.dst v1) w1) :
    if Region.wanted o (yielded ops a.tmps) = true then Oper.wp P o a W Kc Q else Kc (a.put o.dst undef) W := by
  have hw : Region.wanted o (yielded ops a.tmps) = true := by simp [Region.wanted, hg]
  have h1 := Kd.R_append_rows_step (P := P) (ops := ops) (o := { o with op := .call { callee := .builtin .append, args := #[s, x], argTypes := #[t, t] } }) (a := a) (Q := Q) (Kc := Kc) d base (by simpa [Region.wanted] using hw) s x t e z bytes rfl ht hinfo hz hs0 hb0 v xs ys A m c ok okp hs hx HO HR hKM hokp hfresh HB hbase hl h
  have hw' : Region.wanted { o with op := .call { callee := .builtin .append, args := #[s, x], argTypes := #[t, t] } } (yielded ops a.tmps) = true := hw
  rw [if_pos hw'] at h1
  rw [if_pos hw]
  unfold Oper.wp execOp at h1 ⊢
  simp only [ho, resolve, invoke, builtin, Sem.run_bind, Sem.run_pure, Result.andThen_ok, List.map_toArray, List.map_cons, List.map_nil, hs, hx, append_two ht ht2] at h1 ⊢
  exact h1
end

theorem max_loop : ∀ (v : List Nat) (j : Nat) (m : Nat), j ≤ v.length → v.length < 9223372036854775800 → (∃ K, ∀ k, K ≤ k → slices_Max_int_int.l0 k (0 :: ints v) (m : Int) ((j : Int) + 1) = some (((v.drop j).foldl max m : Nat) : Int)) := by
  intro v j m hj hl
  induction hn : v.length - j generalizing j m with
  | zero =>
    obtain rfl : j = v.length := by omega
    refine ⟨1, fun k hk => ?_⟩
    obtain ⟨k, rfl⟩ : ∃ k', k = k' + 1 := ⟨k - 1, by omega⟩
    simp [slices_Max_int_int.l0, ints_length]
  | succ n ih =>
    have hlt : j < v.length := by omega
    obtain ⟨K, hK⟩ := ih (j + 1) (max m (v.getD j 0)) (by omega) (by omega)
    refine ⟨K + 1, fun k hk => ?_⟩
    obtain ⟨k, rfl⟩ : ∃ k', k = k' + 1 := ⟨k - 1, by omega⟩
    have h1 := hK k (by omega)
    have hrd : rd (0 :: ints v) ((j : Int) + 1) = ((v.getD j 0 : Nat) : Int) := by
      have := rd_ints v j
      unfold rd at this ⊢
      rw [show ((j : Int) + 1).toNat = j + 1 from by omega]
      rwa [Int.toNat_natCast] at this
    have hmx : mx (m : Int) ((v.getD j 0 : Nat) : Int) = ((max m (v.getD j 0) : Nat) : Int) := by
      unfold mx
      split <;> omega
    rw [slices_Max_int_int.l0, if_pos (by simp [ints_length]; omega), if_pos (by omega), hrd, hmx, w64 (by omega) (by omega)]
    rw [List.drop_eq_getElem_cons hlt, List.foldl_cons]
    rw [List.getD_eq_getElem?_getD, List.getElem?_eq_getElem hlt] at h1 ⊢
    simp only [Option.getD_some] at h1 ⊢
    rw [← h1]
    congr 1
theorem max_zero : ∀ (v : List Nat) (m : Nat), (v.foldl max m = 0) ↔ (m = 0 ∧ v.sum = 0)
  | [], m => by simp
  | x :: v, m => by
    rw [List.foldl_cons, max_zero v, List.sum_cons]
    omega
theorem max_is (v : List Nat) (hl : v.length < 9223372036854775800) : ∃ k r, slices_Max_int_int.f k (0 :: ints v) = some r ∧ (r == 0) = decide (v.sum = 0) := by
  obtain ⟨K, hK⟩ := max_loop v 0 0 (Nat.zero_le _) hl
  refine ⟨K, (((v.drop 0).foldl max 0 : Nat) : Int), ?_, ?_⟩
  · rw [← hK K (Nat.le_refl _)]
    unfold slices_Max_int_int.f
    rw [if_neg (by simp; omega), if_pos (by simp)]
    rfl
  · have h := max_zero v 0
    rw [List.drop_zero]
    by_cases hs : v.sum = 0
    · rw [h.2 ⟨rfl, hs⟩, decide_eq_true hs]; rfl
    · rw [decide_eq_false hs]
      exact beq_eq_false_iff_ne.2 (fun e => hs (h.1 (by omega)).2)
end Go.Proofs.Ytohpboblmmbjnaa.P
