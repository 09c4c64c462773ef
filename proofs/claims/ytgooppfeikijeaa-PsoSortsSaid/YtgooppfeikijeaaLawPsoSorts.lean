/- PsoSorts: the row, by its walk and its plain law. -/
import Derived.Test.YtgooppfeikijeaaRows
import Derived.Test.YtgooppfeikijeaaHw
import Derived.Test.YtgooppfeikijeaaSortG
import Derived.Test.YtgooppfeikijeaaState
import Derived.WalkKit
import Derived.ProofKit
import Derived.OpenShut
import Derived.ShutString
import Derived.ChangeOld
import Derived.Below
import Derived.Carry
import Derived.SizedLaws
namespace Go.Proofs.Ytgooppfeikijeaa.psoSorts
open Go.ChangeShapes Go.WideShapes Go.ChangeAt Go.RowKit
theorem own : ownKnob Try.prog.godebug = none := by kernel_rfl
theorem laidOut : laidOutB Try.prog = true := by kernel_rfl
set_option maxRecDepth 100000 in
theorem lifted (os : Os) (started : os.Started) (H : Type) (enc : TypeId × Value → H) :
    ReturnsInHanded {} Try.checked os 3 .any (Rows.psoSortsSpec.pre6 enc Try.prog Try.f3 Rows.psoSortsRow.domain false) (Rows.psoSortsSpec.post enc Try.prog Try.f3 false true false false) := by
  refine returnsInHanded_of_change_sized (C := Try.checked) own started (by kernel_rfl) Try.func3
    (ChangeSpec.witness6 (enc := enc) (C := Try.checked) false ⟨#[], #[.agg #[.slice none 0 0, .slice none 0 0, .slice none 0 0, .slice none 0 0, .slice none 0 0, .int .i64 0]], []⟩ 8 (by kernel_rfl) (by kernel_rfl) (by kernel_rfl) (by kernel_rfl)) ?_
  intro W base args ds gs before hval0 hW hcnd hsz0 _
  have hsz : (DataW.weightsEach Try.prog (Try.f3.params.toList ++ Rows.psoSortsSpec.plain.varTypes Try.prog) (ds ++ gs)).all (· ≤ reachBytes) = true := hsz0
  have hval : ∀ (j : Nat) t v, Try.f3.params[j]? = some t → args[j]? = some v → Value.okWide Try.prog W .any base t v := hval0
  have hW' := hW
  obtain ⟨p, q, hA0, hV, rfl, hfz, hnd⟩ := hW
  have hA : DataW.TrodAll enc Try.prog W 0 (fun _ => true) true Try.f3.params.toList args.toList ds p := hA0
  rw [Try.params3] at hA hval hsz
  obtain ⟨v0, vs0, d0, ds0, p0, q0, hargs, rfl, rfl, h0, r0⟩ := trodAll_cons hA
  obtain ⟨rfl, rfl, rfl⟩ := trodAll_nil r0
  obtain rfl : args = #[v0] := by cases args; simp_all
  obtain ⟨rfl, rfl⟩ := trodVars_none hV
  have k0 := h0
  have lt0 : ∀ x ∈ p0, x.block < W.heap.size := by obtain ⟨m, hm⟩ := k0; exact DataW.trod_lt m _ _ _ hm
  have hw0 : (d0.weights Try.prog 27).all (· ≤ reachBytes) = true := List.all_eq_true.2 (fun n hn => List.all_eq_true.1 hsz n (DataW.weights_mem_each (j := 0) rfl rfl n hn))
  obtain ⟨A0, A1, A2, A3, A4, c0, c1, c2, c3, c4, x0, x1, x2, x3, x4, x5, rfl, e0, f0, e1, f1, e2, f2, e3, f3, e4, f4, g0, g1, g2, g3, g4, g5, g6⟩ := P.opens_state (hval 0 27 v0 rfl rfl) h0 hw0
  obtain ⟨k, k1, k2, k3, k4, k5, k6⟩ := Pure.law_all (c := x5) ⟨g0, g1, g2, g3, g4, g5, g6⟩
  clear hA0 hval0 hsz0 hsz
  refine (P.psoSorts_walk (s := ⟨x0, x1, x2, x3, x4, x5⟩) (s1 := ⟨x0, x1, x2, x3, x4, x5⟩) (s2 := ⟨x0, x1, x2, x3, x4.map Pure.st, x5⟩) (s3 := ⟨x0, x1, x2, x3, x4.map Pure.st, x5⟩) (s4 := ⟨x0, x1, x2, x3, x4.map Pure.st, x5⟩)
    ⟨A0, A1, A2, A3, A4, c0, c1, c2, c3, c4, rfl, e0, f0, e1, f1, e2, f2, e3, f3, e4, f4⟩ k1 k2 k3 k4 k5 k6 k4).mono fun e W' ⟨he, bel⟩ => ?_
  subst he
  exact ⟨_, rfl, _, _, _, [], _, [], hW', trodAll_mk1 (shut_bool Try.underlying4 _), (trodAll_cons_mk (Below.trod laidOut (by kernel_rfl) (of_decide_eq_true (by kernel_rfl)) k0 bel lt0) trodAll_mk0), rfl, bel.frame _, fun h => by cases h⟩
theorem over : Rows.psoSortsRow.holds Try.pinned (OpenSpec.ofChange Rows.psoSortsSpec) :=
  OpenClaim.holds_of_wide 3 Try.f3 rfl rfl rfl rfl rfl rfl rfl ⟨rfl, rfl, rfl, rfl, rfl⟩ rfl rfl rfl rfl rfl (by kernel_rfl) Try.func3 (by kernel_rfl)
    (of_decide_eq_true (by kernel_rfl)) (by unfold Func.isWrapper; first | (rw [if_pos (by decide +kernel)]; kernel_rfl) | (rw [if_neg (by decide +kernel)]; exact ⟨rfl, rfl⟩))
    (fun os started H enc _ => lifted os started H enc)
theorem proved : Rows.PsoSortsSaid := over
#print axioms proved
end Go.Proofs.Ytgooppfeikijeaa.psoSorts
namespace Go.Proofs.Ytgooppfeikijeaa
/-- The row, under a short name, for the claim. -/
theorem psoSorts_holds : Rows.PsoSortsSaid := psoSorts.proved
end Go.Proofs.Ytgooppfeikijeaa
