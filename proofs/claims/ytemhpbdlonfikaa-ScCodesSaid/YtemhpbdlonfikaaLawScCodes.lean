/- ScCodes: the row, by its walk and its plain law. -/
import Derived.Test.YtemhpbdlonfikaaRows
import Derived.Test.YtemhpbdlonfikaaArgS
import Derived.Test.YtemhpbdlonfikaaPvj
import Derived.WalkKit
import Derived.ProofKit
import Derived.OpenShut
import Derived.ChangeOld
import Derived.Below
import Derived.Carry
import Derived.SizedLaws
namespace Go.Proofs.Ytemhpbdlonfikaa.scCodes
open Go.ChangeShapes Go.WideShapes Go.ChangeAt Go.RowKit Go.Proofs.YtemhpbdlonfikaaW.PrintWords
open Go.ChangeMaps (open_string shut_string)
theorem own : ownKnob Try.prog.godebug = none := by kernel_rfl
theorem laidOut : laidOutB Try.prog = true := by kernel_rfl
set_option maxRecDepth 100000 in
theorem lifted (os : Os) (started : os.Started) (H : Type) (enc : TypeId × Value → H) :
    ReturnsInHanded {} Try.checked os 4 .any (Rows.scCodesSpec.pre6 enc Try.prog Try.f4 Rows.scCodesRow.domain false) (Rows.scCodesSpec.post enc Try.prog Try.f4 false true false false) := by
  refine returnsInHanded_of_change_sized (C := Try.checked) own started (by kernel_rfl) Try.func4
    (ChangeSpec.witness6 (enc := enc) (C := Try.checked) false ⟨#[], #[.agg #[.slice none 0 0, .slice none 0 0, .slice none 0 0, .slice none 0 0, .slice none 0 0], .agg #[.slice none 0 0, .slice none 0 0, .slice none 0 0, .slice none 0 0, .slice none 0 0, .int .i64 0], .string ByteArray.empty], []⟩ 8 (by kernel_rfl) (by kernel_rfl) (by kernel_rfl) (by kernel_rfl)) ?_
  intro W base args ds gs before hval0 hW hcnd hsz0 _
  have hsz : (DataW.weightsEach Try.prog (Try.f4.params.toList ++ Rows.scCodesSpec.plain.varTypes Try.prog) (ds ++ gs)).all (· ≤ reachBytes) = true := hsz0
  have hval : ∀ (j : Nat) t v, Try.f4.params[j]? = some t → args[j]? = some v → Value.okWide Try.prog W .any base t v := hval0
  have hW' := hW
  obtain ⟨p, q, hA0, hV, rfl, hfz, hnd⟩ := hW
  have hA : DataW.TrodAll enc Try.prog W 0 (fun _ => true) true Try.f4.params.toList args.toList ds p := hA0
  rw [Try.params4] at hA hval hsz
  obtain ⟨v0, vs0, d0, ds0, p0, q0, hargs, rfl, rfl, h0, r0⟩ := trodAll_cons hA
  obtain ⟨v1, vs1, d1, ds1, p1, q1, rfl, rfl, rfl, h1, r1⟩ := trodAll_cons r0
  obtain ⟨v2, vs2, d2, ds2, p2, q2, rfl, rfl, rfl, h2, r2⟩ := trodAll_cons r1
  obtain ⟨rfl, rfl, rfl⟩ := trodAll_nil r2
  obtain rfl : args = #[v0, v1, v2] := by cases args; simp_all
  obtain ⟨rfl, rfl⟩ := trodVars_none hV
  have k0 := h0
  have lt0 : ∀ x ∈ p0, x.block < W.heap.size := by obtain ⟨m, hm⟩ := k0; exact DataW.trod_lt m _ _ _ hm
  have k1 := h1
  have lt1 : ∀ x ∈ p1, x.block < W.heap.size := by obtain ⟨m, hm⟩ := k1; exact DataW.trod_lt m _ _ _ hm
  have hw0 : (d0.weights Try.prog 28).all (· ≤ reachBytes) = true := List.all_eq_true.2 (fun n hn => List.all_eq_true.1 hsz n (DataW.weights_mem_each (j := 0) rfl rfl n hn))
  have hw1 : (d1.weights Try.prog 42).all (· ≤ reachBytes) = true := List.all_eq_true.2 (fun n hn => List.all_eq_true.1 hsz n (DataW.weights_mem_each (j := 1) rfl rfl n hn))
  obtain ⟨A0, A1, A2, A3, A4, c0, c1, c2, c3, c4, th, rg, lo, ro, me, rfl, e0, f0, e1, f1, e2, f2, e3, f3, e4, f4, g0, g1, g2, g3, g4, g5, gF⟩ := P.opens_progF (hval 0 28 v0 rfl rfl) h0 hw0
  obtain ⟨B0, B1, B2, B3, B4, d0', d1', d2', d3', d4', sp, sq, sr, sm, sb, sk, rfl, i0, j0, i1, j1, i2, j2, i3, j3, i4, j4, hN, hG⟩ := P.opens_stateF (hval 1 42 v1 rfl rfl) h1 hw1
  obtain ⟨s, rfl, rfl, rfl, y2⟩ := open_string Try.underlying9 (hval 2 9 v2 rfl rfl) h2
  have hs : s.size ≤ 4611686018427387904 := by
    have z := sized_string hsz (j := 2) (t := 9) rfl rfl
    rw [Array.length_toList] at z
    have hR : reachBytes = 140737488351232 := by decide
    have z' : s.size ≤ reachBytes := z
    omega
  have vz := P.vsz_of (p := ⟨th, rg, lo, ro, me⟩) g0 g1 g2 g3 g4 g5
  clear hA0 hval0 hsz0 hsz
  have hv := P.valid_ref vz
  refine (P.codes_walk (p := ⟨th, rg, lo, ro, me⟩) (pv := [.slice A0 th.length c0, .slice A1 rg.length c1, .slice A2 lo.length c2, .slice A3 ro.length c3, .slice A4 me.length c4]) (u := (sp, sq, sr, sm, sb, sk)) (sv := [.slice B0 sp.length d0', .slice B1 sq.length d1', .slice B2 sr.length d2', .slice B3 sm.length d3', .slice B4 sb.length d4', .int .i64 sk]) (s := s)
    ⟨A0, A1, A2, A3, A4, c0, c1, c2, c3, c4, rfl, e0, f0, e1, f1, e2, f2, e3, f3, e4, f4⟩ ⟨B0, B1, B2, B3, B4, d0', d1', d2', d3', d4', rfl, i0, j0, i1, j1, i2, j2, i3, j3, i4, j4⟩ vz hv gF hG hN hs).mono fun e W' ⟨he, bel⟩ => ?_
  subst he
  exact ⟨_, rfl, _, _, _, [], _, [], hW', trodAll_mk1 (shut_bool Try.underlying4 _), (trodAll_cons_mk (Below.trod laidOut (by kernel_rfl) (of_decide_eq_true (by kernel_rfl)) k0 bel lt0) (trodAll_cons_mk (Below.trod laidOut (by kernel_rfl) (of_decide_eq_true (by kernel_rfl)) k1 bel lt1) (trodAll_cons_mk (shut_string Try.underlying9 y2) trodAll_mk0))), rfl, bel.frame _, fun h => by cases h⟩
theorem over : Rows.scCodesRow.holds Try.pinned (OpenSpec.ofChange Rows.scCodesSpec) :=
  OpenClaim.holds_of_wide 4 Try.f4 rfl rfl rfl rfl rfl rfl rfl ⟨rfl, rfl, rfl, rfl, rfl⟩ rfl rfl rfl rfl rfl (by kernel_rfl) Try.func4 (by kernel_rfl)
    (of_decide_eq_true (by kernel_rfl)) (by unfold Func.isWrapper; first | (rw [if_pos (by decide +kernel)]; kernel_rfl) | (rw [if_neg (by decide +kernel)]; exact ⟨rfl, rfl⟩))
    (fun os started H enc _ => lifted os started H enc)
theorem proved : Rows.ScCodesSaid := over
#print axioms proved
end Go.Proofs.Ytemhpbdlonfikaa.scCodes
namespace Go.Proofs.Ytemhpbdlonfikaa
/-- The row, under a short name, for the claim. -/
theorem scCodes_holds : Rows.ScCodesSaid := scCodes.proved
end Go.Proofs.Ytemhpbdlonfikaa
