/- ScPlays: the row, by its walk and its plain law. -/
import Derived.Test.YtemhpbdlonfikaaRows
import Derived.Test.YtemhpbdlonfikaaLaw
import Derived.Test.YtemhpbdlonfikaaPvj
import Derived.Test.YtemhpbdlonfikaaArgP
import Derived.WalkKit
import Derived.ProofKit
import Derived.OpenShut
import Derived.ChangeOld
import Derived.Below
import Derived.Carry
import Derived.SizedLaws
namespace Go.Proofs.Ytemhpbdlonfikaa.P
open Go Go.RowKit Go.Proofs.YtemhpbdlonfikaaW.PrintWords
theorem getD_len {α : Type} {l : List (List α)} {n m : Nat} (h : ∀ x ∈ l, x.length ≤ m) : (l.getD n []).length ≤ m := by
  rw [List.getD_eq_getElem?_getD]
  cases hc : l[n]? with
  | none => simp
  | some x => exact h x (List.mem_of_getElem? hc)
theorem vsz_of {p : Pg} (h0 : p.th.length < 5864062014806) (h1 : p.rg.length < 5864062014806) (h2 : p.lo.length ≤ 8796093022208) (h3 : ∀ x ∈ p.th, x.length ≤ 3518437208883) (h4 : ∀ x ∈ p.rg, x.length ≤ 8796093022208) (h5 : ∀ s ∈ p.lo, s.size ≤ 140737488351232) : VSz p := by
  refine ⟨⟨by omega, fun i => Nat.le_trans (getD_len h3) (by omega)⟩, by omega, fun i => Nat.le_trans (getD_len h4) (by omega), by omega, fun i => ?_⟩
  unfold tx rdOf
  rw [List.getD_eq_getElem?_getD]
  cases hc : p.lo[((i : Int)).toNat]? with
  | none => simp
  | some x => exact h5 x (List.mem_of_getElem? hc)
end Go.Proofs.Ytemhpbdlonfikaa.P
namespace Go.Proofs.Ytemhpbdlonfikaa.scPlays
open Go.ChangeShapes Go.WideShapes Go.ChangeAt Go.RowKit Go.Proofs.YtemhpbdlonfikaaW.PrintWords
theorem own : ownKnob Try.prog.godebug = none := by kernel_rfl
theorem laidOut : laidOutB Try.prog = true := by kernel_rfl
set_option maxRecDepth 100000 in
theorem lifted (os : Os) (started : os.Started) (H : Type) (enc : TypeId × Value → H) :
    ReturnsInHanded {} Try.checked os 3 .any (Rows.scPlaysSpec.pre6 enc Try.prog Try.f3 Rows.scPlaysRow.domain false) (Rows.scPlaysSpec.post enc Try.prog Try.f3 false true false false) := by
  refine returnsInHanded_of_change_sized (C := Try.checked) own started (by kernel_rfl) Try.func3
    (ChangeSpec.witness6 (enc := enc) (C := Try.checked) false ⟨#[], #[.agg #[.slice none 0 0, .slice none 0 0, .slice none 0 0, .slice none 0 0, .slice none 0 0], .slice none 0 0], []⟩ 8 (by kernel_rfl) (by kernel_rfl) (by kernel_rfl) (by kernel_rfl)) ?_
  intro W base args ds gs before hval0 hW hcnd hsz0 _
  have hsz : (DataW.weightsEach Try.prog (Try.f3.params.toList ++ Rows.scPlaysSpec.plain.varTypes Try.prog) (ds ++ gs)).all (· ≤ reachBytes) = true := hsz0
  have hval : ∀ (j : Nat) t v, Try.f3.params[j]? = some t → args[j]? = some v → Value.okWide Try.prog W .any base t v := hval0
  have hW' := hW
  obtain ⟨p, q, hA0, hV, rfl, hfz, hnd⟩ := hW
  have hA : DataW.TrodAll enc Try.prog W 0 (fun _ => true) true Try.f3.params.toList args.toList ds p := hA0
  rw [Try.params3] at hA hval hsz
  obtain ⟨v0, vs0, d0, ds0, p0, q0, hargs, rfl, rfl, h0, r0⟩ := trodAll_cons hA
  obtain ⟨v1, vs1, d1, ds1, p1, q1, rfl, rfl, rfl, h1, r1⟩ := trodAll_cons r0
  obtain ⟨rfl, rfl, rfl⟩ := trodAll_nil r1
  obtain rfl : args = #[v0, v1] := by cases args; simp_all
  obtain ⟨rfl, rfl⟩ := trodVars_none hV
  have k0 := h0
  have lt0 : ∀ x ∈ p0, x.block < W.heap.size := by obtain ⟨m, hm⟩ := k0; exact DataW.trod_lt m _ _ _ hm
  have k1 := h1
  have lt1 : ∀ x ∈ p1, x.block < W.heap.size := by obtain ⟨m, hm⟩ := k1; exact DataW.trod_lt m _ _ _ hm
  have hw0 : (d0.weights Try.prog 28).all (· ≤ reachBytes) = true := List.all_eq_true.2 (fun n hn => List.all_eq_true.1 hsz n (DataW.weights_mem_each (j := 0) rfl rfl n hn))
  have hw1 : (d1.weights Try.prog 29).all (· ≤ reachBytes) = true := List.all_eq_true.2 (fun n hn => List.all_eq_true.1 hsz n (DataW.weights_mem_each (j := 1) rfl rfl n hn))
  obtain ⟨A0, A1, A2, A3, A4, c0, c1, c2, c3, c4, th, rg, lo, ro, me, rfl, e0, f0, e1, f1, e2, f2, e3, f3, e4, f4, g0, g1, g2, g3, g4, g5⟩ := P.opens_prog (hval 0 28 v0 rfl rfl) h0 hw0
  obtain ⟨ao, len, co, rfl⟩ := okWide_slice Try.underlying29 (hval 1 29 v1 rfl rfl)
  obtain ⟨fuel, h1'⟩ := h1
  obtain ⟨order, ⟨Ao, co', e5, l5, k5⟩, g6, _⟩ := P.opens_slice (d := Kd.int .i64) Try.underlying29 (by kernel_rfl) (P.opens_int (k := .i64) Try.underlying3) _ enc W _ _ _ fuel _ _ h1' hw1
  have e6 : [Value.slice ao len co] = [Value.slice Ao order.length co'] := e5
  injection e6 with e6 _
  injection e6 with ea el ec
  subst ea el ec
  have b3 : Try.prog.bytesOf 3 = 8 := by kernel_rfl
  have hR : reachBytes = 140737488351232 := by decide
  rw [b3, hR] at g6
  have vz := P.vsz_of (p := ⟨th, rg, lo, ro, me⟩) g0 g1 g2 g3 g4 g5
  clear hA0 hval0 hsz0 hsz
  refine (P.scPlays_walk (p := ⟨th, rg, lo, ro, me⟩) (r := P.validM ⟨th, rg, lo, ro, me⟩)
    ⟨A0, A1, A2, A3, A4, c0, c1, c2, c3, c4, rfl, e0, f0, e1, f1, e2, f2, e3, f3, e4, f4⟩ (P.valid_prog vz) (P.valid_ref vz) P.valid_right k5 l5 (by omega)).mono fun e W' ⟨he, bel⟩ => ?_
  subst he
  exact ⟨_, rfl, _, _, _, [], _, [], hW', trodAll_mk1 (shut_bool Try.underlying4 _), (trodAll_cons_mk (Below.trod laidOut (by kernel_rfl) (of_decide_eq_true (by kernel_rfl)) k0 bel lt0) (trodAll_cons_mk (Below.trod laidOut (by kernel_rfl) (of_decide_eq_true (by kernel_rfl)) k1 bel lt1) trodAll_mk0)), rfl, bel.frame _, fun h => by cases h⟩
theorem over : Rows.scPlaysRow.holds Try.pinned (OpenSpec.ofChange Rows.scPlaysSpec) :=
  OpenClaim.holds_of_wide 3 Try.f3 rfl rfl rfl rfl rfl rfl rfl ⟨rfl, rfl, rfl, rfl, rfl⟩ rfl rfl rfl rfl rfl (by kernel_rfl) Try.func3 (by kernel_rfl)
    (of_decide_eq_true (by kernel_rfl)) (by unfold Func.isWrapper; first | (rw [if_pos (by decide +kernel)]; kernel_rfl) | (rw [if_neg (by decide +kernel)]; exact ⟨rfl, rfl⟩))
    (fun os started H enc _ => lifted os started H enc)
theorem proved : Rows.ScPlaysSaid := over
#print axioms proved
end Go.Proofs.Ytemhpbdlonfikaa.scPlays
namespace Go.Proofs.Ytemhpbdlonfikaa
/-- The row, under a short name, for the claim. -/
theorem scPlays_holds : Rows.ScPlaysSaid := scPlays.proved
end Go.Proofs.Ytemhpbdlonfikaa
