/- sc.do: an instruction is done at once, on two rows that the caller owns. -/
import Derived.Test.YtemhpbdlonfikaaOwn
import Derived.Test.YtemhpbdlonfikaaTpg
import Derived.Test.YtemhpbdlonfikaaP20
namespace Go.Proofs.Ytemhpbdlonfikaa.P
open Go Go.RowKit Go.Proofs.YtemhpbdlonfikaaW.PrintWords Go.Proofs.YtemhpbdlonfikaaW.PrintLast Go.Proofs.YtemhpbdlonfikaaW.PrintMore

/-- What an instruction makes of a thread's registers and of memory. -/
def doM (o : S87) (r me : List Int) : List Int × List Int :=
  if o.f0 = 1 then (r.set o.f1.toNat o.f4, me)
  else if o.f0 = 2 then (r.set o.f1.toNat (rd r o.f2), me)
  else if o.f0 = 3 then (r.set o.f1.toNat (rd me o.f3), me)
  else if o.f0 = 4 then (r, me.set o.f3.toNat o.f4)
  else if o.f0 = 5 then (r, me.set o.f3.toNat (rd r o.f2))
  else if o.f0 = 7 then (r.set o.f1.toNat (rd me o.f3), me.set o.f3.toNat (rd r o.f1))
  else if o.f0 = 9 then (r.set o.f1.toNat (rd me o.f3), me.set o.f3.toNat (wrap64 (rd me o.f3 + rd r o.f1)))
  else if o.f0 = 8 then if rd me o.f3 = rd r o.f1 then (r, me.set o.f3.toNat (rd r o.f2)) else (r.set o.f1.toNat (rd me o.f3), me)
  else (r, me)
/-- An instruction's numbers lie within. -/
def OpOK (o : S87) (nr nl : Nat) : Prop :=
  ((o.f0 = 1 ∨ o.f0 = 2 ∨ o.f0 = 3 ∨ o.f0 = 7 ∨ o.f0 = 8 ∨ o.f0 = 9) → 0 ≤ o.f1 ∧ o.f1 < nr) ∧ ((o.f0 = 2 ∨ o.f0 = 5 ∨ o.f0 = 8) → 0 ≤ o.f2 ∧ o.f2 < nr) ∧
  ((o.f0 = 3 ∨ o.f0 = 4 ∨ o.f0 = 5 ∨ o.f0 = 7 ∨ o.f0 = 8 ∨ o.f0 = 9) → 0 ≤ o.f3 ∧ o.f3 < nl)

section
variable {w W : World} {rows : List Rw} {cells : List (Nat × TypeId × Array Value)}
theorem Bag.ptr (h : Bag w rows cells W) {j : Nat} {e : TypeId} {v : Value} {l : List Int} (hj : rows[j]? = some (ri e v l)) {i : Int} (h0 : 0 ≤ i) (h1 : i < l.length) :
    ∃ g cap, v = .slice (some ⟨g, 0, none⟩) l.length cap ∧ W.cell? ⟨g, i.toNat, none⟩ = some (.int .i64 (rd l i)) ∧ W.frozen? ⟨g, i.toNat, none⟩ = false := by
  rcases (h.row j _ hj).2 with ⟨_, h2⟩ | ⟨g, cap, cur, hv, _⟩
  · have : l.length = 0 := h2
    omega
  · refine ⟨g, cap, hv, h.at hj hv (i := i.toNat) ?_⟩
    show (nums .i64 l)[i.toNat]? = _
    simp only [nums, List.getElem?_map, rd, List.getD_eq_getElem?_getD]
    rw [List.getElem?_eq_getElem (by omega)]
    rfl
theorem Bag.setNum (h : Bag w rows cells W) {j : Nat} {e : TypeId} {l : List Int} {g cap : Nat} (hj : rows[j]? = some (ri e (.slice (some ⟨g, 0, none⟩) l.length cap) l)) (i : Int) (x : Int) :
    Bag w (rows.set j (ri e (.slice (some ⟨g, 0, none⟩) l.length cap) (l.set i.toNat x))) cells (W.setCell ⟨g, i.toNat, none⟩ (.int .i64 x)) := by
  have h1 := h.setRow hj rfl i.toNat (.int .i64 x)
  have e1 : ({ ri e (.slice (some ⟨g, 0, none⟩) l.length cap) l with xs := (ri e (.slice (some ⟨g, 0, none⟩) l.length cap) l).xs.set i.toNat (.int .i64 x) } : Rw) = ri e (.slice (some ⟨g, 0, none⟩) l.length cap) (l.set i.toNat x) := by
    simp [ri, nums, List.map_set]
  rwa [e1] at h1
end

theorem set_same {α : Type} {l : List α} {j : Nat} {x : α} (h : l[j]? = some x) : l.set j x = l := by
  obtain ⟨hj, rfl⟩ := List.getElem?_eq_some_iff.1 h
  exact List.set_getElem_self hj
set_option maxHeartbeats 2000000 in
set_option maxRecDepth 100000 in
theorem do_1 {w W : World} {rows : List Rw} {cells : List (Nat × TypeId × Array Value)} {o : S87} {jr jm : Nat} {vr vm : Value} {r me : List Int} (h : Bag w rows cells W) (hr : rows[jr]? = some (ri 2 vr r)) (hm : rows[jm]? = some (ri 2 vm me))
    (hne : jr ≠ jm) (hk : o.f0 = 1) (hok : OpOK o r.length me.length) :
    Calls Try.prog 85 #[.agg #[.int .i64 o.f0, .int .i64 o.f1, .int .i64 o.f2, .int .i64 o.f3, .int .i64 o.f4], vr, vm] W fun e W' => e = .returned (.tuple #[]) ∧ Bag w ((rows.set jr (ri 2 vr (doM o r me).1)).set jm (ri 2 vm (doM o r me).2)) cells W' := by
  obtain ⟨k0, k1, k2, k3, k4⟩ := o
  simp only at hk
  obtain ⟨hA, hB, hC⟩ := hok
  simp only at hA hB hC
  subst hk
  have hu := Try.underlying87
  have HG := Aside0.mk (h.later (below_alloc (Below.refl _ _) (.cells #[.int .i64 1, .int .i64 k1, .int .i64 k2, .int .i64 k3, .int .i64 k4] 87)))
  clear h
  obtain ⟨a1, b1⟩ := hA (by omega)
  obtain ⟨g, cap, rfl, hc1, hf1⟩ := HG.out.ptr hr a1 b1
  go_enter Try.func85, Try.ntmps85
  go_wp2
  go_end0
  refine ⟨rfl, ?_⟩
  have h1 := HG.out.setNum hr k1 k4
  have e1 : doM ⟨1, k1, k2, k3, k4⟩ r me = (r.set k1.toNat k4, me) := by simp [doM]
  rw [e1]
  rw [set_same (x := ri 2 vm me) (by rw [List.getElem?_set_ne hne]; exact hm)]
  exact h1
set_option maxHeartbeats 2000000 in
set_option maxRecDepth 100000 in
theorem do_2 {w W : World} {rows : List Rw} {cells : List (Nat × TypeId × Array Value)} {o : S87} {jr jm : Nat} {vr vm : Value} {r me : List Int} (h : Bag w rows cells W) (hr : rows[jr]? = some (ri 2 vr r)) (hm : rows[jm]? = some (ri 2 vm me))
    (hne : jr ≠ jm) (hk : o.f0 = 2) (hok : OpOK o r.length me.length) :
    Calls Try.prog 85 #[.agg #[.int .i64 o.f0, .int .i64 o.f1, .int .i64 o.f2, .int .i64 o.f3, .int .i64 o.f4], vr, vm] W fun e W' => e = .returned (.tuple #[]) ∧ Bag w ((rows.set jr (ri 2 vr (doM o r me).1)).set jm (ri 2 vm (doM o r me).2)) cells W' := by
  obtain ⟨k0, k1, k2, k3, k4⟩ := o
  simp only at hk
  obtain ⟨hA, hB, hC⟩ := hok
  simp only at hA hB hC
  subst hk
  have hu := Try.underlying87
  have HG := Aside0.mk (h.later (below_alloc (Below.refl _ _) (.cells #[.int .i64 2, .int .i64 k1, .int .i64 k2, .int .i64 k3, .int .i64 k4] 87)))
  clear h
  obtain ⟨a1, b1⟩ := hA (by omega)
  obtain ⟨a2, b2⟩ := hB (by omega)
  obtain ⟨g, cap, rfl, hc1, hf1⟩ := HG.out.ptr hr a1 b1
  obtain ⟨g9, cap9, e9, hc2, hf2⟩ := HG.out.ptr hr a2 b2
  obtain ⟨rfl, rfl⟩ : g = g9 ∧ cap = cap9 := by injection e9 with e9 _ e8; injection e9 with e9; injection e9 with e9; exact ⟨e9, e8⟩
  clear e9
  go_enter Try.func85, Try.ntmps85
  go_wp2
  go_region
  all_goals go_wp2
  all_goals go_end0
  all_goals refine ⟨rfl, ?_⟩
  all_goals have h1 := (HG.out.setNum hr k1 (rd r k2)).drew
  all_goals have e1 : doM ⟨2, k1, k2, k3, k4⟩ r me = (r.set k1.toNat (rd r k2), me) := by simp [doM]
  all_goals rw [e1]
  all_goals rw [set_same (x := ri 2 vm me) (by rw [List.getElem?_set_ne hne]; exact hm)]
  all_goals exact h1
set_option maxHeartbeats 2000000 in
set_option maxRecDepth 100000 in
theorem do_3 {w W : World} {rows : List Rw} {cells : List (Nat × TypeId × Array Value)} {o : S87} {jr jm : Nat} {vr vm : Value} {r me : List Int} (h : Bag w rows cells W) (hr : rows[jr]? = some (ri 2 vr r)) (hm : rows[jm]? = some (ri 2 vm me))
    (hne : jr ≠ jm) (hk : o.f0 = 3) (hok : OpOK o r.length me.length) :
    Calls Try.prog 85 #[.agg #[.int .i64 o.f0, .int .i64 o.f1, .int .i64 o.f2, .int .i64 o.f3, .int .i64 o.f4], vr, vm] W fun e W' => e = .returned (.tuple #[]) ∧ Bag w ((rows.set jr (ri 2 vr (doM o r me).1)).set jm (ri 2 vm (doM o r me).2)) cells W' := by
  obtain ⟨k0, k1, k2, k3, k4⟩ := o
  simp only at hk
  obtain ⟨hA, hB, hC⟩ := hok
  simp only at hA hB hC
  subst hk
  have hu := Try.underlying87
  have HG := Aside0.mk (h.later (below_alloc (Below.refl _ _) (.cells #[.int .i64 3, .int .i64 k1, .int .i64 k2, .int .i64 k3, .int .i64 k4] 87)))
  clear h
  obtain ⟨a1, b1⟩ := hA (by omega)
  obtain ⟨a3, b3⟩ := hC (by omega)
  obtain ⟨g, cap, rfl, hc1, hf1⟩ := HG.out.ptr hr a1 b1
  obtain ⟨g3, cap3, rfl, hc3, hf3⟩ := HG.out.ptr hm a3 b3
  go_enter Try.func85, Try.ntmps85
  go_wp2
  go_region
  all_goals go_wp2
  all_goals go_end0
  all_goals refine ⟨rfl, ?_⟩
  all_goals have h1 := (HG.out.setNum hr k1 (rd me k3)).drew
  all_goals have e1 : doM ⟨3, k1, k2, k3, k4⟩ r me = (r.set k1.toNat (rd me k3), me) := by simp [doM]
  all_goals rw [e1]
  all_goals rw [set_same (x := ri 2 (.slice (some ⟨g3, 0, none⟩) me.length cap3) me) (by rw [List.getElem?_set_ne hne]; exact hm)]
  all_goals exact h1
set_option maxHeartbeats 2000000 in
set_option maxRecDepth 100000 in
theorem do_4 {w W : World} {rows : List Rw} {cells : List (Nat × TypeId × Array Value)} {o : S87} {jr jm : Nat} {vr vm : Value} {r me : List Int} (h : Bag w rows cells W) (hr : rows[jr]? = some (ri 2 vr r)) (hm : rows[jm]? = some (ri 2 vm me))
    (_hne : jr ≠ jm) (hk : o.f0 = 4) (hok : OpOK o r.length me.length) :
    Calls Try.prog 85 #[.agg #[.int .i64 o.f0, .int .i64 o.f1, .int .i64 o.f2, .int .i64 o.f3, .int .i64 o.f4], vr, vm] W fun e W' => e = .returned (.tuple #[]) ∧ Bag w ((rows.set jr (ri 2 vr (doM o r me).1)).set jm (ri 2 vm (doM o r me).2)) cells W' := by
  obtain ⟨k0, k1, k2, k3, k4⟩ := o
  simp only at hk
  obtain ⟨hA, hB, hC⟩ := hok
  simp only at hA hB hC
  subst hk
  have hu := Try.underlying87
  have HG := Aside0.mk (h.later (below_alloc (Below.refl _ _) (.cells #[.int .i64 4, .int .i64 k1, .int .i64 k2, .int .i64 k3, .int .i64 k4] 87)))
  clear h
  obtain ⟨a3, b3⟩ := hC (by omega)
  obtain ⟨g3, cap3, rfl, hc3, hf3⟩ := HG.out.ptr hm a3 b3
  go_enter Try.func85, Try.ntmps85
  go_wp2
  go_end0
  refine ⟨rfl, ?_⟩
  have h1 := HG.out.setNum hm k3 k4
  have e1 : doM ⟨4, k1, k2, k3, k4⟩ r me = (r, me.set k3.toNat k4) := by simp [doM]
  rw [e1]
  rw [set_same (l := rows) (x := ri 2 vr r) hr]
  exact h1
set_option maxHeartbeats 2000000 in
set_option maxRecDepth 100000 in
theorem do_5 {w W : World} {rows : List Rw} {cells : List (Nat × TypeId × Array Value)} {o : S87} {jr jm : Nat} {vr vm : Value} {r me : List Int} (h : Bag w rows cells W) (hr : rows[jr]? = some (ri 2 vr r)) (hm : rows[jm]? = some (ri 2 vm me))
    (_hne : jr ≠ jm) (hk : o.f0 = 5) (hok : OpOK o r.length me.length) :
    Calls Try.prog 85 #[.agg #[.int .i64 o.f0, .int .i64 o.f1, .int .i64 o.f2, .int .i64 o.f3, .int .i64 o.f4], vr, vm] W fun e W' => e = .returned (.tuple #[]) ∧ Bag w ((rows.set jr (ri 2 vr (doM o r me).1)).set jm (ri 2 vm (doM o r me).2)) cells W' := by
  obtain ⟨k0, k1, k2, k3, k4⟩ := o
  simp only at hk
  obtain ⟨hA, hB, hC⟩ := hok
  simp only at hA hB hC
  subst hk
  have hu := Try.underlying87
  have HG := Aside0.mk (h.later (below_alloc (Below.refl _ _) (.cells #[.int .i64 5, .int .i64 k1, .int .i64 k2, .int .i64 k3, .int .i64 k4] 87)))
  clear h
  obtain ⟨a2, b2⟩ := hB (by omega)
  obtain ⟨a3, b3⟩ := hC (by omega)
  obtain ⟨g, cap, rfl, hc2, hf2⟩ := HG.out.ptr hr a2 b2
  obtain ⟨g3, cap3, rfl, hc3, hf3⟩ := HG.out.ptr hm a3 b3
  go_enter Try.func85, Try.ntmps85
  go_wp2
  go_region
  all_goals go_wp2
  all_goals go_end0
  all_goals refine ⟨rfl, ?_⟩
  all_goals have h1 := (HG.out.setNum hm k3 (rd r k2)).drew
  all_goals have e1 : doM ⟨5, k1, k2, k3, k4⟩ r me = (r, me.set k3.toNat (rd r k2)) := by simp [doM]
  all_goals rw [e1]
  all_goals rw [set_same (l := rows) (x := ri 2 (.slice (some ⟨g, 0, none⟩) r.length cap) r) hr]
  all_goals exact h1
set_option maxHeartbeats 4000000 in
set_option maxRecDepth 100000 in
theorem do_7 {w W : World} {rows : List Rw} {cells : List (Nat × TypeId × Array Value)} {o : S87} {jr jm : Nat} {vr vm : Value} {r me : List Int} (h : Bag w rows cells W) (hr : rows[jr]? = some (ri 2 vr r)) (hm : rows[jm]? = some (ri 2 vm me))
    (hne : jr ≠ jm) (hk : o.f0 = 7) (hok : OpOK o r.length me.length) :
    Calls Try.prog 85 #[.agg #[.int .i64 o.f0, .int .i64 o.f1, .int .i64 o.f2, .int .i64 o.f3, .int .i64 o.f4], vr, vm] W fun e W' => e = .returned (.tuple #[]) ∧ Bag w ((rows.set jr (ri 2 vr (doM o r me).1)).set jm (ri 2 vm (doM o r me).2)) cells W' := by
  obtain ⟨k0, k1, k2, k3, k4⟩ := o
  simp only at hk
  obtain ⟨hA, hB, hC⟩ := hok
  simp only at hA hB hC
  subst hk
  have hu := Try.underlying87
  obtain ⟨a1, b1⟩ := hA (by omega)
  obtain ⟨a3, b3⟩ := hC (by omega)
  clear hA hB hC
  have hG := h.fresh 87 #[.int .i64 7, .int .i64 k1, .int .i64 k2, .int .i64 k3, .int .i64 k4]
  go_enter Try.func85, Try.ntmps85
  go_upto_region 1 with fail
  generalize hW1 : W.alloc (.cells #[.int .i64 7, .int .i64 k1, .int .i64 k2, .int .i64 k3, .int .i64 k4] 87) = W1 at hG ⊢
  generalize W.heap.size = g0 at hG ⊢
  clear hW1 h
  obtain ⟨c0, _⟩ := hG.cellOf (c := (g0, 87, _)) (List.mem_cons_self) 0 _ rfl
  obtain ⟨c1, _⟩ := hG.cellOf (c := (g0, 87, _)) (List.mem_cons_self) 1 _ rfl
  obtain ⟨c3, _⟩ := hG.cellOf (c := (g0, 87, _)) (List.mem_cons_self) 3 _ rfl
  obtain ⟨g, cap, rfl, hc1, hf1⟩ := hG.ptr hr a1 b1
  obtain ⟨g3, cap3, rfl, hc3, hf3⟩ := hG.ptr hm a3 b3
  have HS := Aside0.mk (hG.setNum hm k3 (rd r k1))
  have hr2 : (rows.set jm (ri 2 (.slice (some ⟨g3, 0, none⟩) me.length cap3) (me.set k3.toNat (rd r k1))))[jr]? = some (ri 2 (.slice (some ⟨g, 0, none⟩) r.length cap) r) := by rw [List.getElem?_set_ne (Ne.symm hne)]; exact hr
  obtain ⟨d1, _⟩ := HS.out.cellOf (c := (g0, 87, _)) (List.mem_cons_self) 1 _ rfl
  obtain ⟨gx, capx, ex, hx1, hfx⟩ := HS.out.ptr hr2 a1 b1
  obtain ⟨rfl, rfl⟩ : g = gx ∧ cap = capx := by injection ex with e9 _ e8; injection e9 with e9; injection e9 with e9; exact ⟨e9, e8⟩
  clear ex
  go_wp2
  go_region
  all_goals go_wp2
  all_goals go_end0
  all_goals refine ⟨rfl, ?_⟩
  all_goals have h1 := ((HS.out.setNum hr2 k1 (rd me k3)).drew).loseCell
  all_goals have e1 : doM ⟨7, k1, k2, k3, k4⟩ r me = (r.set k1.toNat (rd me k3), me.set k3.toNat (rd r k1)) := by simp [doM]
  all_goals rw [e1, List.set_comm _ _ hne]
  all_goals exact h1
set_option maxHeartbeats 4000000 in
set_option maxRecDepth 100000 in
theorem do_9 {w W : World} {rows : List Rw} {cells : List (Nat × TypeId × Array Value)} {o : S87} {jr jm : Nat} {vr vm : Value} {r me : List Int} (h : Bag w rows cells W) (hr : rows[jr]? = some (ri 2 vr r)) (hm : rows[jm]? = some (ri 2 vm me))
    (hne : jr ≠ jm) (hk : o.f0 = 9) (hok : OpOK o r.length me.length) :
    Calls Try.prog 85 #[.agg #[.int .i64 o.f0, .int .i64 o.f1, .int .i64 o.f2, .int .i64 o.f3, .int .i64 o.f4], vr, vm] W fun e W' => e = .returned (.tuple #[]) ∧ Bag w ((rows.set jr (ri 2 vr (doM o r me).1)).set jm (ri 2 vm (doM o r me).2)) cells W' := by
  obtain ⟨k0, k1, k2, k3, k4⟩ := o
  simp only at hk
  obtain ⟨hA, hB, hC⟩ := hok
  simp only at hA hB hC
  subst hk
  have hu := Try.underlying87
  obtain ⟨a1, b1⟩ := hA (by omega)
  obtain ⟨a3, b3⟩ := hC (by omega)
  clear hA hB hC
  have hG := h.fresh 87 #[.int .i64 9, .int .i64 k1, .int .i64 k2, .int .i64 k3, .int .i64 k4]
  go_enter Try.func85, Try.ntmps85
  go_upto_region 1 with fail
  generalize hW1 : W.alloc (.cells #[.int .i64 9, .int .i64 k1, .int .i64 k2, .int .i64 k3, .int .i64 k4] 87) = W1 at hG ⊢
  generalize W.heap.size = g0 at hG ⊢
  clear hW1 h
  obtain ⟨c0, _⟩ := hG.cellOf (c := (g0, 87, _)) (List.mem_cons_self) 0 _ rfl
  obtain ⟨c1, _⟩ := hG.cellOf (c := (g0, 87, _)) (List.mem_cons_self) 1 _ rfl
  obtain ⟨c3, _⟩ := hG.cellOf (c := (g0, 87, _)) (List.mem_cons_self) 3 _ rfl
  obtain ⟨g, cap, rfl, hc1, hf1⟩ := hG.ptr hr a1 b1
  obtain ⟨g3, cap3, rfl, hc3, hf3⟩ := hG.ptr hm a3 b3
  have HS := Aside0.mk (hG.setNum hm k3 (wrap64 (rd me k3 + rd r k1)))
  have hr2 : (rows.set jm (ri 2 (.slice (some ⟨g3, 0, none⟩) me.length cap3) (me.set k3.toNat (wrap64 (rd me k3 + rd r k1)))))[jr]? = some (ri 2 (.slice (some ⟨g, 0, none⟩) r.length cap) r) := by rw [List.getElem?_set_ne (Ne.symm hne)]; exact hr
  obtain ⟨d1, _⟩ := HS.out.cellOf (c := (g0, 87, _)) (List.mem_cons_self) 1 _ rfl
  obtain ⟨gx, capx, ex, hx1, hfx⟩ := HS.out.ptr hr2 a1 b1
  obtain ⟨rfl, rfl⟩ : g = gx ∧ cap = capx := by injection ex with e9 _ e8; injection e9 with e9; injection e9 with e9; exact ⟨e9, e8⟩
  clear ex
  go_wp2
  go_region
  all_goals go_wp2
  all_goals go_end0
  all_goals refine ⟨rfl, ?_⟩
  all_goals have h1 := ((HS.out.setNum hr2 k1 (rd me k3)).drew).loseCell
  all_goals have e1 : doM ⟨9, k1, k2, k3, k4⟩ r me = (r.set k1.toNat (rd me k3), me.set k3.toNat (wrap64 (rd me k3 + rd r k1))) := by simp [doM]
  all_goals rw [e1, List.set_comm _ _ hne]
  all_goals exact h1
set_option maxHeartbeats 2000000 in
set_option maxRecDepth 100000 in
theorem do_8 {w W : World} {rows : List Rw} {cells : List (Nat × TypeId × Array Value)} {o : S87} {jr jm : Nat} {vr vm : Value} {r me : List Int} (h : Bag w rows cells W) (hr : rows[jr]? = some (ri 2 vr r)) (hm : rows[jm]? = some (ri 2 vm me))
    (hne : jr ≠ jm) (hk : o.f0 = 8) (hok : OpOK o r.length me.length) :
    Calls Try.prog 85 #[.agg #[.int .i64 o.f0, .int .i64 o.f1, .int .i64 o.f2, .int .i64 o.f3, .int .i64 o.f4], vr, vm] W fun e W' => e = .returned (.tuple #[]) ∧ Bag w ((rows.set jr (ri 2 vr (doM o r me).1)).set jm (ri 2 vm (doM o r me).2)) cells W' := by
  obtain ⟨k0, k1, k2, k3, k4⟩ := o
  simp only at hk
  obtain ⟨hA, hB, hC⟩ := hok
  simp only at hA hB hC
  subst hk
  have hu := Try.underlying87
  have HG := Aside0.mk (h.later (below_alloc (Below.refl _ _) (.cells #[.int .i64 8, .int .i64 k1, .int .i64 k2, .int .i64 k3, .int .i64 k4] 87)))
  clear h
  obtain ⟨a1, b1⟩ := hA (by omega)
  obtain ⟨a2, b2⟩ := hB (by omega)
  obtain ⟨a3, b3⟩ := hC (by omega)
  clear hA hB hC
  obtain ⟨g, cap, rfl, hc1, hf1⟩ := HG.out.ptr hr a1 b1
  obtain ⟨g9, cap9, e9, hc2, hf2⟩ := HG.out.ptr hr a2 b2
  obtain ⟨rfl, rfl⟩ : g = g9 ∧ cap = cap9 := by injection e9 with e9 _ e8; injection e9 with e9; injection e9 with e9; exact ⟨e9, e8⟩
  clear e9
  obtain ⟨g3, cap3, rfl, hc3, hf3⟩ := HG.out.ptr hm a3 b3
  obtain ⟨x, hx⟩ : ∃ x, rd me k3 = x := ⟨_, rfl⟩
  obtain ⟨y, hy⟩ : ∃ y, rd r k1 = y := ⟨_, rfl⟩
  have HX := Aside0.mk hx
  have HY := Aside0.mk hy
  rw [hx] at hc3
  rw [hy] at hc1
  clear hx hy
  by_cases hq : x = y
  · have hqb : (x == y) = true := beq_iff_eq.2 hq
    have HQ := Aside0.mk hq
    clear hq
    go_enter Try.func85, Try.ntmps85
    go_wp2
    go_quiet (fail)
    go_wp2
    go_region
    all_goals go_wp2
    all_goals go_end0
    all_goals refine ⟨rfl, ?_⟩
    all_goals have e1 : doM ⟨8, k1, k2, k3, k4⟩ r me = (r, me.set k3.toNat (rd r k2)) := by simp [doM, HX.out, HY.out, HQ.out]
    all_goals rw [e1]
    all_goals rw [set_same (l := rows) hr]
    all_goals exact (HG.out.drewN _).setNum hm k3 (rd r k2)
  · have hqb : (x == y) = false := beq_eq_false_iff_ne.2 hq
    have HQ := Aside0.mk hq
    clear hq
    go_enter Try.func85, Try.ntmps85
    go_wp2
    go_quiet (fail)
    go_wp2
    go_region
    all_goals go_wp2
    all_goals go_end0
    all_goals refine ⟨rfl, ?_⟩
    all_goals have e1 : doM ⟨8, k1, k2, k3, k4⟩ r me = (r.set k1.toNat (rd me k3), me) := by simp [doM, HX.out, HY.out, HQ.out]
    all_goals rw [e1]
    all_goals rw [set_same (l := rows.set jr _) (by rw [List.getElem?_set_ne hne]; exact hm)]
    all_goals rw [HX.out]
    all_goals exact (HG.out.drewN _).setNum hr k1 x
set_option maxHeartbeats 2000000 in
set_option maxRecDepth 100000 in
theorem do_0 {w W : World} {rows : List Rw} {cells : List (Nat × TypeId × Array Value)} {o : S87} {jr jm : Nat} {vr vm : Value} {r me : List Int} (h : Bag w rows cells W) (hr : rows[jr]? = some (ri 2 vr r)) (hm : rows[jm]? = some (ri 2 vm me))
    (_hne : jr ≠ jm) (hk : o.f0 ≠ 1 ∧ o.f0 ≠ 2 ∧ o.f0 ≠ 3 ∧ o.f0 ≠ 4 ∧ o.f0 ≠ 5 ∧ o.f0 ≠ 7 ∧ o.f0 ≠ 9 ∧ o.f0 ≠ 8) (hok : OpOK o r.length me.length) :
    Calls Try.prog 85 #[.agg #[.int .i64 o.f0, .int .i64 o.f1, .int .i64 o.f2, .int .i64 o.f3, .int .i64 o.f4], vr, vm] W fun e W' => e = .returned (.tuple #[]) ∧ Bag w ((rows.set jr (ri 2 vr (doM o r me).1)).set jm (ri 2 vm (doM o r me).2)) cells W' := by
  obtain ⟨k0, k1, k2, k3, k4⟩ := o
  simp only at hk
  obtain ⟨hA, hB, hC⟩ := hok
  simp only at hA hB hC
  clear hA hB hC
  obtain ⟨n1, n2, n3, n4, n5, n7, n9, n8⟩ := hk
  have e1 : doM ⟨k0, k1, k2, k3, k4⟩ r me = (r, me) := by simp [doM, n1, n2, n3, n4, n5, n7, n9, n8]
  have E1 := Aside0.mk e1
  clear e1
  have hu := Try.underlying87
  have HG := Aside0.mk (h.later (below_alloc (Below.refl _ _) (.cells #[.int .i64 k0, .int .i64 k1, .int .i64 k2, .int .i64 k3, .int .i64 k4] 87)))
  clear h
  have m1 : (k0 == 1) = false := beq_eq_false_iff_ne.2 n1
  have m2 : (k0 == 2) = false := beq_eq_false_iff_ne.2 n2
  have m3 : (k0 == 3) = false := beq_eq_false_iff_ne.2 n3
  have m4 : (k0 == 4) = false := beq_eq_false_iff_ne.2 n4
  have m5 : (k0 == 5) = false := beq_eq_false_iff_ne.2 n5
  have m7 : (k0 == 7) = false := beq_eq_false_iff_ne.2 n7
  have m9 : (k0 == 9) = false := beq_eq_false_iff_ne.2 n9
  have m8 : (k0 == 8) = false := beq_eq_false_iff_ne.2 n8
  clear n1 n2 n3 n4 n5 n7 n9 n8
  go_enter Try.func85, Try.ntmps85
  go_wp2
  go_end0
  refine ⟨rfl, ?_⟩
  rw [E1.out, set_same (l := rows) hr, set_same (l := rows) hm]
  exact HG.out

/-- An instruction, whatever it is. -/
theorem sc_do.calls {w W : World} {rows : List Rw} {cells : List (Nat × TypeId × Array Value)} {o : S87} {jr jm : Nat} {vr vm : Value} {r me : List Int} (h : Bag w rows cells W) (hr : rows[jr]? = some (ri 2 vr r)) (hm : rows[jm]? = some (ri 2 vm me))
    (hne : jr ≠ jm) (hok : OpOK o r.length me.length) :
    Calls Try.prog 85 #[.agg #[.int .i64 o.f0, .int .i64 o.f1, .int .i64 o.f2, .int .i64 o.f3, .int .i64 o.f4], vr, vm] W fun e W' => e = .returned (.tuple #[]) ∧ Bag w ((rows.set jr (ri 2 vr (doM o r me).1)).set jm (ri 2 vm (doM o r me).2)) cells W' := by
  by_cases h1 : o.f0 = 1
  · exact do_1 h hr hm hne h1 hok
  by_cases h2 : o.f0 = 2
  · exact do_2 h hr hm hne h2 hok
  by_cases h3 : o.f0 = 3
  · exact do_3 h hr hm hne h3 hok
  by_cases h4 : o.f0 = 4
  · exact do_4 h hr hm hne h4 hok
  by_cases h5 : o.f0 = 5
  · exact do_5 h hr hm hne h5 hok
  by_cases h7 : o.f0 = 7
  · exact do_7 h hr hm hne h7 hok
  by_cases h9 : o.f0 = 9
  · exact do_9 h hr hm hne h9 hok
  by_cases h8 : o.f0 = 8
  · exact do_8 h hr hm hne h8 hok
  exact do_0 h hr hm hne ⟨h1, h2, h3, h4, h5, h7, h9, h8⟩ hok
end Go.Proofs.Ytemhpbdlonfikaa.P
/- Programs and states, each told by one fact; a state that the call owns. -/
namespace Go.Proofs.Ytemhpbdlonfikaa.P
open Go Go.RowKit Go.Proofs.YtemhpbdlonfikaaW.PrintWords Go.Proofs.YtemhpbdlonfikaaW.PrintLast Go.Proofs.YtemhpbdlonfikaaW.PrintMore

/-- A program, told by its lists. -/
structure Pg where
  th : List (List S87)
  rg : List (List ByteArray)
  lo : List ByteArray
  r0 : List (List Int)
  m0 : List Int
/-- A state, told by its lists. -/
structure St where
  p : List Int
  q : List Int
  rg : List (List Int)
  me : List Int
  bf : List (List S59)
  lk : Int
/-- A program's five cells. -/
def PgV (W : World) (vs : List Value) (s : Pg) : Prop :=
  ∃ (A0 A1 A2 A3 A4 : Option Addr) (c0 c1 c2 c3 c4 : Nat), vs = [.slice A0 s.th.length c0, .slice A1 s.rg.length c1, .slice A2 s.lo.length c2, .slice A3 s.r0.length c3, .slice A4 s.m0.length c4] ∧
    Kd.C (Kd.slice 87 k87) W A0 s.th.length s.th ∧ s.th.length ≤ c0 ∧ Kd.C (Kd.slice 9 Kd.string) W A1 s.rg.length s.rg ∧ s.rg.length ≤ c1 ∧ Kd.C Kd.string W A2 s.lo.length s.lo ∧ s.lo.length ≤ c2 ∧
    Kd.C (Kd.slice 2 (Kd.int .i64)) W A3 s.r0.length s.r0 ∧ s.r0.length ≤ c3 ∧ Kd.C (Kd.int .i64) W A4 s.m0.length s.m0 ∧ s.m0.length ≤ c4
theorem PgV.below {W W1 : World} {vs : List Value} {s : Pg} (h : PgV W vs s) (hb : Below W.heap.size W W1) : PgV W1 vs s := by
  obtain ⟨A0, A1, A2, A3, A4, c0, c1, c2, c3, c4, rfl, h0, l0, h1, l1, h2, l2, h3, l3, h4, l4⟩ := h
  exact ⟨A0, A1, A2, A3, A4, c0, c1, c2, c3, c4, rfl, Kd.C_below h0 hb, l0, Kd.C_below h1 hb, l1, Kd.C_below h2 hb, l2, Kd.C_below h3 hb, l3, Kd.C_below h4 hb, l4⟩
/-- A state's six cells. -/
def StV (W : World) (vs : List Value) (s : St) : Prop :=
  ∃ (A0 A1 A2 A3 A4 : Option Addr) (c0 c1 c2 c3 c4 : Nat), vs = [.slice A0 s.p.length c0, .slice A1 s.q.length c1, .slice A2 s.rg.length c2, .slice A3 s.me.length c3, .slice A4 s.bf.length c4, .int .i64 s.lk] ∧
    Kd.C (Kd.int .i64) W A0 s.p.length s.p ∧ s.p.length ≤ c0 ∧ Kd.C (Kd.int .i64) W A1 s.q.length s.q ∧ s.q.length ≤ c1 ∧ Kd.C (Kd.slice 2 (Kd.int .i64)) W A2 s.rg.length s.rg ∧ s.rg.length ≤ c2 ∧
    Kd.C (Kd.int .i64) W A3 s.me.length s.me ∧ s.me.length ≤ c3 ∧ Kd.C (Kd.slice 59 k59) W A4 s.bf.length s.bf ∧ s.bf.length ≤ c4
theorem StV.below {W W1 : World} {vs : List Value} {s : St} (h : StV W vs s) (hb : Below W.heap.size W W1) : StV W1 vs s := by
  obtain ⟨A0, A1, A2, A3, A4, c0, c1, c2, c3, c4, rfl, h0, l0, h1, l1, h2, l2, h3, l3, h4, l4⟩ := h
  exact ⟨A0, A1, A2, A3, A4, c0, c1, c2, c3, c4, rfl, Kd.C_below h0 hb, l0, Kd.C_below h1 hb, l1, Kd.C_below h2 hb, l2, Kd.C_below h3 hb, l3, Kd.C_below h4 hb, l4⟩

/-- The rows of a state that is owned. -/
def stRows (vp vq vr vm vb : Value) (vrs bfx : List Value) (s : St) : List Rw :=
  ri 3 vp s.p :: ri 3 vq s.q :: ⟨26, 1, vr, s.rg.length, vrs⟩ :: ri 2 vm s.me :: ⟨57, 1, vb, s.bf.length, bfx⟩ :: List.zipWith (ri 2) vrs s.rg
/-- A state that is owned; its buffers are empty. -/
def StO (w : World) (cells : List (Nat × TypeId × Array Value)) (W : World) (vs : List Value) (s : St) : Prop :=
  ∃ (vp vq vr vm vb : Value) (vrs bfx : List Value), vs = [vp, vq, vr, vm, vb, .int .i64 s.lk] ∧ Bag w (stRows vp vq vr vm vb vrs bfx s) cells W ∧
    vrs.length = s.rg.length ∧ bfx.length = s.bf.length ∧ (∀ (j : Nat) (v : Value), bfx[j]? = some v → ∃ A c, v = .slice A 0 c) ∧ ∀ b ∈ s.bf, b = []

theorem row_form {W : World} {B : Nat} {e : TypeId} {sz n : Nat} {v : Value} {xs : List Value} (h : W.ownsRow B e sz v n xs) : ∃ A c, v = .slice A n c ∧ n ≤ c := by
  rcases h.2 with ⟨h1, h2⟩ | ⟨g, cap, cur, hv, _, _, hc, _⟩
  · subst h2; exact ⟨none, 0, h1, Nat.le_refl _⟩
  · exact ⟨_, _, hv, hc⟩
theorem row_C {W : World} {B : Nat} {e : TypeId} {A : Option Addr} {c : Nat} {l : List Int} (h : W.ownsRow B e 1 (.slice A l.length c) l.length (nums .i64 l)) : Kd.C (Kd.int .i64) W A l.length l :=
  (Kd.R_reads' (d := Kd.int .i64) (Kd.R_of_own (ok := fun _ => True) h (fun _ _ => trivial))).2.2
/-- A row of slices, read. -/
theorem rows_C {W : World} {α : Type} {d : Kd α} {B : Nat} {e : TypeId} {sp : Nat} {A : Option Addr} {c : Nat} {l : List (List α)} {vs : List Value} (hO : W.ownsRow B sp 1 (.slice A l.length c) l.length vs)
    (h : ∀ (j : Nat) (v : Value) (x : List α), vs[j]? = some v → l[j]? = some x → ∃ A' c', v = .slice A' x.length c' ∧ x.length ≤ c' ∧ d.C W A' x.length x) :
    Kd.C (Kd.slice e d) W A l.length l := by
  have hlen : vs.length = l.length := by have := hO.1; rwa [Nat.mul_one] at this
  have hmax : l.length ≤ 9223372036854775807 := by
    rcases hO.2 with ⟨_, h2⟩ | ⟨_, _, _, _, _, _, h1, h2, _⟩
    · omega
    · have : maxLen ≤ 9223372036854775807 := by decide
      omega
  refine ⟨rfl, hmax, fun hn => ?_⟩
  rcases hO.2 with ⟨_, h2⟩ | ⟨g, cap, cur, hv, _⟩
  · omega
  · injection hv with hA _ _
    subst hA
    refine ⟨_, rfl, fun j p hj => ?_⟩
    obtain ⟨hjl, _⟩ := List.getElem?_eq_some_iff.1 hj
    have hvj : vs[j]? = some (vs[j]'(by omega)) := List.getElem?_eq_getElem _
    obtain ⟨A', c', e1, e2, e3⟩ := h j _ p hvj hj
    refine ⟨[vs[j]'(by omega)], rfl, ⟨A', c', by rw [e1], e2, e3⟩, fun i u hu => ?_⟩
    have hi : i = 0 := by
      rcases i with _ | i
      · rfl
      · simp at hu
    subst hi
    have hu' : u = vs[j]'(by omega) := by simpa using hu.symm
    subst hu'
    have hc := hO.cells (g := g) rfl j _ hvj
    show W.cell? (Addr.add ⟨g, 0, none⟩ (j * 1 + 0)) = _
    rw [Nat.mul_one, Nat.add_zero]
    exact hc

theorem zip_row {vrs : List Value} {rg : List (List Int)} {i : Nat} {v : Value} {r : List Int} (h1 : vrs[i]? = some v) (h2 : rg[i]? = some r) : (List.zipWith (ri 2) vrs rg)[i]? = some (ri 2 v r) := by
  rw [List.getElem?_zipWith, h1, h2]
theorem stRows_rg {vp vq vr vm vb : Value} {vrs bfx : List Value} {s : St} {i : Nat} {v : Value} {r : List Int} (h1 : vrs[i]? = some v) (h2 : s.rg[i]? = some r) : (stRows vp vq vr vm vb vrs bfx s)[i + 5]? = some (ri 2 v r) :=
  zip_row h1 h2
theorem StO.read {w W : World} {cells : List (Nat × TypeId × Array Value)} {vs : List Value} {s : St} (h : StO w cells W vs s) : StV W vs s := by
  obtain ⟨vp, vq, vr, vm, vb, vrs, bfx, rfl, hb, hl, hlb, hbf, hbe⟩ := h
  have h0 := hb.row 0 _ rfl
  have h1 := hb.row 1 _ rfl
  have h2 := hb.row 2 _ rfl
  have h3 := hb.row 3 _ rfl
  have h4 := hb.row 4 _ rfl
  obtain ⟨A0, c0, e0, l0⟩ := row_form h0
  obtain ⟨A1, c1, e1, l1⟩ := row_form h1
  obtain ⟨A2, c2, e2, l2⟩ := row_form h2
  obtain ⟨A3, c3, e3, l3⟩ := row_form h3
  obtain ⟨A4, c4, e4, l4⟩ := row_form h4
  simp only [ri] at e0 e1 e2 e3 e4 h0 h1 h2 h3 h4 l0 l1 l2 l3 l4
  subst e0 e1 e2 e3 e4
  refine ⟨A0, A1, A2, A3, A4, c0, c1, c2, c3, c4, rfl, row_C h0, l0, row_C h1, l1, rows_C h2 fun j v x hv hx => ?_, l2, row_C h3, l3, rows_C h4 fun j v x hv hx => ?_, l4⟩
  · have h5 := hb.row (j + 5) _ (stRows_rg hv hx)
    obtain ⟨A5, c5, e5, l5⟩ := row_form h5
    simp only [ri] at e5 h5 l5
    subst e5
    exact ⟨A5, c5, rfl, l5, row_C h5⟩
  · obtain ⟨A5, c5, rfl⟩ := hbf j v hv
    obtain rfl := hbe x (List.mem_of_getElem? hx)
    exact ⟨A5, c5, rfl, Nat.zero_le _, rfl, by simp, fun h => absurd h (Nat.lt_irrefl 0)⟩
theorem StO.later {w W W' : World} {cells : List (Nat × TypeId × Array Value)} {vs : List Value} {s : St} (h : StO w cells W vs s) (hb : Below W.heap.size W W') : StO w cells W' vs s := by
  obtain ⟨vp, vq, vr, vm, vb, vrs, bfx, rfl, h1, h2⟩ := h
  exact ⟨vp, vq, vr, vm, vb, vrs, bfx, rfl, h1.later hb, h2⟩
end Go.Proofs.Ytemhpbdlonfikaa.P
/- sc.state answers what the plain reader answers. -/
namespace Go.Proofs.Ytemhpbdlonfikaa.P
open Go Go.RowKit Go.Proofs.YtemhpbdlonfikaaW.PrintWords Go.Proofs.YtemhpbdlonfikaaW.PrintLast Go.Proofs.YtemhpbdlonfikaaW.PrintMore
variable {s : ByteArray}

theorem val_is (hs : s.size ≤ 4611686018427387904) (r : RS) : Ev (fun k => sc_codes_value.f k s r.1 r.2) ((valM s r).1, s, (valM s r).2.1, (valM s r).2.2) := by
  refine Ev.bind (f := fun k (b : Int × Int × Int) => if b.2.2 = 0 then (some (b.1, s, wrap64 (r.1 + b.2.1), r.2)) else (some (0, s, r.1, true))) (take_is s r.1 hs) ?_
  unfold valM
  by_cases h : (tk s r.1).2.2 = 0
  · simp only [if_pos h]; exact Ev.now _
  · simp only [if_neg h]; exact Ev.now _
theorem num_is (hs : s.size ≤ 4611686018427387904) (lo hi : Int) (r : RS) : Ev (fun k => sc_codes_number.f k s r.1 r.2 lo hi) ((numM s lo hi r).1, s, (numM s lo hi r).2.1, (numM s lo hi r).2.2) := by
  refine Ev.bind (f := fun k (b : Int × ByteArray × Int × Bool) => if b.2.2.2 = true then (some (lo, b.2.1, b.2.2.1, true)) else (if b.1 < lo then (some (lo, b.2.1, b.2.2.1, true)) else (if b.1 > hi then (some (lo, b.2.1, b.2.2.1, true)) else (some (b.1, b.2.1, b.2.2.1, b.2.2.2))))) (val_is hs r) ?_
  unfold numM
  by_cases h : (valM s r).2.2 = true
  · simp only [if_pos h, if_pos (Or.inl h)]; exact Ev.now _
  · by_cases h1 : (valM s r).1 < lo
    · simp only [if_neg h, if_pos h1, if_pos (Or.inr (Or.inl h1))]; exact Ev.now _
    · by_cases h2 : hi < (valM s r).1
      · simp only [if_neg h, if_neg h1, if_pos h2, if_pos (Or.inr (Or.inr h2))]; exact Ev.now _
      · have hn : ¬ ((valM s r).2.2 = true ∨ (valM s r).1 < lo ∨ hi < (valM s r).1) := fun hh => by
          rcases hh with hh | hh | hh
          · exact h hh
          · exact h1 hh
          · exact h2 hh
        simp only [if_neg h, if_neg h1, if_neg h2, if_neg hn]; exact Ev.now _
theorem numM_range {lo hi : Int} (h : lo ≤ hi) (r : RS) : lo ≤ (numM s lo hi r).1 ∧ (numM s lo hi r).1 ≤ hi := by
  unfold numM
  split
  · exact ⟨Int.le_refl _, h⟩
  · rename_i hc
    constructor
    · exact Int.not_lt.1 (fun h2 => hc (.inr (.inl h2)))
    · exact Int.not_lt.1 (fun h2 => hc (.inr (.inr h2)))
theorem set_rep {α : Type} (D : List α) (d : Nat) (z v : α) : (D ++ List.replicate (d + 1) z).set D.length v = (D ++ [v]) ++ List.replicate d z := by
  rw [List.set_append_right _ _ (Nat.le_refl _), Nat.sub_self, List.replicate_succ, List.set_cons_zero, List.append_assoc, List.singleton_append]
theorem set_mid {α : Type} (D E : List α) (x v : α) : ((D ++ [x]) ++ E).set D.length v = (D ++ [v]) ++ E := by
  rw [List.append_assoc, List.set_append_right _ _ (Nat.le_refl _), Nat.sub_self, List.singleton_append, List.set_cons_zero, List.append_assoc, List.singleton_append]
theorem rdT_mid (D E : List S59) (x : S59) : rd_T59 ((D ++ [x]) ++ E) (D.length : Int) = x := by
  unfold rd_T59
  rw [Int.toNat_natCast, List.append_assoc, List.getD_eq_getElem?_getD, List.getElem?_append_right (Nat.le_refl _), Nat.sub_self]
  rfl
abbrev Res := List Int × List Int × (List (List Int)) × List Int × (List (List S59)) × Int × Bool
def failR : Res := ([], [], [], [], [], 0, false)
section
variable (p : Pg) (s)
abbrev SL0 (k : Nat) (i : Int) (r : RS) (P Q : List Int) (R : List (List Int)) : Option Res := sc_state.l0 k s p.th (p.th.length : Int) i p.th p.rg p.lo p.r0 p.m0 s r.1 r.2 P Q R 0
abbrev SL1 (k : Nat) (row : List Int) (i x50 x51 : Int) (r : RS) (P Q : List Int) (R : List (List Int)) : Option Res := sc_state.l1 k s row p.th (p.th.length : Int) i x50 x51 p.th p.rg p.lo p.r0 p.m0 s r.1 r.2 P Q R 0
abbrev SL2 (k : Nat) (x74 x75 : Int) (r : RS) (P Q : List Int) (R : List (List Int)) (M : List Int) : Option Res := sc_state.l2 k s x74 x75 p.th p.rg p.lo p.r0 p.m0 s r.1 r.2 P Q R M 0
abbrev SL3 (k : Nat) (j : Int) (r : RS) (P Q : List Int) (R : List (List Int)) (M : List Int) (B : List (List S59)) : Option Res := sc_state.l3 k s (p.th.length : Int) j p.th p.rg p.lo p.r0 p.m0 s r.1 r.2 P Q R M B 0
abbrev SL4 (k : Nat) (row : List S59) (j x94 x95 : Int) (r : RS) (P Q : List Int) (R : List (List Int)) (M : List Int) (B : List (List S59)) : Option Res := sc_state.l4 k s row (p.th.length : Int) j x94 x95 p.th p.rg p.lo p.r0 p.m0 s r.1 r.2 P Q R M B 0
end
variable {p : Pg} {P Q : List Int} {R : List (List Int)} {M : List Int}

theorem wrapn {n : Nat} (h : n ≤ 1000000) : wrap64 ((n : Int) + 1) = ((n + 1 : Nat) : Int) := by unfold wrap64; omega
/-- A row of writes. -/
theorem l4_is (hs : s.size ≤ 4611686018427387904) (hl : p.lo.length ≤ 16) {B : List (List S59)} {j : Int} {n : Nat} (hn : n ≤ 64) {cont : List S59 → RS → Res}
    (hc : ∀ row r, row.length = n → Ev (fun k => SL4 s p k row j n n r P Q R M B) (cont row r)) (d : Nat) : ∀ (D : List S59) (r : RS), D.length + d = n →
    Ev (fun k => SL4 s p k (D ++ List.replicate d z59) j n D.length r P Q R M B) (match wrM s p.lo.length d r with | none => failR | some t => cont (D ++ t.1) t.2) := by
  induction d with
  | zero =>
    intro D r h
    have h2 : D.length = n := by omega
    rw [List.replicate_zero, List.append_nil, h2]
    simp only [wrM, List.append_nil]
    exact hc D r h2
  | succ d ih =>
    intro D r h
    have hlen : (D ++ List.replicate (d + 1) z59).length = n := by rw [List.length_append, List.length_replicate]; omega
    by_cases hb : r.2 = true ∨ p.lo.length = 0
    · have e : wrM s p.lo.length (d + 1) r = none := by rw [wrM, if_pos hb]
      rw [e]
      refine Ev.step (f := fun k => sc_state.j5 k s (D ++ List.replicate (d + 1) z59) D.length (p.th.length : Int) j n D.length true p.th p.rg p.lo p.r0 p.m0 s r.1 r.2 P Q R M B 0) (fun k => ?_) ?_
      · simp only [SL4, sc_state.l4]
        rw [if_pos (by omega)]
        by_cases h0 : r.2 = true
        · rw [if_pos h0]
        · have hz : p.lo.length = 0 := by
            rcases hb with hb | hb
            · exact absurd hb h0
            · exact hb
          rw [if_neg h0, hz]; rfl
      · refine Ev.step (f := fun _ => some failR) (fun k => ?_) (Ev.now _)
        simp only [sc_state.j5]
        rw [if_pos trivial]; rfl
    · have h0 : ¬ r.2 = true := fun h => hb (.inl h)
      have hz : p.lo.length ≠ 0 := fun h => hb (.inr h)
      have hf : (((p.lo.length : Int) == 0)) = false := by simpa using hz
      have hw : wrap64 ((p.lo.length : Int) - 1) = (p.lo.length : Int) - 1 := by unfold wrap64; omega
      obtain ⟨a, ha⟩ : ∃ a, numM s 0 ((p.lo.length : Int) - 1) r = a := ⟨_, rfl⟩
      obtain ⟨v, hv⟩ : ∃ v, valM s a.2 = v := ⟨_, rfl⟩
      have hna := num_is hs 0 ((p.lo.length : Int) - 1) r
      rw [ha] at hna
      have hva := val_is hs a.2
      rw [hv] at hva
      have hrest := ih (D ++ [⟨a.1, v.1⟩]) v.2 (by rw [List.length_append]; simp; omega)
      have e : (match wrM s p.lo.length (d + 1) r with | none => failR | some t => cont (D ++ t.1) t.2) = (match wrM s p.lo.length d v.2 with | none => failR | some t => cont ((D ++ [⟨a.1, v.1⟩]) ++ t.1) t.2) := by
        rw [wrM, if_neg hb]
        simp only [ha, hv]
        cases wrM s p.lo.length d v.2 with
        | none => rfl
        | some t => simp
      rw [e]
      refine Ev.step (f := fun k => sc_state.j5 k s (D ++ List.replicate (d + 1) z59) D.length (p.th.length : Int) j n D.length false p.th p.rg p.lo p.r0 p.m0 s r.1 r.2 P Q R M B 0) (fun k => ?_) ?_
      · simp only [SL4, sc_state.l4]
        rw [if_pos (by omega), if_neg h0, hf]
      · refine Ev.step (f := fun k => (sc_codes_number.f k s r.1 r.2 0 ((p.lo.length : Int) - 1)).bind fun b => (sc_codes_value.f k b.2.1 b.2.2.1 b.2.2.2).bind fun c => sc_state.l4 k s ((D ++ [(⟨b.1, c.1⟩ : S59)]) ++ List.replicate d z59) (p.th.length : Int) j n ((D.length + 1 : Nat) : Int) p.th p.rg p.lo p.r0 p.m0 c.2.1 c.2.2.1 c.2.2.2 P Q R M B 0) (fun k => ?_) ?_
        · simp only [sc_state.j5]
          rw [if_neg (by decide), hw]
          congr 1
          funext b
          rw [if_pos (Int.natCast_nonneg _), if_pos (by rw [hlen]; omega), Option.bind_some, Int.toNat_natCast, set_rep, wrapn (by omega)]
          simp only [set_mid, rdT_mid]
        · refine Ev.bind (f := fun k (b : Int × ByteArray × Int × Bool) => (sc_codes_value.f k b.2.1 b.2.2.1 b.2.2.2).bind fun c => sc_state.l4 k s ((D ++ [(⟨b.1, c.1⟩ : S59)]) ++ List.replicate d z59) (p.th.length : Int) j n ((D.length + 1 : Nat) : Int) p.th p.rg p.lo p.r0 p.m0 c.2.1 c.2.2.1 c.2.2.2 P Q R M B 0) hna ?_
          refine Ev.bind (f := fun k (c : Int × ByteArray × Int × Bool) => sc_state.l4 k s ((D ++ [(⟨a.1, c.1⟩ : S59)]) ++ List.replicate d z59) (p.th.length : Int) j n ((D.length + 1 : Nat) : Int) p.th p.rg p.lo p.r0 p.m0 c.2.1 c.2.2.1 c.2.2.2 P Q R M B 0) hva ?_
          have hl : (D ++ [(⟨a.1, v.1⟩ : S59)]).length = D.length + 1 := by rw [List.length_append]; rfl
          rw [hl] at hrest
          exact hrest

/-- What is answered behind the buffers. -/
def finR (s : ByteArray) (n : Nat) (P Q : List Int) (R : List (List Int)) (M : List Int) (B : List (List S59)) (r : RS) : Res :=
  if (numM s (-1) ((n : Int) - 1) r).2.2 = true then failR else if (numM s (-1) ((n : Int) - 1) r).2.1 = (s.size : Int) then (P, Q, R, M, B, (numM s (-1) ((n : Int) - 1) r).1, true) else failR
theorem l3_is (hs : s.size ≤ 4611686018427387904) (hl : p.lo.length ≤ 16) (ht : p.th.length ≤ 4) (d : Nat) : ∀ (B : List (List S59)) (r : RS), B.length + d = p.th.length →
    Ev (fun k => SL3 s p k B.length r P Q R M B) (match bufM s p.lo.length d r with | none => failR | some t => finR s p.th.length P Q R M (B ++ t.1) t.2) := by
  induction d with
  | zero =>
    intro B r h
    have hw : wrap64 ((p.th.length : Int) - 1) = (p.th.length : Int) - 1 := by unfold wrap64; omega
    simp only [bufM, List.append_nil]
    refine Ev.step (f := fun k => (sc_codes_number.f k s r.1 r.2 (-1) ((p.th.length : Int) - 1)).bind fun b => if b.2.2.2 = true then some failR else if b.2.2.1 = (s.size : Int) then some (P, Q, R, M, B, b.1, true) else some failR) (fun k => ?_) ?_
    · simp only [SL3, sc_state.l3]
      rw [if_neg (by omega), hw]
      rfl
    · refine Ev.bind (f := fun k (b : Int × ByteArray × Int × Bool) => if b.2.2.2 = true then some failR else if b.2.2.1 = (s.size : Int) then some (P, Q, R, M, B, b.1, true) else some failR) (num_is hs _ _ r) ?_
      unfold finR
      by_cases h1 : (numM s (-1) ((p.th.length : Int) - 1) r).2.2 = true
      · simp only [if_pos h1]; exact Ev.now _
      · by_cases h2 : (numM s (-1) ((p.th.length : Int) - 1) r).2.1 = (s.size : Int)
        · simp only [if_neg h1, if_pos h2]; exact Ev.now _
        · simp only [if_neg h1, if_neg h2]; exact Ev.now _
  | succ d ih =>
    intro B r h
    obtain ⟨a, ha⟩ : ∃ a, numM s 0 64 r = a := ⟨_, rfl⟩
    have hna := num_is hs 0 64 r
    have hra := numM_range (s := s) (show (0 : Int) ≤ 64 by decide) r
    rw [ha] at hna hra
    obtain ⟨n, hn⟩ : ∃ n : Nat, a.1 = n := ⟨a.1.toNat, by omega⟩
    have hn64 : n ≤ 64 := by omega
    refine Ev.step (f := fun k => (sc_codes_number.f k s r.1 r.2 0 64).bind fun b => if 0 ≤ b.1 then (if b.1.toNat ≤ 17592186044416 then (sc_state.l4 k s (List.replicate b.1.toNat z59) (p.th.length : Int) B.length (List.replicate b.1.toNat z59).length 0 p.th p.rg p.lo p.r0 p.m0 b.2.1 b.2.2.1 b.2.2.2 P Q R M B 0) else none) else none) (fun k => ?_) ?_
    · simp only [SL3, sc_state.l3]
      rw [if_pos (by omega)]
      rfl
    · refine Ev.bind (f := fun k (b : Int × ByteArray × Int × Bool) => if 0 ≤ b.1 then (if b.1.toNat ≤ 17592186044416 then (sc_state.l4 k s (List.replicate b.1.toNat z59) (p.th.length : Int) B.length (List.replicate b.1.toNat z59).length 0 p.th p.rg p.lo p.r0 p.m0 b.2.1 b.2.2.1 b.2.2.2 P Q R M B 0) else none) else none) hna ?_
      simp only [if_pos hra.1]
      rw [hn, Int.toNat_natCast, List.length_replicate]
      simp only [if_pos (show n ≤ 17592186044416 by omega)]
      have e : (match bufM s p.lo.length (d + 1) r with | none => failR | some t => finR s p.th.length P Q R M (B ++ t.1) t.2) = (match wrM s p.lo.length n a.2 with | none => failR | some l => (match bufM s p.lo.length d l.2 with | none => failR | some t => finR s p.th.length P Q R M ((B ++ [l.1]) ++ t.1) t.2)) := by
        rw [bufM]
        simp only [ha, hn, Int.toNat_natCast]
        cases wrM s p.lo.length n a.2 with
        | none => rfl
        | some l =>
          simp only [Option.bind_some]
          cases bufM s p.lo.length d l.2 with
          | none => rfl
          | some t => simp
      rw [e]
      have h4 := l4_is (p := p) (P := P) (Q := Q) (R := R) (M := M) hs hl (B := B) (j := (B.length : Int)) hn64 (cont := fun row r' => (match bufM s p.lo.length d r' with | none => failR | some t => finR s p.th.length P Q R M ((B ++ [row]) ++ t.1) t.2)) (fun row r' hrow => ?_) n [] a.2 (by simp)
      · simp only [List.nil_append, List.length_nil] at h4
        exact h4
      · refine Ev.step (f := fun k => SL3 s p k ((B.length + 1 : Nat) : Int) r' P Q R M (B ++ [row])) (fun k => ?_) ?_
        · simp only [SL4, sc_state.l4]
          rw [if_neg (by omega), if_pos (by omega), wrapn (by omega)]
        · have h5 := ih (B ++ [row]) r' (by rw [List.length_append]; simp; omega)
          have hl5 : (B ++ [row]).length = B.length + 1 := by rw [List.length_append]; rfl
          rw [hl5] at h5
          exact h5
theorem l2_is (hs : s.size ≤ 4611686018427387904) (hl : p.lo.length ≤ 16) (ht : p.th.length ≤ 4) (d : Nat) : ∀ (D : List Int) (r : RS), D.length + d = p.lo.length →
    Ev (fun k => SL2 s p k p.lo.length D.length r P Q R (D ++ List.replicate d 0)) (match bufM s p.lo.length p.th.length (rowM s d r).2 with | none => failR | some t => finR s p.th.length P Q R (D ++ (rowM s d r).1) t.1 t.2) := by
  induction d with
  | zero =>
    intro D r h
    rw [List.replicate_zero, List.append_nil]
    simp only [rowM, List.append_nil]
    refine Ev.step (f := fun k => SL3 s p k (0 : Int) r P Q R D []) (fun k => ?_) ?_
    · simp only [SL2, sc_state.l2]
      rw [if_neg (by omega)]
    · exact l3_is hs hl ht p.th.length [] r (by simp)
  | succ d ih =>
    intro D r h
    obtain ⟨v, hv⟩ : ∃ v, valM s r = v := ⟨_, rfl⟩
    have hva := val_is hs r
    rw [hv] at hva
    have hlen : (D ++ List.replicate (d + 1) (0 : Int)).length = p.lo.length := by rw [List.length_append, List.length_replicate]; omega
    refine Ev.step (f := fun k => (sc_codes_value.f k s r.1 r.2).bind fun b => sc_state.l2 k s p.lo.length ((D.length + 1 : Nat) : Int) p.th p.rg p.lo p.r0 p.m0 b.2.1 b.2.2.1 b.2.2.2 P Q R ((D ++ [b.1]) ++ List.replicate d 0) 0) (fun k => ?_) ?_
    · simp only [SL2, sc_state.l2]
      rw [if_pos (by omega), wrapn (by omega), Int.toNat_natCast]
      congr 1
      funext b
      rw [if_pos (Int.natCast_nonneg _), if_pos (by rw [hlen]; omega), set_rep]
    · refine Ev.bind (f := fun k (b : Int × ByteArray × Int × Bool) => sc_state.l2 k s p.lo.length ((D.length + 1 : Nat) : Int) p.th p.rg p.lo p.r0 p.m0 b.2.1 b.2.2.1 b.2.2.2 P Q R ((D ++ [b.1]) ++ List.replicate d 0) 0) hva ?_
      have h5 := ih (D ++ [v.1]) v.2 (by rw [List.length_append]; simp; omega)
      have hl5 : (D ++ [v.1]).length = D.length + 1 := by rw [List.length_append]; rfl
      rw [hl5] at h5
      rw [rowM]
      simp only [hv]
      rw [List.append_assoc, List.singleton_append] at h5
      have e : D ++ [v.1] ++ List.replicate d 0 = D ++ v.1 :: List.replicate d 0 := by simp
      rw [e]
      simpa using h5

theorem l1_is (hs : s.size ≤ 4611686018427387904) {i : Int} {m : Nat} (hm : m ≤ 64) {P Q : List Int} {R : List (List Int)} {cont : List Int → RS → Res}
    (hc : ∀ row r, row.length = m → Ev (fun k => SL1 s p k row i m m r P Q R) (cont row r)) (d : Nat) : ∀ (D : List Int) (r : RS), D.length + d = m →
    Ev (fun k => SL1 s p k (D ++ List.replicate d 0) i m D.length r P Q R) (cont (D ++ (rowM s d r).1) (rowM s d r).2) := by
  induction d with
  | zero =>
    intro D r h
    have h2 : D.length = m := by omega
    rw [List.replicate_zero, List.append_nil, h2]
    simp only [rowM, List.append_nil]
    exact hc D r h2
  | succ d ih =>
    intro D r h
    obtain ⟨v, hv⟩ : ∃ v, valM s r = v := ⟨_, rfl⟩
    have hva := val_is hs r
    rw [hv] at hva
    have hlen : (D ++ List.replicate (d + 1) (0 : Int)).length = m := by rw [List.length_append, List.length_replicate]; omega
    refine Ev.step (f := fun k => (sc_codes_value.f k s r.1 r.2).bind fun b => sc_state.l1 k s ((D ++ [b.1]) ++ List.replicate d 0) p.th (p.th.length : Int) i m ((D.length + 1 : Nat) : Int) p.th p.rg p.lo p.r0 p.m0 b.2.1 b.2.2.1 b.2.2.2 P Q R 0) (fun k => ?_) ?_
    · simp only [SL1, sc_state.l1]
      rw [if_pos (by omega), wrapn (by omega), Int.toNat_natCast]
      congr 1
      funext b
      rw [if_pos (Int.natCast_nonneg _), if_pos (by rw [hlen]; omega), set_rep]
    · refine Ev.bind (f := fun k (b : Int × ByteArray × Int × Bool) => sc_state.l1 k s ((D ++ [b.1]) ++ List.replicate d 0) p.th (p.th.length : Int) i m ((D.length + 1 : Nat) : Int) p.th p.rg p.lo p.r0 p.m0 b.2.1 b.2.2.1 b.2.2.2 P Q R 0) hva ?_
      have h5 := ih (D ++ [v.1]) v.2 (by rw [List.length_append]; simp; omega)
      have hl5 : (D ++ [v.1]).length = D.length + 1 := by rw [List.length_append]; rfl
      rw [hl5] at h5
      rw [rowM]
      simp only [hv]
      have e : D ++ v.1 :: (rowM s d v.2).1 = (D ++ [v.1]) ++ (rowM s d v.2).1 := by simp
      rw [e]
      exact h5
/-- Of each thread, how many instructions and registers it has. -/
def tsP (p : Pg) : List (Nat × Nat) := List.zipWith (fun a b => (a.length, b.length)) p.th p.rg
theorem tsP_len {p : Pg} (h : p.rg.length = p.th.length) : (tsP p).length = p.th.length := by unfold tsP; rw [List.length_zipWith, h, Nat.min_self]
theorem tsP_drop {p : Pg} (h : p.rg.length = p.th.length) {i : Nat} (hi : i < p.th.length) : (tsP p).drop i = ((rd_L3 p.th (i : Int)).length, (rd_L4 p.rg (i : Int)).length) :: (tsP p).drop (i + 1) := by
  have hl : i < (tsP p).length := by rw [tsP_len h]; exact hi
  have e : (tsP p)[i]? = some ((rd_L3 p.th (i : Int)).length, (rd_L4 p.rg (i : Int)).length) := by
    unfold tsP
    rw [List.getElem?_zipWith, List.getElem?_eq_getElem hi, List.getElem?_eq_getElem (show i < p.rg.length by omega)]
    unfold rd_L3 rd_L4
    rw [Int.toNat_natCast, List.getD_eq_getElem?_getD, List.getElem?_eq_getElem hi, List.getD_eq_getElem?_getD, List.getElem?_eq_getElem (show i < p.rg.length by omega)]
    rfl
  obtain ⟨_, he⟩ := List.getElem?_eq_some_iff.1 e
  rw [List.drop_eq_getElem_cons hl, he]
/-- What is answered behind the threads. -/
def endR (s : ByteArray) (p : Pg) (P Q : List Int) (R : List (List Int)) (t : (List Int × List Int × List (List Int)) × RS) : Res :=
  match bufM s p.lo.length p.th.length (rowM s p.lo.length t.2).2 with
  | none => failR
  | some b => finR s p.th.length (P ++ t.1.1) (Q ++ t.1.2.1) (R ++ t.1.2.2) (rowM s p.lo.length t.2).1 b.1 b.2
theorem l0_is (hs : s.size ≤ 4611686018427387904) (hl : p.lo.length ≤ 16) (ht : p.th.length ≤ 4) (hg : p.rg.length = p.th.length) (hr : ∀ i : Nat, (rd_L4 p.rg (i : Int)).length ≤ 8) (d : Nat) : ∀ (i : Nat) (P Q : List Int) (R : List (List Int)) (r : RS),
    i + d = p.th.length → P.length = i → Q.length = i → R.length = i → Ev (fun k => SL0 s p k i r P Q R) (endR s p P Q R (thrT s ((tsP p).drop i) r)) := by
  induction d with
  | zero =>
    intro i P Q R r h hP hQ hR
    have e : (tsP p).drop i = [] := List.drop_eq_nil_of_le (by rw [tsP_len hg]; omega)
    rw [e]
    unfold endR
    simp only [thrT, List.append_nil]
    refine Ev.step (f := fun k => SL2 s p k p.lo.length (0 : Int) r P Q R (List.replicate p.lo.length 0)) (fun k => ?_) ?_
    · simp only [SL0, sc_state.l0]
      rw [if_neg (by omega), if_pos (Int.natCast_nonneg _), Int.toNat_natCast, if_pos (by omega), Option.bind_some, List.length_replicate]
    · have h2 := l2_is (P := P) (Q := Q) (R := R) hs hl ht p.lo.length [] r (by simp)
      simpa using h2
  | succ d ih =>
    intro i P Q R r h hP hQ hR
    obtain ⟨n, hn⟩ : ∃ n, (rd_L3 p.th (i : Int)).length = n := ⟨_, rfl⟩
    obtain ⟨m, hm⟩ : ∃ m, (rd_L4 p.rg (i : Int)).length = m := ⟨_, rfl⟩
    have hm8 : m ≤ 8 := by rw [← hm]; exact hr i
    rw [tsP_drop hg (by omega), hn, hm]
    obtain ⟨a, ha⟩ : ∃ a, numM s 0 n r = a := ⟨_, rfl⟩
    obtain ⟨b, hb⟩ : ∃ b, numM s 0 2 a.2 = b := ⟨_, rfl⟩
    have hna := num_is hs 0 n r
    rw [ha] at hna
    have hnb := num_is hs 0 2 a.2
    rw [hb] at hnb
    have e : endR s p P Q R (thrT s ((n, m) :: (tsP p).drop (i + 1)) r) = endR s p (P ++ [a.1]) (Q ++ [b.1]) (R ++ [(rowM s m b.2).1]) (thrT s ((tsP p).drop (i + 1)) (rowM s m b.2).2) := by
      unfold endR
      simp only [thrT, ha, hb]
      simp
    rw [e]
    refine Ev.step (f := fun k => (sc_codes_number.f k s r.1 r.2 0 n).bind fun c => (sc_codes_number.f k c.2.1 c.2.2.1 c.2.2.2 0 2).bind fun e => sc_state.l1 k s (List.replicate m 0) p.th (p.th.length : Int) i m 0 p.th p.rg p.lo p.r0 p.m0 e.2.1 e.2.2.1 e.2.2.2 (P ++ [c.1]) (Q ++ [e.1]) R 0) (fun k => ?_) ?_
    · simp only [SL0, sc_state.l0]
      rw [if_pos (by omega), if_pos (Int.natCast_nonneg _), if_pos (by omega), hn, hm]
      congr 1
      funext c
      rw [if_pos (by omega)]
      congr 1
      funext e
      rw [if_pos (by omega), if_pos (by omega), if_pos (Int.natCast_nonneg _), Int.toNat_natCast, if_pos (by omega), Option.bind_some, List.length_replicate]
    · refine Ev.bind (f := fun k (c : Int × ByteArray × Int × Bool) => (sc_codes_number.f k c.2.1 c.2.2.1 c.2.2.2 0 2).bind fun e => sc_state.l1 k s (List.replicate m 0) p.th (p.th.length : Int) i m 0 p.th p.rg p.lo p.r0 p.m0 e.2.1 e.2.2.1 e.2.2.2 (P ++ [c.1]) (Q ++ [e.1]) R 0) hna ?_
      refine Ev.bind (f := fun k (e : Int × ByteArray × Int × Bool) => sc_state.l1 k s (List.replicate m 0) p.th (p.th.length : Int) i m 0 p.th p.rg p.lo p.r0 p.m0 e.2.1 e.2.2.1 e.2.2.2 (P ++ [a.1]) (Q ++ [e.1]) R 0) hnb ?_
      have h1 := l1_is (p := p) (i := (i : Int)) (m := m) hs (by omega) (P := P ++ [a.1]) (Q := Q ++ [b.1]) (R := R) (cont := fun row r' => endR s p (P ++ [a.1]) (Q ++ [b.1]) (R ++ [row]) (thrT s ((tsP p).drop (i + 1)) r')) (fun row r' hrow => ?_) m [] b.2 (by simp)
      · simpa using h1
      · refine Ev.step (f := fun k => SL0 s p k ((i + 1 : Nat) : Int) r' (P ++ [a.1]) (Q ++ [b.1]) (R ++ [row])) (fun k => ?_) ?_
        · simp only [SL1, sc_state.l1]
          rw [if_neg (by omega), if_pos (by omega), wrapn (by omega)]
        · exact ih (i + 1) _ _ _ r' (by omega) (by rw [List.length_append, hP]; rfl) (by rw [List.length_append, hQ]; rfl) (by rw [List.length_append, hR]; rfl)
/-- What sc.state answers. -/
def stateR (o : Option StT) : Res := match o with
  | none => failR
  | some u => (u.1, u.2.1, u.2.2.1, u.2.2.2.1, u.2.2.2.2.1, u.2.2.2.2.2, true)
theorem state_is (hs : s.size ≤ 4611686018427387904) (hl : p.lo.length ≤ 16) (ht : p.th.length ≤ 4) (hg : p.rg.length = p.th.length) (hr : ∀ i : Nat, (rd_L4 p.rg (i : Int)).length ≤ 8) :
    Ev (fun k => sc_state.f k p.th p.rg p.lo p.r0 p.m0 s) (stateR (stateM (tsP p) p.lo.length s)) := by
  have h := l0_is hs hl ht hg hr p.th.length 0 [] [] [] ((0 : Int), false) (by simp) rfl rfl rfl
  have e : stateR (stateM (tsP p) p.lo.length s) = endR s p [] [] [] (thrT s ((tsP p).drop 0) ((0 : Int), false)) := by
    unfold stateM endR
    rw [List.drop_zero, tsP_len hg]
    simp only [List.nil_append]
    cases bufM s p.lo.length p.th.length (rowM s p.lo.length (thrT s (tsP p) (0, false)).2).2 with
    | none => rfl
    | some b =>
      simp only [Option.bind_some]
      unfold finR
      split
      · rfl
      · split <;> rfl
  rw [e]
  exact Ev.congr (fun k => by unfold sc_state.f; rfl) h
end Go.Proofs.Ytemhpbdlonfikaa.P
