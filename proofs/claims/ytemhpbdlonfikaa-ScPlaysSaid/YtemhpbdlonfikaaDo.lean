/- sc.do: an instruction is done at once, on two rows that the caller owns. -/
import Derived.Test.YtemhpbdlonfikaaOwn
namespace Go.Proofs.Ytemhpbdlonfikaa.P
open Go Go.RowKit Go.Proofs.YtemhpbdlonfikaaW.PrintWords Go.Proofs.YtemhpbdlonfikaaW.PrintLast Go.Proofs.YtemhpbdlonfikaaW.PrintMore

/-- What an instruction makes of a thread's registers and of memory. -/
def doM (o : S87) (r me : List Int) : List Int × List Int :=
  if o.f0 = 1 then (r.set o.f1.toNat o.f4, me)
  else if o.f0 = 2 then (r.set o.f1.toNat (rd r o.f2), me)
  else if o.f0 = 3 then (r.set o.f1.toNat (rd me o.f3), me)
  else if o.f0 = 4 then (r, me.set o.f3.toNat o.f4)
  else if o.f0 = 5 then (r, me.set o.f3.toNat (rd r o.f2))
  else if o.f0 = 7 then (r.set o.f1.toNat (rd me o.f3), me.set o.f3.toNat (rd r o.f1))
  else if o.f0 = 9 then (r.set o.f1.toNat (rd me o.f3), me.set o.f3.toNat (wrap64 (rd me o.f3 + rd r o.f1)))
  else if o.f0 = 8 then if rd me o.f3 = rd r o.f1 then (r, me.set o.f3.toNat (rd r o.f2)) else (r.set o.f1.toNat (rd me o.f3), me)
  else (r, me)
/-- An instruction's numbers lie within. -/
def OpOK (o : S87) (nr nl : Nat) : Prop :=
  ((o.f0 = 1 ∨ o.f0 = 2 ∨ o.f0 = 3 ∨ o.f0 = 7 ∨ o.f0 = 8 ∨ o.f0 = 9) → 0 ≤ o.f1 ∧ o.f1 < nr) ∧ ((o.f0 = 2 ∨ o.f0 = 5 ∨ o.f0 = 8) → 0 ≤ o.f2 ∧ o.f2 < nr) ∧
  ((o.f0 = 3 ∨ o.f0 = 4 ∨ o.f0 = 5 ∨ o.f0 = 7 ∨ o.f0 = 8 ∨ o.f0 = 9) → 0 ≤ o.f3 ∧ o.f3 < nl)

section
variable {w W : World} {rows : List Rw} {cells : List (Nat × TypeId × Array Value)}
theorem Bag.ptr (h : Bag w rows cells W) {j : Nat} {e : TypeId} {v : Value} {l : List Int} (hj : rows[j]? = some (ri e v l)) {i : Int} (h0 : 0 ≤ i) (h1 : i < l.length) :
    ∃ g cap, v = .slice (some ⟨g, 0, none⟩) l.length cap ∧ W.cell? ⟨g, i.toNat, none⟩ = some (.int .i64 (rd l i)) ∧ W.frozen? ⟨g, i.toNat, none⟩ = false := by
  rcases (h.row j _ hj).2 with ⟨_, h2⟩ | ⟨g, cap, cur, hv, _⟩
  · have : l.length = 0 := h2
    omega
  · refine ⟨g, cap, hv, h.at hj hv (i := i.toNat) ?_⟩
    show (nums .i64 l)[i.toNat]? = _
    simp only [nums, List.getElem?_map, rd, List.getD_eq_getElem?_getD]
    rw [List.getElem?_eq_getElem (by omega)]
    rfl
theorem Bag.setNum (h : Bag w rows cells W) {j : Nat} {e : TypeId} {l : List Int} {g cap : Nat} (hj : rows[j]? = some (ri e (.slice (some ⟨g, 0, none⟩) l.length cap) l)) (i : Int) (x : Int) :
    Bag w (rows.set j (ri e (.slice (some ⟨g, 0, none⟩) l.length cap) (l.set i.toNat x))) cells (W.setCell ⟨g, i.toNat, none⟩ (.int .i64 x)) := by
  have h1 := h.setRow hj rfl i.toNat (.int .i64 x)
  have e1 : ({ ri e (.slice (some ⟨g, 0, none⟩) l.length cap) l with xs := (ri e (.slice (some ⟨g, 0, none⟩) l.length cap) l).xs.set i.toNat (.int .i64 x) } : Rw) = ri e (.slice (some ⟨g, 0, none⟩) l.length cap) (l.set i.toNat x) := by
    simp [ri, nums, List.map_set]
  rwa [e1] at h1
end

theorem set_same {α : Type} {l : List α} {j : Nat} {x : α} (h : l[j]? = some x) : l.set j x = l := by
  obtain ⟨hj, rfl⟩ := List.getElem?_eq_some_iff.1 h
  exact List.set_getElem_self hj
set_option maxHeartbeats 2000000 in
set_option maxRecDepth 100000 in
theorem do_1 {w W : World} {rows : List Rw} {cells : List (Nat × TypeId × Array Value)} {o : S87} {jr jm : Nat} {vr vm : Value} {r me : List Int} (h : Bag w rows cells W) (hr : rows[jr]? = some (ri 2 vr r)) (hm : rows[jm]? = some (ri 2 vm me))
    (hne : jr ≠ jm) (hk : o.f0 = 1) (hok : OpOK o r.length me.length) :
    Calls Try.prog 85 #[.agg #[.int .i64 o.f0, .int .i64 o.f1, .int .i64 o.f2, .int .i64 o.f3, .int .i64 o.f4], vr, vm] W fun e W' => e = .returned (.tuple #[]) ∧ Bag w ((rows.set jr (ri 2 vr (doM o r me).1)).set jm (ri 2 vm (doM o r me).2)) cells W' := by
  obtain ⟨k0, k1, k2, k3, k4⟩ := o
  simp only at hk
  obtain ⟨hA, hB, hC⟩ := hok
  simp only at hA hB hC
  subst hk
  have hu := Try.underlying87
  have HG := Aside0.mk (h.later (below_alloc (Below.refl _ _) (.cells #[.int .i64 1, .int .i64 k1, .int .i64 k2, .int .i64 k3, .int .i64 k4] 87)))
  clear h
  obtain ⟨a1, b1⟩ := hA (by omega)
  obtain ⟨g, cap, rfl, hc1, hf1⟩ := HG.out.ptr hr a1 b1
  go_enter Try.func85, Try.ntmps85
  go_wp2
  go_end0
  refine ⟨rfl, ?_⟩
  have h1 := HG.out.setNum hr k1 k4
  have e1 : doM ⟨1, k1, k2, k3, k4⟩ r me = (r.set k1.toNat k4, me) := by simp [doM]
  rw [e1]
  rw [set_same (x := ri 2 vm me) (by rw [List.getElem?_set_ne hne]; exact hm)]
  exact h1
set_option maxHeartbeats 2000000 in
set_option maxRecDepth 100000 in
theorem do_2 {w W : World} {rows : List Rw} {cells : List (Nat × TypeId × Array Value)} {o : S87} {jr jm : Nat} {vr vm : Value} {r me : List Int} (h : Bag w rows cells W) (hr : rows[jr]? = some (ri 2 vr r)) (hm : rows[jm]? = some (ri 2 vm me))
    (hne : jr ≠ jm) (hk : o.f0 = 2) (hok : OpOK o r.length me.length) :
    Calls Try.prog 85 #[.agg #[.int .i64 o.f0, .int .i64 o.f1, .int .i64 o.f2, .int .i64 o.f3, .int .i64 o.f4], vr, vm] W fun e W' => e = .returned (.tuple #[]) ∧ Bag w ((rows.set jr (ri 2 vr (doM o r me).1)).set jm (ri 2 vm (doM o r me).2)) cells W' := by
  obtain ⟨k0, k1, k2, k3, k4⟩ := o
  simp only at hk
  obtain ⟨hA, hB, hC⟩ := hok
  simp only at hA hB hC
  subst hk
  have hu := Try.underlying87
  have HG := Aside0.mk (h.later (below_alloc (Below.refl _ _) (.cells #[.int .i64 2, .int .i64 k1, .int .i64 k2, .int .i64 k3, .int .i64 k4] 87)))
  clear h
  obtain ⟨a1, b1⟩ := hA (by omega)
  obtain ⟨a2, b2⟩ := hB (by omega)
  obtain ⟨g, cap, rfl, hc1, hf1⟩ := HG.out.ptr hr a1 b1
  obtain ⟨g9, cap9, e9, hc2, hf2⟩ := HG.out.ptr hr a2 b2
  obtain ⟨rfl, rfl⟩ : g = g9 ∧ cap = cap9 := by injection e9 with e9 _ e8; injection e9 with e9; injection e9 with e9; exact ⟨e9, e8⟩
  clear e9
  go_enter Try.func85, Try.ntmps85
  go_wp2
  go_region
  all_goals go_wp2
  all_goals go_end0
  all_goals refine ⟨rfl, ?_⟩
  all_goals have h1 := (HG.out.setNum hr k1 (rd r k2)).drew
  all_goals have e1 : doM ⟨2, k1, k2, k3, k4⟩ r me = (r.set k1.toNat (rd r k2), me) := by simp [doM]
  all_goals rw [e1]
  all_goals rw [set_same (x := ri 2 vm me) (by rw [List.getElem?_set_ne hne]; exact hm)]
  all_goals exact h1
set_option maxHeartbeats 2000000 in
set_option maxRecDepth 100000 in
theorem do_3 {w W : World} {rows : List Rw} {cells : List (Nat × TypeId × Array Value)} {o : S87} {jr jm : Nat} {vr vm : Value} {r me : List Int} (h : Bag w rows cells W) (hr : rows[jr]? = some (ri 2 vr r)) (hm : rows[jm]? = some (ri 2 vm me))
    (hne : jr ≠ jm) (hk : o.f0 = 3) (hok : OpOK o r.length me.length) :
    Calls Try.prog 85 #[.agg #[.int .i64 o.f0, .int .i64 o.f1, .int .i64 o.f2, .int .i64 o.f3, .int .i64 o.f4], vr, vm] W fun e W' => e = .returned (.tuple #[]) ∧ Bag w ((rows.set jr (ri 2 vr (doM o r me).1)).set jm (ri 2 vm (doM o r me).2)) cells W' := by
  obtain ⟨k0, k1, k2, k3, k4⟩ := o
  simp only at hk
  obtain ⟨hA, hB, hC⟩ := hok
  simp only at hA hB hC
  subst hk
  have hu := Try.underlying87
  have HG := Aside0.mk (h.later (below_alloc (Below.refl _ _) (.cells #[.int .i64 3, .int .i64 k1, .int .i64 k2, .int .i64 k3, .int .i64 k4] 87)))
  clear h
  obtain ⟨a1, b1⟩ := hA (by omega)
  obtain ⟨a3, b3⟩ := hC (by omega)
  obtain ⟨g, cap, rfl, hc1, hf1⟩ := HG.out.ptr hr a1 b1
  obtain ⟨g3, cap3, rfl, hc3, hf3⟩ := HG.out.ptr hm a3 b3
  go_enter Try.func85, Try.ntmps85
  go_wp2
  go_region
  all_goals go_wp2
  all_goals go_end0
  all_goals refine ⟨rfl, ?_⟩
  all_goals have h1 := (HG.out.setNum hr k1 (rd me k3)).drew
  all_goals have e1 : doM ⟨3, k1, k2, k3, k4⟩ r me = (r.set k1.toNat (rd me k3), me) := by simp [doM]
  all_goals rw [e1]
  all_goals rw [set_same (x := ri 2 (.slice (some ⟨g3, 0, none⟩) me.length cap3) me) (by rw [List.getElem?_set_ne hne]; exact hm)]
  all_goals exact h1
set_option maxHeartbeats 2000000 in
set_option maxRecDepth 100000 in
theorem do_4 {w W : World} {rows : List Rw} {cells : List (Nat × TypeId × Array Value)} {o : S87} {jr jm : Nat} {vr vm : Value} {r me : List Int} (h : Bag w rows cells W) (hr : rows[jr]? = some (ri 2 vr r)) (hm : rows[jm]? = some (ri 2 vm me))
    (_hne : jr ≠ jm) (hk : o.f0 = 4) (hok : OpOK o r.length me.length) :
    Calls Try.prog 85 #[.agg #[.int .i64 o.f0, .int .i64 o.f1, .int .i64 o.f2, .int .i64 o.f3, .int .i64 o.f4], vr, vm] W fun e W' => e = .returned (.tuple #[]) ∧ Bag w ((rows.set jr (ri 2 vr (doM o r me).1)).set jm (ri 2 vm (doM o r me).2)) cells W' := by
  obtain ⟨k0, k1, k2, k3, k4⟩ := o
  simp only at hk
  obtain ⟨hA, hB, hC⟩ := hok
  simp only at hA hB hC
  subst hk
  have hu := Try.underlying87
  have HG := Aside0.mk (h.later (below_alloc (Below.refl _ _) (.cells #[.int .i64 4, .int .i64 k1, .int .i64 k2, .int .i64 k3, .int .i64 k4] 87)))
  clear h
  obtain ⟨a3, b3⟩ := hC (by omega)
  obtain ⟨g3, cap3, rfl, hc3, hf3⟩ := HG.out.ptr hm a3 b3
  go_enter Try.func85, Try.ntmps85
  go_wp2
  go_end0
  refine ⟨rfl, ?_⟩
  have h1 := HG.out.setNum hm k3 k4
  have e1 : doM ⟨4, k1, k2, k3, k4⟩ r me = (r, me.set k3.toNat k4) := by simp [doM]
  rw [e1]
  rw [set_same (l := rows) (x := ri 2 vr r) hr]
  exact h1
set_option maxHeartbeats 2000000 in
set_option maxRecDepth 100000 in
theorem do_5 {w W : World} {rows : List Rw} {cells : List (Nat × TypeId × Array Value)} {o : S87} {jr jm : Nat} {vr vm : Value} {r me : List Int} (h : Bag w rows cells W) (hr : rows[jr]? = some (ri 2 vr r)) (hm : rows[jm]? = some (ri 2 vm me))
    (_hne : jr ≠ jm) (hk : o.f0 = 5) (hok : OpOK o r.length me.length) :
    Calls Try.prog 85 #[.agg #[.int .i64 o.f0, .int .i64 o.f1, .int .i64 o.f2, .int .i64 o.f3, .int .i64 o.f4], vr, vm] W fun e W' => e = .returned (.tuple #[]) ∧ Bag w ((rows.set jr (ri 2 vr (doM o r me).1)).set jm (ri 2 vm (doM o r me).2)) cells W' := by
  obtain ⟨k0, k1, k2, k3, k4⟩ := o
  simp only at hk
  obtain ⟨hA, hB, hC⟩ := hok
  simp only at hA hB hC
  subst hk
  have hu := Try.underlying87
  have HG := Aside0.mk (h.later (below_alloc (Below.refl _ _) (.cells #[.int .i64 5, .int .i64 k1, .int .i64 k2, .int .i64 k3, .int .i64 k4] 87)))
  clear h
  obtain ⟨a2, b2⟩ := hB (by omega)
  obtain ⟨a3, b3⟩ := hC (by omega)
  obtain ⟨g, cap, rfl, hc2, hf2⟩ := HG.out.ptr hr a2 b2
  obtain ⟨g3, cap3, rfl, hc3, hf3⟩ := HG.out.ptr hm a3 b3
  go_enter Try.func85, Try.ntmps85
  go_wp2
  go_region
  all_goals go_wp2
  all_goals go_end0
  all_goals refine ⟨rfl, ?_⟩
  all_goals have h1 := (HG.out.setNum hm k3 (rd r k2)).drew
  all_goals have e1 : doM ⟨5, k1, k2, k3, k4⟩ r me = (r, me.set k3.toNat (rd r k2)) := by simp [doM]
  all_goals rw [e1]
  all_goals rw [set_same (l := rows) (x := ri 2 (.slice (some ⟨g, 0, none⟩) r.length cap) r) hr]
  all_goals exact h1
set_option maxHeartbeats 4000000 in
set_option maxRecDepth 100000 in
theorem do_7 {w W : World} {rows : List Rw} {cells : List (Nat × TypeId × Array Value)} {o : S87} {jr jm : Nat} {vr vm : Value} {r me : List Int} (h : Bag w rows cells W) (hr : rows[jr]? = some (ri 2 vr r)) (hm : rows[jm]? = some (ri 2 vm me))
    (hne : jr ≠ jm) (hk : o.f0 = 7) (hok : OpOK o r.length me.length) :
    Calls Try.prog 85 #[.agg #[.int .i64 o.f0, .int .i64 o.f1, .int .i64 o.f2, .int .i64 o.f3, .int .i64 o.f4], vr, vm] W fun e W' => e = .returned (.tuple #[]) ∧ Bag w ((rows.set jr (ri 2 vr (doM o r me).1)).set jm (ri 2 vm (doM o r me).2)) cells W' := by
  obtain ⟨k0, k1, k2, k3, k4⟩ := o
  simp only at hk
  obtain ⟨hA, hB, hC⟩ := hok
  simp only at hA hB hC
  subst hk
  have hu := Try.underlying87
  obtain ⟨a1, b1⟩ := hA (by omega)
  obtain ⟨a3, b3⟩ := hC (by omega)
  clear hA hB hC
  have hG := h.fresh 87 #[.int .i64 7, .int .i64 k1, .int .i64 k2, .int .i64 k3, .int .i64 k4]
  go_enter Try.func85, Try.ntmps85
  go_upto_region 1 with fail
  generalize hW1 : W.alloc (.cells #[.int .i64 7, .int .i64 k1, .int .i64 k2, .int .i64 k3, .int .i64 k4] 87) = W1 at hG ⊢
  generalize W.heap.size = g0 at hG ⊢
  clear hW1 h
  obtain ⟨c0, _⟩ := hG.cellOf (c := (g0, 87, _)) (List.mem_cons_self) 0 _ rfl
  obtain ⟨c1, _⟩ := hG.cellOf (c := (g0, 87, _)) (List.mem_cons_self) 1 _ rfl
  obtain ⟨c3, _⟩ := hG.cellOf (c := (g0, 87, _)) (List.mem_cons_self) 3 _ rfl
  obtain ⟨g, cap, rfl, hc1, hf1⟩ := hG.ptr hr a1 b1
  obtain ⟨g3, cap3, rfl, hc3, hf3⟩ := hG.ptr hm a3 b3
  have HS := Aside0.mk (hG.setNum hm k3 (rd r k1))
  have hr2 : (rows.set jm (ri 2 (.slice (some ⟨g3, 0, none⟩) me.length cap3) (me.set k3.toNat (rd r k1))))[jr]? = some (ri 2 (.slice (some ⟨g, 0, none⟩) r.length cap) r) := by rw [List.getElem?_set_ne (Ne.symm hne)]; exact hr
  obtain ⟨d1, _⟩ := HS.out.cellOf (c := (g0, 87, _)) (List.mem_cons_self) 1 _ rfl
  obtain ⟨gx, capx, ex, hx1, hfx⟩ := HS.out.ptr hr2 a1 b1
  obtain ⟨rfl, rfl⟩ : g = gx ∧ cap = capx := by injection ex with e9 _ e8; injection e9 with e9; injection e9 with e9; exact ⟨e9, e8⟩
  clear ex
  go_wp2
  go_region
  all_goals go_wp2
  all_goals go_end0
  all_goals refine ⟨rfl, ?_⟩
  all_goals have h1 := ((HS.out.setNum hr2 k1 (rd me k3)).drew).loseCell
  all_goals have e1 : doM ⟨7, k1, k2, k3, k4⟩ r me = (r.set k1.toNat (rd me k3), me.set k3.toNat (rd r k1)) := by simp [doM]
  all_goals rw [e1, List.set_comm _ _ hne]
  all_goals exact h1
set_option maxHeartbeats 4000000 in
set_option maxRecDepth 100000 in
theorem do_9 {w W : World} {rows : List Rw} {cells : List (Nat × TypeId × Array Value)} {o : S87} {jr jm : Nat} {vr vm : Value} {r me : List Int} (h : Bag w rows cells W) (hr : rows[jr]? = some (ri 2 vr r)) (hm : rows[jm]? = some (ri 2 vm me))
    (hne : jr ≠ jm) (hk : o.f0 = 9) (hok : OpOK o r.length me.length) :
    Calls Try.prog 85 #[.agg #[.int .i64 o.f0, .int .i64 o.f1, .int .i64 o.f2, .int .i64 o.f3, .int .i64 o.f4], vr, vm] W fun e W' => e = .returned (.tuple #[]) ∧ Bag w ((rows.set jr (ri 2 vr (doM o r me).1)).set jm (ri 2 vm (doM o r me).2)) cells W' := by
  obtain ⟨k0, k1, k2, k3, k4⟩ := o
  simp only at hk
  obtain ⟨hA, hB, hC⟩ := hok
  simp only at hA hB hC
  subst hk
  have hu := Try.underlying87
  obtain ⟨a1, b1⟩ := hA (by omega)
  obtain ⟨a3, b3⟩ := hC (by omega)
  clear hA hB hC
  have hG := h.fresh 87 #[.int .i64 9, .int .i64 k1, .int .i64 k2, .int .i64 k3, .int .i64 k4]
  go_enter Try.func85, Try.ntmps85
  go_upto_region 1 with fail
  generalize hW1 : W.alloc (.cells #[.int .i64 9, .int .i64 k1, .int .i64 k2, .int .i64 k3, .int .i64 k4] 87) = W1 at hG ⊢
  generalize W.heap.size = g0 at hG ⊢
  clear hW1 h
  obtain ⟨c0, _⟩ := hG.cellOf (c := (g0, 87, _)) (List.mem_cons_self) 0 _ rfl
  obtain ⟨c1, _⟩ := hG.cellOf (c := (g0, 87, _)) (List.mem_cons_self) 1 _ rfl
  obtain ⟨c3, _⟩ := hG.cellOf (c := (g0, 87, _)) (List.mem_cons_self) 3 _ rfl
  obtain ⟨g, cap, rfl, hc1, hf1⟩ := hG.ptr hr a1 b1
  obtain ⟨g3, cap3, rfl, hc3, hf3⟩ := hG.ptr hm a3 b3
  have HS := Aside0.mk (hG.setNum hm k3 (wrap64 (rd me k3 + rd r k1)))
  have hr2 : (rows.set jm (ri 2 (.slice (some ⟨g3, 0, none⟩) me.length cap3) (me.set k3.toNat (wrap64 (rd me k3 + rd r k1)))))[jr]? = some (ri 2 (.slice (some ⟨g, 0, none⟩) r.length cap) r) := by rw [List.getElem?_set_ne (Ne.symm hne)]; exact hr
  obtain ⟨d1, _⟩ := HS.out.cellOf (c := (g0, 87, _)) (List.mem_cons_self) 1 _ rfl
  obtain ⟨gx, capx, ex, hx1, hfx⟩ := HS.out.ptr hr2 a1 b1
  obtain ⟨rfl, rfl⟩ : g = gx ∧ cap = capx := by injection ex with e9 _ e8; injection e9 with e9; injection e9 with e9; exact ⟨e9, e8⟩
  clear ex
  go_wp2
  go_region
  all_goals go_wp2
  all_goals go_end0
  all_goals refine ⟨rfl, ?_⟩
  all_goals have h1 := ((HS.out.setNum hr2 k1 (rd me k3)).drew).loseCell
  all_goals have e1 : doM ⟨9, k1, k2, k3, k4⟩ r me = (r.set k1.toNat (rd me k3), me.set k3.toNat (wrap64 (rd me k3 + rd r k1))) := by simp [doM]
  all_goals rw [e1, List.set_comm _ _ hne]
  all_goals exact h1
set_option maxHeartbeats 2000000 in
set_option maxRecDepth 100000 in
theorem do_8 {w W : World} {rows : List Rw} {cells : List (Nat × TypeId × Array Value)} {o : S87} {jr jm : Nat} {vr vm : Value} {r me : List Int} (h : Bag w rows cells W) (hr : rows[jr]? = some (ri 2 vr r)) (hm : rows[jm]? = some (ri 2 vm me))
    (hne : jr ≠ jm) (hk : o.f0 = 8) (hok : OpOK o r.length me.length) :
    Calls Try.prog 85 #[.agg #[.int .i64 o.f0, .int .i64 o.f1, .int .i64 o.f2, .int .i64 o.f3, .int .i64 o.f4], vr, vm] W fun e W' => e = .returned (.tuple #[]) ∧ Bag w ((rows.set jr (ri 2 vr (doM o r me).1)).set jm (ri 2 vm (doM o r me).2)) cells W' := by
  obtain ⟨k0, k1, k2, k3, k4⟩ := o
  simp only at hk
  obtain ⟨hA, hB, hC⟩ := hok
  simp only at hA hB hC
  subst hk
  have hu := Try.underlying87
  have HG := Aside0.mk (h.later (below_alloc (Below.refl _ _) (.cells #[.int .i64 8, .int .i64 k1, .int .i64 k2, .int .i64 k3, .int .i64 k4] 87)))
  clear h
  obtain ⟨a1, b1⟩ := hA (by omega)
  obtain ⟨a2, b2⟩ := hB (by omega)
  obtain ⟨a3, b3⟩ := hC (by omega)
  clear hA hB hC
  obtain ⟨g, cap, rfl, hc1, hf1⟩ := HG.out.ptr hr a1 b1
  obtain ⟨g9, cap9, e9, hc2, hf2⟩ := HG.out.ptr hr a2 b2
  obtain ⟨rfl, rfl⟩ : g = g9 ∧ cap = cap9 := by injection e9 with e9 _ e8; injection e9 with e9; injection e9 with e9; exact ⟨e9, e8⟩
  clear e9
  obtain ⟨g3, cap3, rfl, hc3, hf3⟩ := HG.out.ptr hm a3 b3
  obtain ⟨x, hx⟩ : ∃ x, rd me k3 = x := ⟨_, rfl⟩
  obtain ⟨y, hy⟩ : ∃ y, rd r k1 = y := ⟨_, rfl⟩
  have HX := Aside0.mk hx
  have HY := Aside0.mk hy
  rw [hx] at hc3
  rw [hy] at hc1
  clear hx hy
  by_cases hq : x = y
  · have hqb : (x == y) = true := beq_iff_eq.2 hq
    have HQ := Aside0.mk hq
    clear hq
    go_enter Try.func85, Try.ntmps85
    go_wp2
    go_quiet (fail)
    go_wp2
    go_region
    all_goals go_wp2
    all_goals go_end0
    all_goals refine ⟨rfl, ?_⟩
    all_goals have e1 : doM ⟨8, k1, k2, k3, k4⟩ r me = (r, me.set k3.toNat (rd r k2)) := by simp [doM, HX.out, HY.out, HQ.out]
    all_goals rw [e1]
    all_goals rw [set_same (l := rows) hr]
    all_goals exact (HG.out.drewN _).setNum hm k3 (rd r k2)
  · have hqb : (x == y) = false := beq_eq_false_iff_ne.2 hq
    have HQ := Aside0.mk hq
    clear hq
    go_enter Try.func85, Try.ntmps85
    go_wp2
    go_quiet (fail)
    go_wp2
    go_region
    all_goals go_wp2
    all_goals go_end0
    all_goals refine ⟨rfl, ?_⟩
    all_goals have e1 : doM ⟨8, k1, k2, k3, k4⟩ r me = (r.set k1.toNat (rd me k3), me) := by simp [doM, HX.out, HY.out, HQ.out]
    all_goals rw [e1]
    all_goals rw [set_same (l := rows.set jr _) (by rw [List.getElem?_set_ne hne]; exact hm)]
    all_goals rw [HX.out]
    all_goals exact (HG.out.drewN _).setNum hr k1 x
set_option maxHeartbeats 2000000 in
set_option maxRecDepth 100000 in
theorem do_0 {w W : World} {rows : List Rw} {cells : List (Nat × TypeId × Array Value)} {o : S87} {jr jm : Nat} {vr vm : Value} {r me : List Int} (h : Bag w rows cells W) (hr : rows[jr]? = some (ri 2 vr r)) (hm : rows[jm]? = some (ri 2 vm me))
    (_hne : jr ≠ jm) (hk : o.f0 ≠ 1 ∧ o.f0 ≠ 2 ∧ o.f0 ≠ 3 ∧ o.f0 ≠ 4 ∧ o.f0 ≠ 5 ∧ o.f0 ≠ 7 ∧ o.f0 ≠ 9 ∧ o.f0 ≠ 8) (hok : OpOK o r.length me.length) :
    Calls Try.prog 85 #[.agg #[.int .i64 o.f0, .int .i64 o.f1, .int .i64 o.f2, .int .i64 o.f3, .int .i64 o.f4], vr, vm] W fun e W' => e = .returned (.tuple #[]) ∧ Bag w ((rows.set jr (ri 2 vr (doM o r me).1)).set jm (ri 2 vm (doM o r me).2)) cells W' := by
  obtain ⟨k0, k1, k2, k3, k4⟩ := o
  simp only at hk
  obtain ⟨hA, hB, hC⟩ := hok
  simp only at hA hB hC
  clear hA hB hC
  obtain ⟨n1, n2, n3, n4, n5, n7, n9, n8⟩ := hk
  have e1 : doM ⟨k0, k1, k2, k3, k4⟩ r me = (r, me) := by simp [doM, n1, n2, n3, n4, n5, n7, n9, n8]
  have E1 := Aside0.mk e1
  clear e1
  have hu := Try.underlying87
  have HG := Aside0.mk (h.later (below_alloc (Below.refl _ _) (.cells #[.int .i64 k0, .int .i64 k1, .int .i64 k2, .int .i64 k3, .int .i64 k4] 87)))
  clear h
  have m1 : (k0 == 1) = false := beq_eq_false_iff_ne.2 n1
  have m2 : (k0 == 2) = false := beq_eq_false_iff_ne.2 n2
  have m3 : (k0 == 3) = false := beq_eq_false_iff_ne.2 n3
  have m4 : (k0 == 4) = false := beq_eq_false_iff_ne.2 n4
  have m5 : (k0 == 5) = false := beq_eq_false_iff_ne.2 n5
  have m7 : (k0 == 7) = false := beq_eq_false_iff_ne.2 n7
  have m9 : (k0 == 9) = false := beq_eq_false_iff_ne.2 n9
  have m8 : (k0 == 8) = false := beq_eq_false_iff_ne.2 n8
  clear n1 n2 n3 n4 n5 n7 n9 n8
  go_enter Try.func85, Try.ntmps85
  go_wp2
  go_end0
  refine ⟨rfl, ?_⟩
  rw [E1.out, set_same (l := rows) hr, set_same (l := rows) hm]
  exact HG.out

/-- An instruction, whatever it is. -/
theorem sc_do.calls {w W : World} {rows : List Rw} {cells : List (Nat × TypeId × Array Value)} {o : S87} {jr jm : Nat} {vr vm : Value} {r me : List Int} (h : Bag w rows cells W) (hr : rows[jr]? = some (ri 2 vr r)) (hm : rows[jm]? = some (ri 2 vm me))
    (hne : jr ≠ jm) (hok : OpOK o r.length me.length) :
    Calls Try.prog 85 #[.agg #[.int .i64 o.f0, .int .i64 o.f1, .int .i64 o.f2, .int .i64 o.f3, .int .i64 o.f4], vr, vm] W fun e W' => e = .returned (.tuple #[]) ∧ Bag w ((rows.set jr (ri 2 vr (doM o r me).1)).set jm (ri 2 vm (doM o r me).2)) cells W' := by
  by_cases h1 : o.f0 = 1
  · exact do_1 h hr hm hne h1 hok
  by_cases h2 : o.f0 = 2
  · exact do_2 h hr hm hne h2 hok
  by_cases h3 : o.f0 = 3
  · exact do_3 h hr hm hne h3 hok
  by_cases h4 : o.f0 = 4
  · exact do_4 h hr hm hne h4 hok
  by_cases h5 : o.f0 = 5
  · exact do_5 h hr hm hne h5 hok
  by_cases h7 : o.f0 = 7
  · exact do_7 h hr hm hne h7 hok
  by_cases h9 : o.f0 = 9
  · exact do_9 h hr hm hne h9 hok
  by_cases h8 : o.f0 = 8
  · exact do_8 h hr hm hne h8 hok
  exact do_0 h hr hm hne ⟨h1, h2, h3, h4, h5, h7, h9, h8⟩ hok
end Go.Proofs.Ytemhpbdlonfikaa.P
