/- A final state's values, put one behind the other into an array in memory. -/
import Derived.Test.YtemhpbdlonfikaaTurn
namespace Go.Proofs.Ytemhpbdlonfikaa.P
open Go Go.RowKit Go.Proofs.YtemhpbdlonfikaaW.PrintWords Go.Proofs.YtemhpbdlonfikaaW.PrintLast Go.Proofs.YtemhpbdlonfikaaW.PrintMore

section
variable {w W : World} {rows : List Rw} {cells : List (Nat × TypeId × Array Value)}
theorem heap_set {W : World} {g i : Nat} {vs : Array Value} {u : Value} {t : TypeId} (h : W.heap[g]? = some (.cells vs t (0, 0))) : (W.setCell ⟨g, i, none⟩ u).heap[g]? = some (.cells (vs.setIfInBounds i u) t (0, 0)) := by
  obtain ⟨hb, he⟩ := Array.getElem?_eq_some_iff.1 h
  unfold World.setCell
  simp [Array.getElem?_modify, h]
theorem Bag.setCell {g i : Nat} {t : TypeId} {vs : Array Value} (h : Bag w rows ((g, t, vs) :: cells) W) (hne : ∀ c ∈ cells, c.1 ≠ g) (u : Value) :
    Bag w rows ((g, t, vs.setIfInBounds i u) :: cells) (W.setCell ⟨g, i, none⟩ u) := by
  have hc := h.cell (g, t, vs) (by simp)
  have hg : W.grownBy (W.setCell ⟨g, i, none⟩ u) (some g) := ⟨rfl, rfl, rfl, by unfold World.setCell; simp, fun k hk hne => by
    unfold World.setCell
    simp only [Array.getElem?_modify]
    rw [if_neg (fun e => hne (by rw [← e]))]⟩
  refine ⟨fun j r hj => ?_, h.apart, fun c hcc => ?_, fun c hcc j r hj => ?_, h.below.grown hg h.below.size (fun k e => by cases e; exact hc.1)⟩
  · refine (h.row j r hj).kept hg ?_
    cases hq : r.v.ownBlock with
    | none => exact .inl rfl
    | some k => exact .inr fun e => h.away (g, t, vs) (by simp) j r hj (by rw [hq, ← e])
  · rcases List.mem_cons.1 hcc with rfl | hcc
    · exact ⟨hc.1, heap_set hc.2⟩
    · refine ⟨(h.cell c (by simp [hcc])).1, ?_⟩
      exact (hg.block c.1 (h.cell_lt (by simp [hcc])) (fun e => hne c hcc (Option.some.inj e))).trans (h.cell c (by simp [hcc])).2
  · rcases List.mem_cons.1 hcc with rfl | hcc
    · exact h.away (g, t, vs) (by simp) j r hj
    · exact h.away c (by simp [hcc]) j r hj
/-- A whole block is stored. -/
theorem Bag.setAll {g : Nat} {t : TypeId} {vs vs' : Array Value} (h : Bag w rows ((g, t, vs) :: cells) W) (hne : ∀ c ∈ cells, c.1 ≠ g) :
    Bag w rows ((g, t, vs') :: cells) (W.setRow g vs') := by
  have hc := h.cell (g, t, vs) (by simp)
  have hh : (W.setRow g vs').heap[g]? = some (.cells vs' t (0, 0)) := setRow_heap W g vs _ t _ hc.2
  have hg : W.grownBy (W.setRow g vs') (some g) := ⟨rfl, rfl, rfl, by unfold World.setRow; simp, fun k hk hne => by
    unfold World.setRow
    simp only [Array.getElem?_modify]
    rw [if_neg (fun e => hne (by rw [← e]))]⟩
  refine ⟨fun j r hj => ?_, h.apart, fun c hcc => ?_, fun c hcc j r hj => ?_, h.below.grown hg h.below.size (fun k e => by cases e; exact hc.1)⟩
  · refine (h.row j r hj).kept hg ?_
    cases hq : r.v.ownBlock with
    | none => exact .inl rfl
    | some k => exact .inr fun e => h.away (g, t, vs) (by simp) j r hj (by rw [hq, ← e])
  · rcases List.mem_cons.1 hcc with rfl | hcc
    · exact ⟨hc.1, hh⟩
    · refine ⟨(h.cell c (by simp [hcc])).1, ?_⟩
      exact (hg.block c.1 (h.cell_lt (by simp [hcc])) (fun e => hne c hcc (Option.some.inj e))).trans (h.cell c (by simp [hcc])).2
  · rcases List.mem_cons.1 hcc with rfl | hcc
    · exact h.away (g, t, vs) (by simp) j r hj
    · exact h.away c (by simp [hcc]) j r hj
theorem Bag.perm {cells' : List (Nat × TypeId × Array Value)} (h : Bag w rows cells W) (hs : ∀ c ∈ cells', c ∈ cells) : Bag w rows cells' W :=
  ⟨h.row, h.apart, fun c hc => h.cell c (hs c hc), fun c hc => h.away c (hs c hc), h.below⟩
end

/-- One value more; no more than 48. -/
def putL (l : List Int) (x : Int) : List Int := if l.length = 48 then l else l ++ [x]
def putAll (l : List Int) (xs : List Int) : List Int := xs.foldl putL l
/-- A final state's cells. -/
def finV (l : List Int) : List Value := .int .i64 l.length :: nums .i64 (l ++ List.replicate (48 - l.length) 0)
theorem finV_length {l : List Int} (h : l.length ≤ 48) : (finV l).length = 49 := by simp [finV, nums]; omega
theorem putL_le {l : List Int} {x : Int} (h : l.length ≤ 48) : (putL l x).length ≤ 48 := by
  unfold putL
  split
  · exact h
  · simp; omega
theorem putAll_le {l : List Int} (xs : List Int) : l.length ≤ 48 → (putAll l xs).length ≤ 48 := by
  induction xs generalizing l with
  | nil => exact fun h => h
  | cons x xs ih => exact fun h => ih (putL_le h)
theorem info32 : (Try.prog.info? 32).map (·.size) = some 49 := by kernel_rfl
theorem finV_one (l : List Int) : (finV l).toArray.all (·.oneCell') = true := by
  rw [List.all_toArray]
  refine List.all_eq_true.2 fun v hv => ?_
  unfold finV at hv
  rcases List.mem_cons.1 hv with rfl | hv
  · rfl
  · obtain ⟨x, _, rfl⟩ := List.mem_map.1 hv
    rfl
theorem finV_size {l : List Int} (h : l.length ≤ 48) : (Try.prog.info? 32).map (·.size) = some (finV l).toArray.size := by rw [info32, List.size_toArray, finV_length h]
theorem finV_at0 (l : List Int) : (finV l).toArray[0]? = some (.int .i64 l.length) := rfl
/-- The value that is put, then the count. -/
theorem finV_put {l : List Int} (h : l.length < 48) (x : Int) : ((finV l).toArray.setIfInBounds (1 + l.length) (.int .i64 x)).setIfInBounds 0 (.int .i64 ((l.length : Int) + 1)) = (finV (l ++ [x])).toArray := by
  have e : List.replicate (48 - l.length) (0 : Int) = 0 :: List.replicate (48 - (l.length + 1)) 0 := by
    rw [show 48 - l.length = (48 - (l.length + 1)) + 1 by omega]; rfl
  unfold finV
  rw [e]
  simp only [List.setIfInBounds_toArray, Nat.add_comm 1, List.set_cons_succ, List.set_cons_zero, nums, List.length_append, List.length_singleton]
  congr 2
  simp [List.map_append]
theorem finV_put0 {l : List Int} (h : l.length < 48) : (finV l).toArray.setIfInBounds 0 (.int .i64 ((l.length : Int) + 1)) = (finV (l ++ [0])).toArray := by
  have e : List.replicate (48 - l.length) (0 : Int) = 0 :: List.replicate (48 - (l.length + 1)) 0 := by
    rw [show 48 - l.length = (48 - (l.length + 1)) + 1 by omega]; rfl
  unfold finV
  rw [e]
  simp only [List.setIfInBounds_toArray, List.set_cons_zero, nums, List.length_append, List.length_singleton]
  congr 2
  simp [List.map_append]

set_option maxHeartbeats 2000000 in
set_option maxRecDepth 100000 in
theorem final_put.calls {w W : World} {rows : List Rw} {cells : List (Nat × TypeId × Array Value)} {g : Nat} {l : List Int} (hb : Bag w rows ((g, 32, (finV l).toArray) :: cells) W) (hne : ∀ c ∈ cells, c.1 ≠ g) (hl : l.length ≤ 48)
    {A : Option Addr} {c : Nat} {r : List Int} {i : Int} (hr : Kd.C (Kd.int .i64) W A r.length r) (hi : 0 ≤ i) :
    Calls Try.prog 108 #[.slice A r.length c, .int .i64 i, .pointer (some ⟨g, 0, none⟩)] W fun e W' => e = .returned (.tuple #[]) ∧ Bag w rows ((g, 32, (finV (putL l (rd r i))).toArray) :: cells) W' := by
  have hu32 := Try.underlying32
  have hu30 := Try.underlying30
  obtain ⟨c0, f0⟩ := hb.cellOf (c := (g, 32, (finV l).toArray)) (List.mem_cons_self) 0 _ (finV_at0 l)
  have HB := Aside0.mk hb
  have HR := Aside0.mk hr
  clear hb hr
  obtain ⟨n, hn⟩ : ∃ n : Nat, l.length = n := ⟨_, rfl⟩
  rw [hn] at c0 hl
  have HN := Aside0.mk hn
  clear hn
  by_cases h48 : n = 48
  · have hq : ((n : Int) == 48) = true := beq_iff_eq.2 (by omega)
    go_enter Try.func108, Try.ntmps108
    go_wp2
    (try simp only [Exit.inBlock, Exit.then])
    refine bodyPost_ret (results_none rfl _ _ _) rfl ?_
    refine ⟨rfl, ?_⟩
    unfold putL
    rw [if_pos (by rw [HN.out]; exact h48)]
    exact HB.out
  · have hq : ((n : Int) == 48) = false := beq_eq_false_iff_ne.2 (by omega)
    have hlt : (n : Int) < 48 := by omega
    have hP : Aside0 (putL l (rd r i) = l ++ [rd r i]) := ⟨by unfold putL; rw [if_neg (by rw [HN.out]; exact h48)]⟩
    have hL : Aside0 (l.length < 48) := ⟨by rw [HN.out]; omega⟩
    have hw : wrap64 ((n : Int) + 1) = n + 1 := by unfold wrap64; omega
    by_cases hir : i < r.length
    · have hd : decide (i < (r.length : Int)) = true := decide_eq_true hir
      obtain ⟨ad, rfl, hx⟩ := Kd.at_int HR.out i hi hir
      have hv : W.cell? ⟨g, 1 + n, none⟩ = some (.int .i64 0) := by
        rw [← HN.out]
        refine (HB.out.cellOf (c := (g, 32, (finV l).toArray)) (List.mem_cons_self) (1 + l.length) _ ?_).1
        have := hL.out
        simp only [finV, List.getElem?_toArray, Nat.add_comm 1, List.getElem?_cons_succ, nums, List.getElem?_map]
        rw [List.getElem?_append_right (Nat.le_refl _), Nat.sub_self, List.getElem?_replicate, if_pos (by omega)]
        rfl
      have fv : W.frozen? ⟨g, 1 + n, none⟩ = false := by simp [World.frozen?, (HB.out.cell _ (List.mem_cons_self)).2]
      go_enter Try.func108, Try.ntmps108
      go_wp2
      go_region
      all_goals go_wp2
      all_goals go_end0
      refine ⟨rfl, ?_⟩
      have h1 := ((HB.out.setCell (i := 1 + l.length) hne (.int .i64 (rd r i))).setCell (i := 0) hne (.int .i64 ((l.length : Int) + 1))).drew
      rw [finV_put hL.out, ← hP.out, HN.out] at h1
      exact h1
    · have hd : decide (i < (r.length : Int)) = false := decide_eq_false hir
      go_enter Try.func108, Try.ntmps108
      go_wp2
      go_end0
      refine ⟨rfl, ?_⟩
      have h1 := HB.out.setCell (i := 0) hne (.int .i64 ((l.length : Int) + 1))
      have hz : rd r i = 0 := by unfold rd; rw [List.getD_eq_getElem?_getD, List.getElem?_eq_none (by omega)]; rfl
      have hP2 := hP.out
      rw [hz] at hP2 ⊢
      rw [finV_put0 hL.out, ← hP2, HN.out] at h1
      exact h1
end Go.Proofs.Ytemhpbdlonfikaa.P
