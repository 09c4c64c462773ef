-- Printed by xprint.py, a program of this session over the kit's printer.
import Derived.Test.YtgooppfeikijeaaP0
import Derived.Test.YtgooppfeikijeaaP2
namespace Go.Proofs.Ytgooppfeikijeaa.P
open Go.RowKit Go.Proofs.YtgooppfeikijeaaW.PrintWords Go.Proofs.YtgooppfeikijeaaW.PrintLast Go.Proofs.YtgooppfeikijeaaW.PrintMore
attribute [local go_sem] max2_int min2_int max_two min_two max_three min_three max_four min_four   -- for this text's walks alone

/-! ### weirref11_Copy: function 4 -/
def weirref11_Copy.l0 : Nat → Int → List Int → List Int → List (List Int) → List Int → List (List (S37)) → Int → List Int → List Int → List (List Int) → List Int → List (List (S37)) → Int → Option (List Int × List Int × (List (List Int)) × List Int × (List (List (S37))) × Int)
 | 0, _, _, _, _, _, _, _, _, _, _, _, _, _ => none
 | k + 1, x4, x112000, x112001, x112002, x112003, x112004, x112005, x135000, x135001, x135002, x135003, x135004, x135005 => if x4 < (x112004.length : Int) then ((some (([] : List (S37)) : List (S37))).bind fun y135 => (if 0 ≤ x4 then (if y135.length + (rd_L3 x112004 x4).length < 8796093022208 then (if x135004.length < 5864062014805 then (weirref11_Copy.l0 k (wrap64 (x4 + 1)) x112000 x112001 x112002 x112003 x112004 x112005 x135000 x135001 x135002 x135003 (x135004 ++ [(y135 ++ (rd_L3 x112004 x4))]) x135005) else (none)) else (none)) else (none))) else (some (x135000, x135001, x135002, x135003, x135004, x135005))
def weirref11_Copy.f (k : Nat) (l0_0 : List Int) (l0_1 : List Int) (l0_2 : List (List Int)) (l0_3 : List Int) (l0_4 : List (List (S37))) (a0_5 : Int) : Option (List Int × List Int × (List (List Int)) × List Int × (List (List (S37))) × Int) := (some (([] : List Int) : List Int)).bind fun y113 => (if y113.length + l0_0.length < 17592186044416 then ((some (([] : List Int) : List Int)).bind fun y119 => (if y119.length + l0_1.length < 17592186044416 then ((weirref09_Copy.f k l0_2).bind fun t125 => ((some (([] : List Int) : List Int)).bind fun y128 => (if y128.length + l0_3.length < 17592186044416 then (weirref11_Copy.l0 k 0 l0_0 l0_1 l0_2 l0_3 l0_4 a0_5 (y113 ++ l0_0) (y119 ++ l0_1) t125 (y128 ++ l0_3) ([] : List (List (S37))) a0_5) else (none)))) else (none))) else (none))
theorem weirref11_Copy.mono_l : ∀ k, (∀ y0 y1 y2 y3 y4 y5 y6 y7 y8 y9 y10 y11 y12, LeO (weirref11_Copy.l0 k y0 y1 y2 y3 y4 y5 y6 y7 y8 y9 y10 y11 y12) (weirref11_Copy.l0 (k + 1) y0 y1 y2 y3 y4 y5 y6 y7 y8 y9 y10 y11 y12))
 | 0 => fun _ _ _ _ _ _ _ _ _ _ _ _ _ r h => by simp [weirref11_Copy.l0] at h
 | k + 1 => by
  have ih0 := weirref11_Copy.mono_l k
  ·
   intro y0 y1 y2 y3 y4 y5 y6 y7 y8 y9 y10 y11 y12
   unfold weirref11_Copy.l0
   repeat' first
   | (with_reducible exact ih0 _ _ _ _ _ _ _ _ _ _ _ _ _)
   | (with_reducible exact weirref09_Copy.mono _ _)
   | (with_reducible exact LeO.refl _)
   | (with_reducible exact LeO.none _)
   | (with_reducible refine LeO.ite ?_ ?_)
   | (with_reducible refine LeO.bind ?_ (fun _ => ?_))
   | exact ih0 _ _ _ _ _ _ _ _ _ _ _ _ _
   | exact weirref09_Copy.mono _ _
   | exact LeO.none _
   | refine LeO.ite ?_ ?_
   | refine LeO.bind ?_ (fun _ => ?_)
theorem weirref11_Copy.mono : ∀ a0 a1 a2 a3 a4 a5 k, LeO (weirref11_Copy.f k a0 a1 a2 a3 a4 a5) (weirref11_Copy.f (k + 1) a0 a1 a2 a3 a4 a5) := by
 intro a0 a1 a2 a3 a4 a5 k
 have ih0 := weirref11_Copy.mono_l k
 unfold weirref11_Copy.f
 repeat' first
   | (with_reducible exact ih0 _ _ _ _ _ _ _ _ _ _ _ _ _)
   | (with_reducible exact weirref09_Copy.mono _ _)
   | (with_reducible exact LeO.refl _)
   | (with_reducible exact LeO.none _)
   | (with_reducible refine LeO.ite ?_ ?_)
   | (with_reducible refine LeO.bind ?_ (fun _ => ?_))
   | exact ih0 _ _ _ _ _ _ _ _ _ _ _ _ _
   | exact weirref09_Copy.mono _ _
   | exact LeO.none _
   | refine LeO.ite ?_ ?_
   | refine LeO.bind ?_ (fun _ => ?_)
def weirref11_Copy.T1 : Bool × List (List Nat × List Nat) := (true, [([], []), ([], []), ([1], [1]), ([0, 2], [0, 2]), ([], []), ([], []), ([5], [5]), ([4, 6, 3], [4, 6]), ([], []), ([8], [8]), ([9, 7], [9]), ([], []), ([], []), ([12], [12]), ([11, 13, 10], [11, 13]), ([], []), ([15], [15]), ([3, 7, 10, 14, 16], [3, 7, 10, 14, 16]), ([], []), ([18, 17, 14, 0, 1, 2, 3, 4, 5, 6, 7, 8, 9, 10, 11, 12, 13, 14, 15, 16, 17, 18], [17, 18])])
def weirref11_Copy.B1 : List Nat := [0, 0, 2, 7, 0, 0, 32, 127, 0, 256, 1023, 0, 0, 4096, 16383, 0, 32768, 131071, 0, 524287]
theorem weirref11_Copy.tab1 : rtab .any (opsOf Try.f4 1) = weirref11_Copy.T1 := by kernel_rfl
theorem weirref11_Copy.bits1 : waitsOk weirref11_Copy.T1.2 weirref11_Copy.B1 = true := by kernel_rfl
def weirref11_Copy.T5 : Bool × List (List Nat × List Nat) := (true, [([], []), ([0], [0]), ([], []), ([], []), ([3], [3]), ([], []), ([4, 5], [4, 5]), ([6], [6]), ([2, 7], [2, 7]), ([8], [8]), ([1, 9, 8], [1, 9]), ([0, 1, 2, 3, 4, 5, 6, 7, 8, 9, 10], []), ([11, 10, 10, 0, 1, 2, 3, 4, 5, 6, 7, 8, 9, 10], [10, 11])])
def weirref11_Copy.B5 : List Nat := [0, 1, 0, 0, 8, 0, 56, 120, 252, 508, 1023, 2047, 4095]
theorem weirref11_Copy.tab5 : rtab .any (opsOf Try.f4 5) = weirref11_Copy.T5 := by kernel_rfl
theorem weirref11_Copy.bits5 : waitsOk weirref11_Copy.T5.2 weirref11_Copy.B5 = true := by kernel_rfl
set_option maxHeartbeats 8000000 in
set_option maxRecDepth 100000 in
theorem weirref11_Copy.calls (k : Nat) (A0_0 : Option Addr) (c0_0 : Nat) (l0_0 : List Int) (A0_1 : Option Addr) (c0_1 : Nat) (l0_1 : List Int) (A0_2 : Option Addr) (c0_2 : Nat) (l0_2 : List (List Int)) (A0_3 : Option Addr) (c0_3 : Nat) (l0_3 : List Int) (A0_4 : Option Addr) (c0_4 : Nat) (l0_4 : List (List (S37))) (a0_5 : Int) (r1 : List Int) (r2 : List Int) (r3 : List (List Int)) (r4 : List Int) (r5 : List (List (S37))) (r6 : Int) (w : World) (hr0_0 : Kd.C (Kd.int .i64) w A0_0 l0_0.length l0_0) (hc0_0 : l0_0.length ≤ c0_0) (hr0_1 : Kd.C (Kd.int .i64) w A0_1 l0_1.length l0_1) (hc0_1 : l0_1.length ≤ c0_1) (hr0_2 : Kd.C (Kd.slice 2 (Kd.int .i64)) w A0_2 l0_2.length l0_2) (hc0_2 : l0_2.length ≤ c0_2) (hr0_3 : Kd.C (Kd.int .i64) w A0_3 l0_3.length l0_3) (hc0_3 : l0_3.length ≤ c0_3) (hr0_4 : Kd.C (Kd.slice 37 k37) w A0_4 l0_4.length l0_4) (hc0_4 : l0_4.length ≤ c0_4) (h : weirref11_Copy.f k l0_0 l0_1 l0_2 l0_3 l0_4 a0_5 = some (r1, r2, r3, r4, r5, r6)) :
  Calls Try.prog 4 #[.agg #[.slice A0_0 l0_0.length c0_0, .slice A0_1 l0_1.length c0_1, .slice A0_2 l0_2.length c0_2, .slice A0_3 l0_3.length c0_3, .slice A0_4 l0_4.length c0_4, .int .i64 a0_5]] w fun e w' => ∃ v0_ v1_ v2_ v3_ v4_ : Value, e = .returned (.agg #[v0_, v1_, v2_, v3_, v4_, .int .i64 r6]) ∧ Kd.R (Kd.int .i64) 3 w' w.heap.size (fun k_ => some k_ ≠ (v1_ : Value).ownBlock) v0_ r1 ∧ Kd.R (Kd.int .i64) 3 w' w.heap.size (fun k_ => some k_ ≠ (v0_ : Value).ownBlock) v1_ r2 ∧ Kd.S (Kd.slice 2 (Kd.int .i64)) 24 w' w.heap.size (fun k_ => some k_ ≠ (v3_ : Value).ownBlock) v2_ r3 ∧ Kd.R (Kd.int .i64) 2 w' w.heap.size (fun _ => True) v3_ r4 ∧ Kd.S (Kd.slice 37 k37) 32 w' w.heap.size (fun _ => True) v4_ r5 ∧ Below w.heap.size w w' := by
 have hu27 := Try.underlying27
 have HR0_0 := Aside0.mk hr0_0
 have HC0_0 := Aside0.mk hc0_0
 clear hr0_0 hc0_0
 have HR0_1 := Aside0.mk hr0_1
 have HC0_1 := Aside0.mk hc0_1
 clear hr0_1 hc0_1
 have HR0_2 := Aside0.mk hr0_2
 have HC0_2 := Aside0.mk hc0_2
 clear hr0_2 hc0_2
 have HR0_3 := Aside0.mk hr0_3
 have HC0_3 := Aside0.mk hc0_3
 clear hr0_3 hc0_3
 have HR0_4 := Aside0.mk hr0_4
 have HC0_4 := Aside0.mk hc0_4
 clear hr0_4 hc0_4
 have HB := Aside0.mk (Below.refl w.heap.size w)
 have H : ((some (([] : List Int) : List Int)).bind fun y113 => (if y113.length + l0_0.length < 17592186044416 then ((some (([] : List Int) : List Int)).bind fun y119 => (if y119.length + l0_1.length < 17592186044416 then ((weirref09_Copy.f k l0_2).bind fun t125 => ((some (([] : List Int) : List Int)).bind fun y128 => (if y128.length + l0_3.length < 17592186044416 then (weirref11_Copy.l0 k 0 l0_0 l0_1 l0_2 l0_3 l0_4 a0_5 (y113 ++ l0_0) (y119 ++ l0_1) t125 (y128 ++ l0_3) ([] : List (List (S37))) a0_5) else (none)))) else (none))) else (none))) = some (r1, r2, r3, r4, r5, r6) := h
 clear h
 obtain ⟨y113, hy113⟩ : ∃ y_ : List Int, y_ = (([] : List Int)) := ⟨_, rfl⟩
 replace H : (if y113.length + l0_0.length < 17592186044416 then ((some (([] : List Int) : List Int)).bind fun y119 => (if y119.length + l0_1.length < 17592186044416 then ((weirref09_Copy.f k l0_2).bind fun t125 => ((some (([] : List Int) : List Int)).bind fun y128 => (if y128.length + l0_3.length < 17592186044416 then (weirref11_Copy.l0 k 0 l0_0 l0_1 l0_2 l0_3 l0_4 a0_5 (y113 ++ l0_0) (y119 ++ l0_1) t125 (y128 ++ l0_3) ([] : List (List (S37))) a0_5) else (none)))) else (none))) else (none)) = some (r1, r2, r3, r4, r5, r6) := by first | (rw [hy113]; with_reducible exact H) | (have H2_ := (Option.bind_some _ _).symm.trans H; rw [hy113]; with_reducible exact H2_) | (have H2_ := (Option.bind_some _ _).symm.trans H; with_reducible exact H2_) | with_reducible exact H | (rw [hy113]; exact H) | exact H
 have Ny113 := Aside0.mk hy113
 clear hy113
 by_cases c2 : y113.length + l0_0.length < 17592186044416
 ·
  rw [if_pos c2] at H
  have LMc2 := Aside0.mk c2
  clear c2
  obtain ⟨y116, hy116⟩ : ∃ y_ : List Int, y_ = (y113 ++ l0_0) := ⟨_, rfl⟩
  replace H : ((some (([] : List Int) : List Int)).bind fun y119 => (if y119.length + l0_1.length < 17592186044416 then ((weirref09_Copy.f k l0_2).bind fun t125 => ((some (([] : List Int) : List Int)).bind fun y128 => (if y128.length + l0_3.length < 17592186044416 then (weirref11_Copy.l0 k 0 l0_0 l0_1 l0_2 l0_3 l0_4 a0_5 y116 (y119 ++ l0_1) t125 (y128 ++ l0_3) ([] : List (List (S37))) a0_5) else (none)))) else (none))) = some (r1, r2, r3, r4, r5, r6) := by first | (rw [hy116]; with_reducible exact H) | (have H2_ := (Option.bind_some _ _).symm.trans H; rw [hy116]; with_reducible exact H2_) | (have H2_ := (Option.bind_some _ _).symm.trans H; with_reducible exact H2_) | with_reducible exact H | (rw [hy116]; exact H) | exact H
  have Ny116 := Aside0.mk hy116
  clear hy116
  obtain ⟨y119, hy119⟩ : ∃ y_ : List Int, y_ = (([] : List Int)) := ⟨_, rfl⟩
  replace H : (if y119.length + l0_1.length < 17592186044416 then ((weirref09_Copy.f k l0_2).bind fun t125 => ((some (([] : List Int) : List Int)).bind fun y128 => (if y128.length + l0_3.length < 17592186044416 then (weirref11_Copy.l0 k 0 l0_0 l0_1 l0_2 l0_3 l0_4 a0_5 y116 (y119 ++ l0_1) t125 (y128 ++ l0_3) ([] : List (List (S37))) a0_5) else (none)))) else (none)) = some (r1, r2, r3, r4, r5, r6) := by first | (rw [hy119]; with_reducible exact H) | (have H2_ := (Option.bind_some _ _).symm.trans H; rw [hy119]; with_reducible exact H2_) | (have H2_ := (Option.bind_some _ _).symm.trans H; with_reducible exact H2_) | with_reducible exact H | (rw [hy119]; exact H) | exact H
  have Ny119 := Aside0.mk hy119
  clear hy119
  by_cases c3 : y119.length + l0_1.length < 17592186044416
  ·
   rw [if_pos c3] at H
   have LMc3 := Aside0.mk c3
   clear c3
   obtain ⟨y122, hy122⟩ : ∃ y_ : List Int, y_ = (y119 ++ l0_1) := ⟨_, rfl⟩
   replace H : ((weirref09_Copy.f k l0_2).bind fun t125 => ((some (([] : List Int) : List Int)).bind fun y128 => (if y128.length + l0_3.length < 17592186044416 then (weirref11_Copy.l0 k 0 l0_0 l0_1 l0_2 l0_3 l0_4 a0_5 y116 y122 t125 (y128 ++ l0_3) ([] : List (List (S37))) a0_5) else (none)))) = some (r1, r2, r3, r4, r5, r6) := by first | (rw [hy122]; with_reducible exact H) | (have H2_ := (Option.bind_some _ _).symm.trans H; rw [hy122]; with_reducible exact H2_) | (have H2_ := (Option.bind_some _ _).symm.trans H; with_reducible exact H2_) | with_reducible exact H | (rw [hy122]; exact H) | exact H
   have Ny122 := Aside0.mk hy122
   clear hy122
   replace H := Option.bind_eq_some_iff.mp H
   obtain ⟨t125, A40, H⟩ := H
   replace H : ((some (([] : List Int) : List Int)).bind fun y128 => (if y128.length + l0_3.length < 17592186044416 then (weirref11_Copy.l0 k 0 l0_0 l0_1 l0_2 l0_3 l0_4 a0_5 y116 y122 t125 (y128 ++ l0_3) ([] : List (List (S37))) a0_5) else (none))) = some (r1, r2, r3, r4, r5, r6) := H
   have A4 := Aside0.mk A40
   clear A40
   obtain ⟨y128, hy128⟩ : ∃ y_ : List Int, y_ = (([] : List Int)) := ⟨_, rfl⟩
   replace H : (if y128.length + l0_3.length < 17592186044416 then (weirref11_Copy.l0 k 0 l0_0 l0_1 l0_2 l0_3 l0_4 a0_5 y116 y122 t125 (y128 ++ l0_3) ([] : List (List (S37))) a0_5) else (none)) = some (r1, r2, r3, r4, r5, r6) := by first | (rw [hy128]; with_reducible exact H) | (have H2_ := (Option.bind_some _ _).symm.trans H; rw [hy128]; with_reducible exact H2_) | (have H2_ := (Option.bind_some _ _).symm.trans H; with_reducible exact H2_) | with_reducible exact H | (rw [hy128]; exact H) | exact H
   have Ny128 := Aside0.mk hy128
   clear hy128
   by_cases c5 : y128.length + l0_3.length < 17592186044416
   ·
    rw [if_pos c5] at H
    have LMc5 := Aside0.mk c5
    clear c5
    obtain ⟨y131, hy131⟩ : ∃ y_ : List Int, y_ = (y128 ++ l0_3) := ⟨_, rfl⟩
    replace H : (weirref11_Copy.l0 k 0 l0_0 l0_1 l0_2 l0_3 l0_4 a0_5 y116 y122 t125 y131 ([] : List (List (S37))) a0_5) = some (r1, r2, r3, r4, r5, r6) := by first | (rw [hy131]; with_reducible exact H) | (have H2_ := (Option.bind_some _ _).symm.trans H; rw [hy131]; with_reducible exact H2_) | (have H2_ := (Option.bind_some _ _).symm.trans H; with_reducible exact H2_) | with_reducible exact H | (rw [hy131]; exact H) | exact H
    have Ny131 := Aside0.mk hy131
    clear hy131
    have H' := Aside0.mk H
    clear H
    go_enter Try.func4, Try.ntmps4
    try go_wp2_with (first | ((with_reducible refine gate_dst (N := 1) rfl ?_); refine box_event ?hg (N := 1) ?hd (cs := #[.slice A0_0 l0_0.length c0_0, .slice A0_1 l0_1.length c0_1, .slice A0_2 l0_2.length c0_2, .slice A0_3 l0_3.length c0_3, .slice A0_4 l0_4.length c0_4, .int .i64 a0_5]) (t := 27) ?hr ?_; (case hd => rfl); (case hg => rfl); (case hr => first | (go_simp; done) | (go_simp; rfl)); intro gb111 hg w6 hbox hb; have n0_ := Aside0.mk (below_step (by repeat (first | (with_reducible first | exact HB.out | apply below_alloc | apply pw_below_drewN | apply below_drew1) | exact HB.out)) hb); have n1_ := Aside0.mk (hbox); have n2_ := Aside0.mk ((by rw [hg]; exact (below_size (by repeat (first | (with_reducible first | exact HB.out | apply below_alloc | apply pw_below_drewN | apply below_drew1) | exact HB.out))) : w.heap.size ≤ gb111)); have n3_ := Aside0.mk ((by rw [hg]; exact (below_size (by repeat (first | (with_reducible first | exact HB.out | apply below_alloc | apply pw_below_drewN | apply below_drew1) | exact HB.out))) : w.heap.size ≤ gb111)); clear HB; have HB := n0_; have BK111 := n1_; have GW111 := n2_; have GE111 := n3_; clear n0_ n1_ n2_ n3_; clear hb hbox hg) | ((with_reducible refine gate_dst (N := 2) rfl ?_); refine box_event ?hg (N := 2) ?hd (cs := #[.slice none 0 0, .slice none 0 0, .slice none 0 0, .slice none 0 0, .slice none 0 0, .int .i64 0]) (t := 27) ?hr ?_; (case hd => rfl); (case hg => rfl); (case hr => first | (go_simp; done) | (go_simp; rfl)); intro gb112 hg w7 hbox hb; have n0_ := Aside0.mk (blk_below (g := gb111) (o := .cells #[.slice A0_0 l0_0.length c0_0, .slice A0_1 l0_1.length c0_1, .slice A0_2 l0_2.length c0_2, .slice A0_3 l0_3.length c0_3, .slice A0_4 l0_4.length c0_4, .int .i64 a0_5] 27 (0, 0)) (by (with_reducible repeat (first | refine blk_drewN ?_ _ | refine blk_drew ?_ | refine blk_alloc ?_ _)); exact BK111.out) hb); have n1_ := Aside0.mk (below_step (by repeat (first | (with_reducible first | exact HB.out | apply below_alloc | apply pw_below_drewN | apply below_drew1 | refine below_set ?_ GE111.out) | exact HB.out)) hb); have n2_ := Aside0.mk (hbox); have n3_ := Aside0.mk ((by rw [hg]; exact (below_size (by repeat (first | (with_reducible first | exact HB.out | apply below_alloc | apply pw_below_drewN | apply below_drew1 | refine below_set ?_ GE111.out) | exact HB.out))) : w.heap.size ≤ gb112)); have n4_ := Aside0.mk ((by rw [hg]; exact (below_size (by repeat (first | (with_reducible first | exact HB.out | apply below_alloc | apply pw_below_drewN | apply below_drew1 | refine below_set ?_ GE111.out) | exact HB.out))) : w.heap.size ≤ gb112)); have n5_ := Aside0.mk ((by rw [hg]; exact Nat.ne_of_lt (blk_lt (g := gb111) (o := .cells #[.slice A0_0 l0_0.length c0_0, .slice A0_1 l0_1.length c0_1, .slice A0_2 l0_2.length c0_2, .slice A0_3 l0_3.length c0_3, .slice A0_4 l0_4.length c0_4, .int .i64 a0_5] 27 (0, 0)) (by (with_reducible repeat (first | refine blk_drewN ?_ _ | refine blk_drew ?_ | refine blk_alloc ?_ _)); exact BK111.out)) : gb111 ≠ gb112)); have n6_ := Aside0.mk ((by rw [hg]; exact Nat.ne_of_gt (blk_lt (g := gb111) (o := .cells #[.slice A0_0 l0_0.length c0_0, .slice A0_1 l0_1.length c0_1, .slice A0_2 l0_2.length c0_2, .slice A0_3 l0_3.length c0_3, .slice A0_4 l0_4.length c0_4, .int .i64 a0_5] 27 (0, 0)) (by (with_reducible repeat (first | refine blk_drewN ?_ _ | refine blk_drew ?_ | refine blk_alloc ?_ _)); exact BK111.out)) : gb112 ≠ gb111)); clear BK111; clear HB; have BK111 := n0_; have HB := n1_; have BK112 := n2_; have GW112 := n3_; have GE112 := n4_; have NB111_112 := n5_; have NB112_111 := n6_; clear n0_ n1_ n2_ n3_ n4_ n5_ n6_; clear hb hbox hg))
    have n0_ := Aside0.mk (blk_drew BK111.out)
    have n1_ := Aside0.mk (blk_drew BK112.out)
    have n2_ := Aside0.mk (below_drew1 HB.out)
    clear BK111
    clear BK112
    clear HB
    have BK111 := n0_
    have BK112 := n1_
    have HB := n2_
    clear n0_ n1_ n2_
    refine start_ (n := 20) (S := fun w' => w'.cell? ⟨gb111, 0, none⟩ = some (.slice A0_0 l0_0.length c0_0) ∧ w'.cell? ⟨gb111, 1, none⟩ = some (.slice A0_1 l0_1.length c0_1) ∧ w'.cell? ⟨gb111, 2, none⟩ = some (.slice A0_2 l0_2.length c0_2) ∧ w'.cell? ⟨gb111, 3, none⟩ = some (.slice A0_3 l0_3.length c0_3) ∧ w'.cell? ⟨gb111, 4, none⟩ = some (.slice A0_4 l0_4.length c0_4) ∧ w'.cell? ⟨gb111, 5, none⟩ = some (.int .i64 a0_5)) (ds := []) #[false, false, false, false, false, false, false, false, false, false, false, false, false, false, false, false, false, false, false, false] (by kernel_rfl) rfl rfl ⟨(blk_cell BK111.out 0).trans rfl, (blk_cell BK111.out 1).trans rfl, (blk_cell BK111.out 2).trans rfl, (blk_cell BK111.out 3).trans rfl, (blk_cell BK111.out 4).trans rfl, (blk_cell BK111.out 5).trans rfl⟩ (fun hHeld => ?_); refine with_tabW weirref11_Copy.tab1 weirref11_Copy.bits1 (fun HT_ HW_ => ?_)
    generalize w7.drew = w8 at BK111 BK112 HB hHeld ⊢
    refine pure_ (i := 1) (N := some 6) (v := ?_) (a' := ?_) #[false, true, false, false, false, false, false, false, false, false, false, false, false, false, false, false, false, false, false, false] rfl rfl (any_of HT_.out (by kernel_rfl)) (fun _ _ _ h => h) (Or.inl ⟨by rfl, ?_⟩) ?_ ?_
    rotate_left
    ·
     intro w'
     go_simp
     with_reducible rfl
    rotate_left
    ·
     simp only [Act.put, List.setIfInBounds_toArray, List.set_cons_zero, List.set_cons_succ]
     rfl
    refine pure_ (i := 5) (N := some 10) (v := ?_) (a' := ?_) #[false, true, false, false, false, true, false, false, false, false, false, false, false, false, false, false, false, false, false, false] rfl rfl (any_of HT_.out (by kernel_rfl)) (fun _ _ _ h => h) (Or.inl ⟨by rfl, ?_⟩) ?_ ?_
    rotate_left
    ·
     intro w'
     go_simp
     with_reducible rfl
    rotate_left
    ·
     simp only [Act.put, List.setIfInBounds_toArray, List.set_cons_zero, List.set_cons_succ]
     rfl
    refine pure_ (i := 8) (N := some 13) (v := ?_) (a' := ?_) #[false, true, false, false, false, true, false, false, true, false, false, false, false, false, false, false, false, false, false, false] rfl rfl (any_of HT_.out (by kernel_rfl)) (fun _ _ _ h => h) (Or.inl ⟨by rfl, ?_⟩) ?_ ?_
    rotate_left
    ·
     intro w'
     go_simp
     with_reducible rfl
    rotate_left
    ·
     simp only [Act.put, List.setIfInBounds_toArray, List.set_cons_zero, List.set_cons_succ]
     rfl
    refine pure_ (i := 12) (N := some 17) (v := ?_) (a' := ?_) #[false, true, false, false, false, true, false, false, true, false, false, false, true, false, false, false, false, false, false, false] rfl rfl (any_of HT_.out (by kernel_rfl)) (fun _ _ _ h => h) (Or.inl ⟨by rfl, ?_⟩) ?_ ?_
    rotate_left
    ·
     intro w'
     go_simp
     with_reducible rfl
    rotate_left
    ·
     simp only [Act.put, List.setIfInBounds_toArray, List.set_cons_zero, List.set_cons_succ]
     rfl
    refine pure_ (i := 15) (N := some 20) (v := ?_) (a' := ?_) #[false, true, false, false, false, true, false, false, true, false, false, false, true, false, false, true, false, false, false, false] rfl rfl (any_of HT_.out (by kernel_rfl)) (fun _ _ _ h => h) (Or.inl ⟨by rfl, ?_⟩) ?_ ?_
    rotate_left
    ·
     intro w'
     go_simp
     with_reducible rfl
    rotate_left
    ·
     simp only [Act.put, List.setIfInBounds_toArray, List.set_cons_zero, List.set_cons_succ]
     rfl
    refine take_ (i := 2) (N := some 7) (v := ?_) (a' := ?_) #[false, true, true, false, false, true, false, false, true, false, false, false, true, false, false, true, false, false, false, false] rfl rfl (take_ofW HT_.out HW_.out (by kernel_rfl)) (fun _ _ _ h => h) (Or.inl ⟨by rfl, ?_⟩) hHeld ?_ ?_
    rotate_left
    ·
     rintro w' ⟨s0, s1, s2, s3, s4, s5⟩
     go_simp
     with_reducible rfl
    rotate_left
    ·
     simp only [Act.put, List.setIfInBounds_toArray, List.set_cons_zero, List.set_cons_succ]
     rfl
    refine take_ (i := 6) (N := some 11) (v := ?_) (a' := ?_) #[false, true, true, false, false, true, true, false, true, false, false, false, true, false, false, true, false, false, false, false] rfl rfl (take_ofW HT_.out HW_.out (by kernel_rfl)) (fun _ _ _ h => h) (Or.inl ⟨by rfl, ?_⟩) hHeld ?_ ?_
    rotate_left
    ·
     rintro w' ⟨s0, s1, s2, s3, s4, s5⟩
     go_simp
     with_reducible rfl
    rotate_left
    ·
     simp only [Act.put, List.setIfInBounds_toArray, List.set_cons_zero, List.set_cons_succ]
     rfl
    refine take_ (i := 9) (N := some 14) (v := ?_) (a' := ?_) #[false, true, true, false, false, true, true, false, true, true, false, false, true, false, false, true, false, false, false, false] rfl rfl (take_ofW HT_.out HW_.out (by kernel_rfl)) (fun _ _ _ h => h) (Or.inl ⟨by rfl, ?_⟩) hHeld ?_ ?_
    rotate_left
    ·
     rintro w' ⟨s0, s1, s2, s3, s4, s5⟩
     go_simp
     with_reducible rfl
    rotate_left
    ·
     simp only [Act.put, List.setIfInBounds_toArray, List.set_cons_zero, List.set_cons_succ]
     rfl
    refine take_ (i := 13) (N := some 18) (v := ?_) (a' := ?_) #[false, true, true, false, false, true, true, false, true, true, false, false, true, true, false, true, false, false, false, false] rfl rfl (take_ofW HT_.out HW_.out (by kernel_rfl)) (fun _ _ _ h => h) (Or.inl ⟨by rfl, ?_⟩) hHeld ?_ ?_
    rotate_left
    ·
     rintro w' ⟨s0, s1, s2, s3, s4, s5⟩
     go_simp
     with_reducible rfl
    rotate_left
    ·
     simp only [Act.put, List.setIfInBounds_toArray, List.set_cons_zero, List.set_cons_succ]
     rfl
    refine take_ (i := 16) (N := some 21) (v := ?_) (a' := ?_) #[false, true, true, false, false, true, true, false, true, true, false, false, true, true, false, true, true, false, false, false] rfl rfl (take_ofW HT_.out HW_.out (by kernel_rfl)) (fun _ _ _ h => h) (Or.inl ⟨by rfl, ?_⟩) hHeld ?_ ?_
    rotate_left
    ·
     rintro w' ⟨s0, s1, s2, s3, s4, s5⟩
     go_simp
     with_reducible rfl
    rotate_left
    ·
     simp only [Act.put, List.setIfInBounds_toArray, List.set_cons_zero, List.set_cons_succ]
     rfl
    refine join_ (σ := Value × Value × Value × Value × Value × Value × Value × Nat) 1 #[true, true, true, true, true, true, true, true, true, true, true, true, true, true, true, true, true, true, true, false] (fun s_ => [(5, s_.1), (8, s_.2.1), (9, s_.2.2.1), (12, s_.2.2.2.1), (15, s_.2.2.2.2.1), (16, s_.2.2.2.2.2.1), (19, s_.2.2.2.2.2.2.1), (3, .pointer (some ⟨s_.2.2.2.2.2.2.2, 0, none⟩)), (22, .agg #[s_.2.1, s_.2.2.2.1, s_.2.2.2.2.1, s_.2.2.2.2.2.2.1, .slice none 0 0, .int .i64 a0_5])]) (fun s_ w' => (w'.cell? ⟨gb111, 0, none⟩ = some (.slice A0_0 l0_0.length c0_0) ∧ w'.cell? ⟨gb111, 1, none⟩ = some (.slice A0_1 l0_1.length c0_1) ∧ w'.cell? ⟨gb111, 2, none⟩ = some (.slice A0_2 l0_2.length c0_2) ∧ w'.cell? ⟨gb111, 3, none⟩ = some (.slice A0_3 l0_3.length c0_3) ∧ w'.cell? ⟨gb111, 4, none⟩ = some (.slice A0_4 l0_4.length c0_4) ∧ w'.cell? ⟨gb111, 5, none⟩ = some (.int .i64 a0_5)) ∧ (Kd.R (Kd.int .i64) 3 w' w.heap.size (fun k_ => some k_ ≠ (s_.2.2.2.1 : Value).ownBlock) s_.2.1 y116) ∧ (Kd.R (Kd.int .i64) 3 w' w.heap.size (fun k_ => some k_ ≠ (s_.2.1 : Value).ownBlock) s_.2.2.2.1 y122) ∧ (Kd.S (Kd.slice 2 (Kd.int .i64)) 24 w' w.heap.size (fun k_ => some k_ ≠ (s_.2.2.2.2.2.2.1 : Value).ownBlock) s_.2.2.2.2.1 t125) ∧ (Kd.R (Kd.int .i64) 2 w' w.heap.size (fun _ => True) s_.2.2.2.2.2.2.1 y131) ∧ (w'.heap[gb111]? = some (.cells #[.slice A0_0 l0_0.length c0_0, .slice A0_1 l0_1.length c0_1, .slice A0_2 l0_2.length c0_2, .slice A0_3 l0_3.length c0_3, .slice A0_4 l0_4.length c0_4, .int .i64 a0_5] 27 (0, 0))) ∧ (w'.heap[gb112]? = some (.cells #[.slice none 0 0, .slice none 0 0, .slice none 0 0, .slice none 0 0, .slice none 0 0, .int .i64 0] 27 (0, 0))) ∧ (w'.heap[s_.2.2.2.2.2.2.2]? = some (.cells #[.slice none 0 0, .slice none 0 0, .slice none 0 0, .slice none 0 0, .slice none 0 0, .int .i64 0] 27 (0, 0))) ∧ (w.heap.size ≤ s_.2.2.2.2.2.2.2) ∧ (w.heap.size ≤ s_.2.2.2.2.2.2.2) ∧ (gb111 ≠ s_.2.2.2.2.2.2.2) ∧ (s_.2.2.2.2.2.2.2 ≠ gb111) ∧ (gb112 ≠ s_.2.2.2.2.2.2.2) ∧ (s_.2.2.2.2.2.2.2 ≠ gb112) ∧ (Below w.heap.size w w')) ?_ ?_
    rotate_left
    ·
     intro hJ_
     refine inv_ 1 #[true, true, true, true, true, true, true, true, true, true, true, true, true, true, true, true, true, true, true, false] (w0 := w8) [(0, 5), (3, 8), (4, 9), (7, 12), (10, 15), (11, 16), (14, 19), (18, 3), (17, 22)] (fun e => match e with | 3 => [0] | 7 => [4] | 14 => [11] | _ => []) (fun e vs ok W => match e with | 0 => Kd.R (Kd.int .i64) 3 W w8.heap.size ok (vs 0) y113 | 3 => Kd.R (Kd.int .i64) 3 W w8.heap.size ok (vs 3) y116 | 4 => Kd.R (Kd.int .i64) 3 W w8.heap.size ok (vs 4) y119 | 7 => Kd.R (Kd.int .i64) 3 W w8.heap.size ok (vs 7) y122 | 10 => Kd.S (Kd.slice 2 (Kd.int .i64)) 24 W w8.heap.size ok (vs 10) t125 | 11 => Kd.R (Kd.int .i64) 2 W w8.heap.size ok (vs 11) y128 | 14 => Kd.R (Kd.int .i64) 2 W w8.heap.size ok (vs 14) y131 | 18 => ∃ g, vs 18 = .pointer (some ⟨g, 0, none⟩) ∧ ok g ∧ w8.heap.size ≤ g ∧ W.heap[g]? = some (.cells #[.slice none 0 0, .slice none 0 0, .slice none 0 0, .slice none 0 0, .slice none 0 0, .int .i64 0] 27 (0, 0)) | 17 => vs 17 = .agg #[(vs 3), (vs 7), (vs 10), (vs 14), .slice none 0 0, .int .i64 a0_5] | _ => True) HT_.out (by kernel_rfl) (by rfl) ?iS ?iE ?iC
     case iS =>
      intro W hb_
      have BK111 := Aside0.mk (blk_below (g := gb111) (o := .cells #[.slice A0_0 l0_0.length c0_0, .slice A0_1 l0_1.length c0_1, .slice A0_2 l0_2.length c0_2, .slice A0_3 l0_3.length c0_3, .slice A0_4 l0_4.length c0_4, .int .i64 a0_5] 27 (0, 0)) BK111.out hb_)
      have BK112 := Aside0.mk (blk_below (g := gb112) (o := .cells #[.slice none 0 0, .slice none 0 0, .slice none 0 0, .slice none 0 0, .slice none 0 0, .int .i64 0] 27 (0, 0)) BK112.out hb_)
      exact ⟨(blk_cell BK111.out 0).trans rfl, (blk_cell BK111.out 1).trans rfl, (blk_cell BK111.out 2).trans rfl, (blk_cell BK111.out 3).trans rfl, (blk_cell BK111.out 4).trans rfl, (blk_cell BK111.out 5).trans rfl⟩
     case iE =>
      refine evs_cons ?_ (evs_cons ?_ (evs_cons ?_ (evs_cons ?_ (evs_cons ?_ (evs_cons ?_ (evs_cons ?_ (evs_cons ?_ (evs_cons ?_ (evs_nil)))))))))
      ·
       refine ev_fresh (fun v ok W => Kd.R (Kd.int .i64) 3 W w8.heap.size ok v y113) (fun _ _ _ _ _ h_ hm_ => R_mv h_ hm_) rfl rfl rfl (fun l_ vs_ W_ hb_ K hK => ?_)
       have BK111 := Aside0.mk (blk_below (g := gb111) (o := .cells #[.slice A0_0 l0_0.length c0_0, .slice A0_1 l0_1.length c0_1, .slice A0_2 l0_2.length c0_2, .slice A0_3 l0_3.length c0_3, .slice A0_4 l0_4.length c0_4, .int .i64 a0_5] 27 (0, 0)) BK111.out hb_)
       have BK112 := Aside0.mk (blk_below (g := gb112) (o := .cells #[.slice none 0 0, .slice none 0 0, .slice none 0 0, .slice none 0 0, .slice none 0 0, .int .i64 0] 27 (0, 0)) BK112.out hb_)
       have HB := Aside0.mk (below_step HB.out hb_)
       refine Kd.R_lit_step (Kd.int .i64) _ 3 ?hg (N := 5) ?hd (xs := ([] : List Int)) (inner := []) (ok := fun _ => True) (okp := fun _ => True) ?hr ?hp (fun _ hk => hk) trivial (Below.refl _ _) (Nat.le_refl _) (by simp) ?_; (case hd => rfl); (case hg => rfl); (case hr => first | (go_simp; done) | (go_simp; rfl)); (case hp => exact (Reps.none _ _))
       intro v114 w9 ho10 hb hg_ hnew_
       (first | rw [← Ny113.out] at ho10 | (simp only [Int.reduceToNat] at ho10; rw [← Ny113.out] at ho10))
       exact hK.out _ _ hb (Kd.R_lower (Kd.R_mono (Kd.R_bound ho10) (fun k_ hk_ => hk_.2.1)) hb_.size)
      ·
       refine ev_append (Kd.int .i64) 0 5 (.tmp 7) 22 3 (.int .i64 0) 8 y113 l0_0 _ _ _ (by kernel_rfl) rfl rfl rfl rfl (by kernel_rfl) (by decide) (by simp) ?hF rfl rfl Try.underlying22 info3 rfl (by decide) (by omega) (fun _ _ => rfl) (fun W hb_ => ?hr) (fun _ _ _ h_ => h_) ?hl
       case hF => first | (rw [← Ny116.out]; done) | (rw [← Ny116.out]; rfl)
       case hr =>
        have HB := Aside0.mk (below_step HB.out hb_)
        repeat (first | exact (Kd.C_below HR0_0.out HB.out) | (with_reducible refine Kd.C_alloc ?_ _) | (with_reducible refine Kd.C_drewN ?_ _) | (with_reducible refine Kd.C_drew ?_))
       case hl => have := LMc2.out; omega
      ·
       refine ev_fresh (fun v ok W => Kd.R (Kd.int .i64) 3 W w8.heap.size ok v y119) (fun _ _ _ _ _ h_ hm_ => R_mv h_ hm_) rfl rfl rfl (fun l_ vs_ W_ hb_ K hK => ?_)
       have BK111 := Aside0.mk (blk_below (g := gb111) (o := .cells #[.slice A0_0 l0_0.length c0_0, .slice A0_1 l0_1.length c0_1, .slice A0_2 l0_2.length c0_2, .slice A0_3 l0_3.length c0_3, .slice A0_4 l0_4.length c0_4, .int .i64 a0_5] 27 (0, 0)) BK111.out hb_)
       have BK112 := Aside0.mk (blk_below (g := gb112) (o := .cells #[.slice none 0 0, .slice none 0 0, .slice none 0 0, .slice none 0 0, .slice none 0 0, .int .i64 0] 27 (0, 0)) BK112.out hb_)
       have HB := Aside0.mk (below_step HB.out hb_)
       refine Kd.R_lit_step (Kd.int .i64) _ 3 ?hg (N := 9) ?hd (xs := ([] : List Int)) (inner := []) (ok := fun _ => True) (okp := fun _ => True) ?hr ?hp (fun _ hk => hk) trivial (Below.refl _ _) (Nat.le_refl _) (by simp) ?_; (case hd => rfl); (case hg => rfl); (case hr => first | (go_simp; done) | (go_simp; rfl)); (case hp => exact (Reps.none _ _))
       intro v120 w9 ho10 hb hg_ hnew_
       (first | rw [← Ny119.out] at ho10 | (simp only [Int.reduceToNat] at ho10; rw [← Ny119.out] at ho10))
       exact hK.out _ _ hb (Kd.R_lower (Kd.R_mono (Kd.R_bound ho10) (fun k_ hk_ => hk_.2.1)) hb_.size)
      ·
       refine ev_append (Kd.int .i64) 4 9 (.tmp 11) 22 3 (.int .i64 0) 8 y119 l0_1 _ _ _ (by kernel_rfl) rfl rfl rfl rfl (by kernel_rfl) (by decide) (by simp) ?hF rfl rfl Try.underlying22 info3 rfl (by decide) (by omega) (fun _ _ => rfl) (fun W hb_ => ?hr) (fun _ _ _ h_ => h_) ?hl
       case hF => first | (rw [← Ny122.out]; done) | (rw [← Ny122.out]; rfl)
       case hr =>
        have HB := Aside0.mk (below_step HB.out hb_)
        repeat (first | exact (Kd.C_below HR0_1.out HB.out) | (with_reducible refine Kd.C_alloc ?_ _) | (with_reducible refine Kd.C_drewN ?_ _) | (with_reducible refine Kd.C_drew ?_))
       case hl => have := LMc3.out; omega
      ·
       refine ev_fresh (fun v ok W => Kd.S (Kd.slice 2 (Kd.int .i64)) 24 W w8.heap.size ok v t125) (fun _ _ _ _ _ h_ hm_ => S_mv h_ hm_) rfl rfl rfl (fun l_ vs_ W_ hb_ K hK => ?_)
       have BK111 := Aside0.mk (blk_below (g := gb111) (o := .cells #[.slice A0_0 l0_0.length c0_0, .slice A0_1 l0_1.length c0_1, .slice A0_2 l0_2.length c0_2, .slice A0_3 l0_3.length c0_3, .slice A0_4 l0_4.length c0_4, .int .i64 a0_5] 27 (0, 0)) BK111.out hb_)
       have BK112 := Aside0.mk (blk_below (g := gb112) (o := .cells #[.slice none 0 0, .slice none 0 0, .slice none 0 0, .slice none 0 0, .slice none 0 0, .int .i64 0] 27 (0, 0)) BK112.out hb_)
       have HB := Aside0.mk (below_step HB.out hb_)
       refine goes_ Try.func8 (by kernel_rfl) rfl #[.slice A0_2 l0_2.length c0_2] (by rfl) rfl rfl (by (try simp only [List.map_toArray, List.map_cons, List.map_nil]); first | done | rfl | (simp only [List.length_drop, List.length_take]; rfl)) ?_
       with_reducible refine (weirref09_Copy.calls k _ _ l0_2 t125 _ ?side1 ?side2 A4.out).mono ?_
       (case side1 => repeat (first | exact (Kd.C_below HR0_2.out HB.out) | (with_reducible refine Kd.C_alloc ?_ _) | (with_reducible refine Kd.C_drewN ?_ _) | (with_reducible refine Kd.C_drew ?_)))
       (case side2 => exact HC0_2.out)
       rintro e w16 ⟨v126, rfl, ho0, hb⟩
       refine ⟨_, rfl, ?_⟩
       exact hK.out _ _ hb (Kd.S_lower (Kd.S_mono (Kd.S_bound ho0) (fun k_ hk_ => hk_.2.1)) hb_.size)
      ·
       refine ev_fresh (fun v ok W => Kd.R (Kd.int .i64) 2 W w8.heap.size ok v y128) (fun _ _ _ _ _ h_ hm_ => R_mv h_ hm_) rfl rfl rfl (fun l_ vs_ W_ hb_ K hK => ?_)
       have BK111 := Aside0.mk (blk_below (g := gb111) (o := .cells #[.slice A0_0 l0_0.length c0_0, .slice A0_1 l0_1.length c0_1, .slice A0_2 l0_2.length c0_2, .slice A0_3 l0_3.length c0_3, .slice A0_4 l0_4.length c0_4, .int .i64 a0_5] 27 (0, 0)) BK111.out hb_)
       have BK112 := Aside0.mk (blk_below (g := gb112) (o := .cells #[.slice none 0 0, .slice none 0 0, .slice none 0 0, .slice none 0 0, .slice none 0 0, .int .i64 0] 27 (0, 0)) BK112.out hb_)
       have HB := Aside0.mk (below_step HB.out hb_)
       refine Kd.R_lit_step (Kd.int .i64) _ 2 ?hg (N := 16) ?hd (xs := ([] : List Int)) (inner := []) (ok := fun _ => True) (okp := fun _ => True) ?hr ?hp (fun _ hk => hk) trivial (Below.refl _ _) (Nat.le_refl _) (by simp) ?_; (case hd => rfl); (case hg => rfl); (case hr => first | (go_simp; done) | (go_simp; rfl)); (case hp => exact (Reps.none _ _))
       intro v129 w9 ho10 hb hg_ hnew_
       (first | rw [← Ny128.out] at ho10 | (simp only [Int.reduceToNat] at ho10; rw [← Ny128.out] at ho10))
       exact hK.out _ _ hb (Kd.R_lower (Kd.R_mono (Kd.R_bound ho10) (fun k_ hk_ => hk_.2.1)) hb_.size)
      ·
       refine ev_append (Kd.int .i64) 11 16 (.tmp 18) 24 2 (.int .i64 0) 8 y128 l0_3 _ _ _ (by kernel_rfl) rfl rfl rfl rfl (by kernel_rfl) (by decide) (by simp) ?hF rfl rfl Try.underlying24 info2 rfl (by decide) (by omega) (fun _ _ => rfl) (fun W hb_ => ?hr) (fun _ _ _ h_ => h_) ?hl
       case hF => first | (rw [← Ny131.out]; done) | (rw [← Ny131.out]; rfl)
       case hr =>
        have HB := Aside0.mk (below_step HB.out hb_)
        repeat (first | exact (Kd.C_below HR0_3.out HB.out) | (with_reducible refine Kd.C_alloc ?_ _) | (with_reducible refine Kd.C_drewN ?_ _) | (with_reducible refine Kd.C_drew ?_))
       case hl => have := LMc5.out; omega
      ·
       exact ev_box #[.slice none 0 0, .slice none 0 0, .slice none 0 0, .slice none 0 0, .slice none 0 0, .int .i64 0] 27 rfl rfl rfl rfl (fun _ _ => by first | (go_simp; done) | (go_simp; rfl))
      ·
       exact ev_val (fun vs => .agg #[(vs 3), (vs 7), (vs 10), (vs 14), .slice none 0 0, .int .i64 a0_5]) rfl rfl rfl rfl (fun vs vs' h_ => by simp only [h_ 3 (by decide), h_ 7 (by decide), h_ 10 (by decide), h_ 14 (by decide)]) (by kernel_rfl) (by kernel_rfl) (by simp) (fun A vs W h1 h2 h3 => by
        have q3 := h1 (3, 8) (by decide) (by kernel_rfl)
        obtain ⟨_, k3⟩ := h3 (3, 8) (by decide) (by kernel_rfl) (by decide)
        obtain ⟨A3, c3, e3⟩ := Kd.R_slice (show Kd.R (Kd.int .i64) 3 W w8.heap.size _ (vs 3) y116 from k3)
        simp only [e3] at q3 ⊢
        have q7 := h1 (7, 12) (by decide) (by kernel_rfl)
        obtain ⟨_, k7⟩ := h3 (7, 12) (by decide) (by kernel_rfl) (by decide)
        obtain ⟨A7, c7, e7⟩ := Kd.R_slice (show Kd.R (Kd.int .i64) 3 W w8.heap.size _ (vs 7) y122 from k7)
        simp only [e7] at q7 ⊢
        have q10 := h1 (10, 15) (by decide) (by kernel_rfl)
        obtain ⟨_, k10⟩ := h3 (10, 15) (by decide) (by kernel_rfl) (by decide)
        obtain ⟨A10, c10, e10⟩ := Kd.S_slice (show Kd.S (Kd.slice 2 (Kd.int .i64)) 24 W w8.heap.size _ (vs 10) t125 from k10)
        simp only [e10] at q10 ⊢
        have q14 := h1 (14, 19) (by decide) (by kernel_rfl)
        obtain ⟨_, k14⟩ := h3 (14, 19) (by decide) (by kernel_rfl) (by decide)
        obtain ⟨A14, c14, e14⟩ := Kd.R_slice (show Kd.R (Kd.int .i64) 2 W w8.heap.size _ (vs 14) y131 from k14)
        simp only [e14] at q14 ⊢
        simp [execOp, h2, q3, q7, q10, q14]
        go_simp; first | done | rfl)
     case iC =>
      intro vs col W hb_ hF_
      have ltgb111 := blk_lt (g := gb111) (o := .cells #[.slice A0_0 l0_0.length c0_0, .slice A0_1 l0_1.length c0_1, .slice A0_2 l0_2.length c0_2, .slice A0_3 l0_3.length c0_3, .slice A0_4 l0_4.length c0_4, .int .i64 a0_5] 27 (0, 0)) BK111.out
      have ltgb112 := blk_lt (g := gb112) (o := .cells #[.slice none 0 0, .slice none 0 0, .slice none 0 0, .slice none 0 0, .slice none 0 0, .int .i64 0] 27 (0, 0)) BK112.out
      have f3 : Kd.R (Kd.int .i64) 3 W w8.heap.size (fun k => col k = some 3) (vs 3) y116 := hF_ (3, 8) (by decide) (by decide)
      have f7 : Kd.R (Kd.int .i64) 3 W w8.heap.size (fun k => col k = some 7) (vs 7) y122 := hF_ (7, 12) (by decide) (by decide)
      have f10 : Kd.S (Kd.slice 2 (Kd.int .i64)) 24 W w8.heap.size (fun k => col k = some 10) (vs 10) t125 := hF_ (10, 15) (by decide) (by decide)
      have f14 : Kd.R (Kd.int .i64) 2 W w8.heap.size (fun k => col k = some 14) (vs 14) y131 := hF_ (14, 19) (by decide) (by decide)
      have f18 : ∃ g, vs 18 = .pointer (some ⟨g, 0, none⟩) ∧ col g = some 18 ∧ w8.heap.size ≤ g ∧ W.heap[g]? = some (.cells #[.slice none 0 0, .slice none 0 0, .slice none 0 0, .slice none 0 0, .slice none 0 0, .int .i64 0] 27 (0, 0)) := hF_ (18, 3) (by decide) (by decide)
      have f17 : vs 17 = .agg #[(vs 3), (vs 7), (vs 10), (vs 14), .slice none 0 0, .int .i64 a0_5] := hF_ (17, 22) (by decide) (by decide)
      obtain ⟨g18, p18, c18, z18, m18⟩ := f18
      have BK111 := Aside0.mk (blk_below (g := gb111) (o := .cells #[.slice A0_0 l0_0.length c0_0, .slice A0_1 l0_1.length c0_1, .slice A0_2 l0_2.length c0_2, .slice A0_3 l0_3.length c0_3, .slice A0_4 l0_4.length c0_4, .int .i64 a0_5] 27 (0, 0)) BK111.out hb_)
      have BK112 := Aside0.mk (blk_below (g := gb112) (o := .cells #[.slice none 0 0, .slice none 0 0, .slice none 0 0, .slice none 0 0, .slice none 0 0, .int .i64 0] 27 (0, 0)) BK112.out hb_)
      have HB' := below_step HB.out hb_
      have hZ := HB.out.size
      simp only [List.map_cons, List.map_nil]
      rw [p18, f17]
      exact hJ_ (vs 0, vs 3, vs 4, vs 7, vs 10, vs 11, vs 14, g18) W ⟨⟨(blk_cell BK111.out 0).trans rfl, (blk_cell BK111.out 1).trans rfl, (blk_cell BK111.out 2).trans rfl, (blk_cell BK111.out 3).trans rfl, (blk_cell BK111.out 4).trans rfl, (blk_cell BK111.out 5).trans rfl⟩, (Kd.R_lower (Kd.R_mono (Kd.R_bound f3) (fun k_ hk_ => fun h_ => absurd (hk_.1.symm.trans ((f7).1 k_ h_.symm)) (by simp))) hZ), (Kd.R_lower (Kd.R_mono (Kd.R_bound f7) (fun k_ hk_ => fun h_ => absurd (hk_.1.symm.trans ((f3).1 k_ h_.symm)) (by simp))) hZ), (Kd.S_lower (Kd.S_mono (Kd.S_bound f10) (fun k_ hk_ => fun h_ => absurd (hk_.1.symm.trans ((f14).1 k_ h_.symm)) (by simp))) hZ), (Kd.R_lower (Kd.R_mono f14 (fun _ _ => trivial)) hZ), (BK111.out), (BK112.out), (m18), (Nat.le_trans hZ z18), (Nat.le_trans hZ z18), (Nat.ne_of_lt (Nat.lt_of_lt_of_le ltgb111 z18)), (Nat.ne_of_gt (Nat.lt_of_lt_of_le ltgb111 z18)), (Nat.ne_of_lt (Nat.lt_of_lt_of_le ltgb112 z18)), (Nat.ne_of_gt (Nat.lt_of_lt_of_le ltgb112 z18)), (HB')⟩
    rintro ⟨v114, v117, v120, v123, v126, v129, v132, gb134⟩ w24 ⟨hS_, h0_, h1_, h2_, h3_, h4_, h5_, h6_, h7_, h8_, h9_, h10_, h11_, h12_, h13_⟩
    have n0_ : Aside0 (Kd.R (Kd.int .i64) 3 w24 w.heap.size (fun k_ => some k_ ≠ (v123 : Value).ownBlock) v117 y116) := ⟨h0_⟩
    have n1_ : Aside0 (Kd.R (Kd.int .i64) 3 w24 w.heap.size (fun k_ => some k_ ≠ (v117 : Value).ownBlock) v123 y122) := ⟨h1_⟩
    have n2_ : Aside0 (Kd.S (Kd.slice 2 (Kd.int .i64)) 24 w24 w.heap.size (fun k_ => some k_ ≠ (v132 : Value).ownBlock) v126 t125) := ⟨h2_⟩
    have n3_ : Aside0 (Kd.R (Kd.int .i64) 2 w24 w.heap.size (fun _ => True) v132 y131) := ⟨h3_⟩
    have n4_ : Aside0 (w24.heap[gb111]? = some (.cells #[.slice A0_0 l0_0.length c0_0, .slice A0_1 l0_1.length c0_1, .slice A0_2 l0_2.length c0_2, .slice A0_3 l0_3.length c0_3, .slice A0_4 l0_4.length c0_4, .int .i64 a0_5] 27 (0, 0))) := ⟨h4_⟩
    have n5_ : Aside0 (w24.heap[gb112]? = some (.cells #[.slice none 0 0, .slice none 0 0, .slice none 0 0, .slice none 0 0, .slice none 0 0, .int .i64 0] 27 (0, 0))) := ⟨h5_⟩
    have n6_ : Aside0 (w24.heap[gb134]? = some (.cells #[.slice none 0 0, .slice none 0 0, .slice none 0 0, .slice none 0 0, .slice none 0 0, .int .i64 0] 27 (0, 0))) := ⟨h6_⟩
    have n7_ : Aside0 (w.heap.size ≤ gb134) := ⟨h7_⟩
    have n8_ : Aside0 (w.heap.size ≤ gb134) := ⟨h8_⟩
    have n9_ : Aside0 (gb111 ≠ gb134) := ⟨h9_⟩
    have n10_ : Aside0 (gb134 ≠ gb111) := ⟨h10_⟩
    have n11_ : Aside0 (gb112 ≠ gb134) := ⟨h11_⟩
    have n12_ : Aside0 (gb134 ≠ gb112) := ⟨h12_⟩
    have n13_ : Aside0 (Below w.heap.size w w24) := ⟨h13_⟩
    clear BK111
    clear BK112
    clear HB
    clear h0_ h1_ h2_ h3_ h4_ h5_ h6_ h7_ h8_ h9_ h10_ h11_ h12_ h13_
    have HO118 := n0_
    have HO124 := n1_
    have HO127 := n2_
    have HO133 := n3_
    have BK111 := n4_
    have BK112 := n5_
    have BK134 := n6_
    have GW134 := n7_
    have GE134 := n8_
    have NB111_134 := n9_
    have NB134_111 := n10_
    have NB112_134 := n11_
    have NB134_112 := n12_
    have HB := n13_
    clear n0_ n1_ n2_ n3_ n4_ n5_ n6_ n7_ n8_ n9_ n10_ n11_ n12_ n13_
    have hHeld : w24.cell? ⟨gb111, 0, none⟩ = some (.slice A0_0 l0_0.length c0_0) ∧ w24.cell? ⟨gb111, 1, none⟩ = some (.slice A0_1 l0_1.length c0_1) ∧ w24.cell? ⟨gb111, 2, none⟩ = some (.slice A0_2 l0_2.length c0_2) ∧ w24.cell? ⟨gb111, 3, none⟩ = some (.slice A0_3 l0_3.length c0_3) ∧ w24.cell? ⟨gb111, 4, none⟩ = some (.slice A0_4 l0_4.length c0_4) ∧ w24.cell? ⟨gb111, 5, none⟩ = some (.int .i64 a0_5) := hS_
    obtain ⟨Ao25, co25, eo25⟩ := Kd.R_slice HO133.out
    (first | subst eo25 | (injection eo25 with f1_ f2_ f3_; have f4_ := f1_.symm; have f5_ := f3_.symm; clear f1_ f2_ f3_; subst f4_; subst f5_))
    obtain ⟨Ao26, co26, eo26⟩ := Kd.S_slice HO127.out
    (first | subst eo26 | (injection eo26 with f1_ f2_ f3_; have f4_ := f1_.symm; have f5_ := f3_.symm; clear f1_ f2_ f3_; subst f4_; subst f5_))
    obtain ⟨Ao27, co27, eo27⟩ := Kd.R_slice HO124.out
    (first | subst eo27 | (injection eo27 with f1_ f2_ f3_; have f4_ := f1_.symm; have f5_ := f3_.symm; clear f1_ f2_ f3_; subst f4_; subst f5_))
    obtain ⟨Ao28, co28, eo28⟩ := Kd.R_slice HO118.out
    (first | subst eo28 | (injection eo28 with f1_ f2_ f3_; have f4_ := f1_.symm; have f5_ := f3_.symm; clear f1_ f2_ f3_; subst f4_; subst f5_))
    refine norm_ (a' := ?_) ?_ ?_
    rotate_left
    ·
     simp only [putAll, Act.put, List.setIfInBounds_toArray, List.set_cons_zero, List.set_cons_succ]
     rfl
    refine one_ (i := 19) (N := none) #[true, true, true, true, true, true, true, true, true, true, true, true, true, true, true, true, true, true, true, true] rfl rfl (one_of HT_.out (by kernel_rfl)) (by decide) (fun K hK => ?_)
    have hs29 : w24.cell? ⟨gb134, 0, none⟩ = some (.slice none 0 0) := (blk_cell BK134.out 0).trans rfl
    have hfs29 := blk_frozen BK134.out 0
    have hns29_0 := NB111_134.out
    have hns29_1 := NB112_134.out
    have hms29_0 := NB134_111.out
    have hms29_1 := NB134_112.out
    have hs30 : w24.cell? ⟨gb134, 1, none⟩ = some (.slice none 0 0) := (blk_cell BK134.out 1).trans rfl
    have hfs30 := blk_frozen BK134.out 1
    have hns30_0 := NB111_134.out
    have hns30_1 := NB112_134.out
    have hms30_0 := NB134_111.out
    have hms30_1 := NB134_112.out
    have hs31 : w24.cell? ⟨gb134, 2, none⟩ = some (.slice none 0 0) := (blk_cell BK134.out 2).trans rfl
    have hfs31 := blk_frozen BK134.out 2
    have hns31_0 := NB111_134.out
    have hns31_1 := NB112_134.out
    have hms31_0 := NB134_111.out
    have hms31_1 := NB134_112.out
    have hs32 : w24.cell? ⟨gb134, 3, none⟩ = some (.slice none 0 0) := (blk_cell BK134.out 3).trans rfl
    have hfs32 := blk_frozen BK134.out 3
    have hns32_0 := NB111_134.out
    have hns32_1 := NB112_134.out
    have hms32_0 := NB134_111.out
    have hms32_1 := NB134_112.out
    have hs33 : w24.cell? ⟨gb134, 4, none⟩ = some (.slice none 0 0) := (blk_cell BK134.out 4).trans rfl
    have hfs33 := blk_frozen BK134.out 4
    have hns33_0 := NB111_134.out
    have hns33_1 := NB112_134.out
    have hms33_0 := NB134_111.out
    have hms33_1 := NB134_112.out
    have hs34 : w24.cell? ⟨gb134, 5, none⟩ = some (.int .i64 0) := (blk_cell BK134.out 5).trans rfl
    have hfs34 := blk_frozen BK134.out 5
    have hns34_0 := NB111_134.out
    have hns34_1 := NB112_134.out
    have hms34_0 := NB134_111.out
    have hms34_1 := NB134_112.out
    refine skip_ (w1 := ?_) (by rfl) rfl ?_ ?_
    rotate_left
    ·
     go_simp
     rfl
    refine hK.out _ _ ⟨((cell_far (p := ⟨gb134, _, none⟩) NB111_134.out _).trans (((cell_far (p := ⟨gb134, _, none⟩) NB111_134.out _).trans (((cell_far (p := ⟨gb134, _, none⟩) NB111_134.out _).trans (((cell_far (p := ⟨gb134, _, none⟩) NB111_134.out _).trans (((cell_far (p := ⟨gb134, _, none⟩) NB111_134.out _).trans (((cell_far (p := ⟨gb134, _, none⟩) NB111_134.out _).trans (hHeld.1)))))))))))), ((cell_far (p := ⟨gb134, _, none⟩) NB111_134.out _).trans (((cell_far (p := ⟨gb134, _, none⟩) NB111_134.out _).trans (((cell_far (p := ⟨gb134, _, none⟩) NB111_134.out _).trans (((cell_far (p := ⟨gb134, _, none⟩) NB111_134.out _).trans (((cell_far (p := ⟨gb134, _, none⟩) NB111_134.out _).trans (((cell_far (p := ⟨gb134, _, none⟩) NB111_134.out _).trans (hHeld.2.1)))))))))))), ((cell_far (p := ⟨gb134, _, none⟩) NB111_134.out _).trans (((cell_far (p := ⟨gb134, _, none⟩) NB111_134.out _).trans (((cell_far (p := ⟨gb134, _, none⟩) NB111_134.out _).trans (((cell_far (p := ⟨gb134, _, none⟩) NB111_134.out _).trans (((cell_far (p := ⟨gb134, _, none⟩) NB111_134.out _).trans (((cell_far (p := ⟨gb134, _, none⟩) NB111_134.out _).trans (hHeld.2.2.1)))))))))))), ((cell_far (p := ⟨gb134, _, none⟩) NB111_134.out _).trans (((cell_far (p := ⟨gb134, _, none⟩) NB111_134.out _).trans (((cell_far (p := ⟨gb134, _, none⟩) NB111_134.out _).trans (((cell_far (p := ⟨gb134, _, none⟩) NB111_134.out _).trans (((cell_far (p := ⟨gb134, _, none⟩) NB111_134.out _).trans (((cell_far (p := ⟨gb134, _, none⟩) NB111_134.out _).trans (hHeld.2.2.2.1)))))))))))), ((cell_far (p := ⟨gb134, _, none⟩) NB111_134.out _).trans (((cell_far (p := ⟨gb134, _, none⟩) NB111_134.out _).trans (((cell_far (p := ⟨gb134, _, none⟩) NB111_134.out _).trans (((cell_far (p := ⟨gb134, _, none⟩) NB111_134.out _).trans (((cell_far (p := ⟨gb134, _, none⟩) NB111_134.out _).trans (((cell_far (p := ⟨gb134, _, none⟩) NB111_134.out _).trans (hHeld.2.2.2.2.1)))))))))))), ((cell_far (p := ⟨gb134, _, none⟩) NB111_134.out _).trans (((cell_far (p := ⟨gb134, _, none⟩) NB111_134.out _).trans (((cell_far (p := ⟨gb134, _, none⟩) NB111_134.out _).trans (((cell_far (p := ⟨gb134, _, none⟩) NB111_134.out _).trans (((cell_far (p := ⟨gb134, _, none⟩) NB111_134.out _).trans (((cell_far (p := ⟨gb134, _, none⟩) NB111_134.out _).trans (hHeld.2.2.2.2.2))))))))))))⟩ (fun hHeld => ?_)
    clear hK K
    refine done_ (done_of HT_.out (by kernel_rfl)) ?_
    try go_wp2
    go_loopg [4] k (fun kq v4 w' => ∃ (x4_1 : Int) (x135004_1 : List (List (S37))) (u135004 : Value), v4 = .int .i64 x4_1 ∧ Aside0 (weirref11_Copy.l0 kq x4_1 l0_0 l0_1 l0_2 l0_3 l0_4 a0_5 y116 y122 t125 y131 x135004_1 a0_5 = some (r1, r2, r3, r4, r5, r6)) ∧ Aside0 (kq ≤ k) ∧ Aside0 (Kd.R (Kd.int .i64) 3 w' w.heap.size (fun k_ => some k_ ≠ ((.slice Ao27 y122.length co27) : Value).ownBlock) (.slice Ao28 y116.length co28) y116) ∧ Aside0 (Kd.R (Kd.int .i64) 3 w' w.heap.size (fun k_ => some k_ ≠ ((.slice Ao28 y116.length co28) : Value).ownBlock) (.slice Ao27 y122.length co27) y122) ∧ Aside0 (Kd.S (Kd.slice 2 (Kd.int .i64)) 24 w' w.heap.size (fun k_ => some k_ ≠ ((.slice Ao25 y131.length co25) : Value).ownBlock) (.slice Ao26 t125.length co26) t125) ∧ Aside0 (Kd.R (Kd.int .i64) 2 w' w.heap.size (fun _ => True) (.slice Ao25 y131.length co25) y131) ∧ Aside0 (Kd.S (Kd.slice 37 k37) 32 w' w.heap.size (fun _ => True) u135004 x135004_1) ∧ Aside0 (w'.heap[gb111]? = some (.cells #[(.slice A0_0 l0_0.length c0_0), (.slice A0_1 l0_1.length c0_1), (.slice A0_2 l0_2.length c0_2), (.slice A0_3 l0_3.length c0_3), (.slice A0_4 l0_4.length c0_4), .int .i64 a0_5] 27 (0, 0))) ∧ Aside0 (w'.heap[gb112]? = some (.cells #[(.slice none 0 0), (.slice none 0 0), (.slice none 0 0), (.slice none 0 0), (.slice none 0 0), .int .i64 0] 27 (0, 0))) ∧ Aside0 (w'.heap[gb134]? = some (.cells #[(.slice Ao28 y116.length co28), (.slice Ao27 y122.length co27), (.slice Ao26 t125.length co26), (.slice Ao25 y131.length co25), u135004, .int .i64 a0_5] 27 (0, 0))) ∧ Aside0 (Below w.heap.size w w'))
    case atStart => exact ⟨(0), (([] : List (List (S37)))), (.slice none 0 0), (by first | rfl | (simp; done) | (simp [*]; done)), H', ⟨Nat.le_refl _⟩, ⟨by (with_reducible repeat (first | apply Kd.R_alloc | apply Kd.R_drewN | apply Kd.R_drew)); exact Kd.R_mono (Kd.R_far (p := ⟨gb134, 5, none⟩) (Kd.R_far (p := ⟨gb134, 4, none⟩) (Kd.R_far (p := ⟨gb134, 3, none⟩) (Kd.R_far (p := ⟨gb134, 2, none⟩) (Kd.R_far (p := ⟨gb134, 1, none⟩) (Kd.R_far (p := ⟨gb134, 0, none⟩) (Kd.R_types HO118.out BK134.out (by decide)) (fun _ hk => hk.2) (.slice Ao28 y116.length co28)) (fun _ hk => hk.2) (.slice Ao27 y122.length co27)) (fun _ hk => hk.2) (.slice Ao26 t125.length co26)) (fun _ hk => hk.2) (.slice Ao25 y131.length co25)) (fun _ hk => hk.2) (.slice none 0 0)) (fun _ hk => hk.2) (.int .i64 a0_5)) (fun _ hk => hk.1)⟩, ⟨by (with_reducible repeat (first | apply Kd.R_alloc | apply Kd.R_drewN | apply Kd.R_drew)); exact Kd.R_mono (Kd.R_far (p := ⟨gb134, 5, none⟩) (Kd.R_far (p := ⟨gb134, 4, none⟩) (Kd.R_far (p := ⟨gb134, 3, none⟩) (Kd.R_far (p := ⟨gb134, 2, none⟩) (Kd.R_far (p := ⟨gb134, 1, none⟩) (Kd.R_far (p := ⟨gb134, 0, none⟩) (Kd.R_types HO124.out BK134.out (by decide)) (fun _ hk => hk.2) (.slice Ao28 y116.length co28)) (fun _ hk => hk.2) (.slice Ao27 y122.length co27)) (fun _ hk => hk.2) (.slice Ao26 t125.length co26)) (fun _ hk => hk.2) (.slice Ao25 y131.length co25)) (fun _ hk => hk.2) (.slice none 0 0)) (fun _ hk => hk.2) (.int .i64 a0_5)) (fun _ hk => hk.1)⟩, ⟨by (with_reducible repeat (first | apply Kd.S_alloc | apply Kd.S_drewN | apply Kd.S_drew)); exact Kd.S_mono (Kd.S_far (p := ⟨gb134, 5, none⟩) (Kd.S_far (p := ⟨gb134, 4, none⟩) (Kd.S_far (p := ⟨gb134, 3, none⟩) (Kd.S_far (p := ⟨gb134, 2, none⟩) (Kd.S_far (p := ⟨gb134, 1, none⟩) (Kd.S_far (p := ⟨gb134, 0, none⟩) (Kd.S_types HO127.out BK134.out (by decide)) (fun _ hk => hk.2) (.slice Ao28 y116.length co28)) (fun _ hk => hk.2) (.slice Ao27 y122.length co27)) (fun _ hk => hk.2) (.slice Ao26 t125.length co26)) (fun _ hk => hk.2) (.slice Ao25 y131.length co25)) (fun _ hk => hk.2) (.slice none 0 0)) (fun _ hk => hk.2) (.int .i64 a0_5)) (fun _ hk => hk.1)⟩, ⟨by (with_reducible repeat (first | apply Kd.R_alloc | apply Kd.R_drewN | apply Kd.R_drew)); exact Kd.R_mono (Kd.R_far (p := ⟨gb134, 5, none⟩) (Kd.R_far (p := ⟨gb134, 4, none⟩) (Kd.R_far (p := ⟨gb134, 3, none⟩) (Kd.R_far (p := ⟨gb134, 2, none⟩) (Kd.R_far (p := ⟨gb134, 1, none⟩) (Kd.R_far (p := ⟨gb134, 0, none⟩) (Kd.R_types HO133.out BK134.out (by decide)) (fun _ hk => hk.2) (.slice Ao28 y116.length co28)) (fun _ hk => hk.2) (.slice Ao27 y122.length co27)) (fun _ hk => hk.2) (.slice Ao26 t125.length co26)) (fun _ hk => hk.2) (.slice Ao25 y131.length co25)) (fun _ hk => hk.2) (.slice none 0 0)) (fun _ hk => hk.2) (.int .i64 a0_5)) (fun _ hk => trivial)⟩, ⟨by first | exact Kd.S_nil _ _ _ _ _ | exact Kd.N_nil _ _ _ _ _ | exact Kd.V_nil _ _ _ _ _ | exact Kd.Q_nil _ _ _ _ _ | exact Kd.R_nil _ _ _ _ _⟩, ⟨by (with_reducible repeat (first | refine blk_drewN ?_ _ | refine blk_drew ?_ | refine blk_alloc ?_ _)); refine blk_far ?_ NB111_134.out _; (with_reducible repeat (first | refine blk_drewN ?_ _ | refine blk_drew ?_ | refine blk_alloc ?_ _)); refine blk_far ?_ NB111_134.out _; (with_reducible repeat (first | refine blk_drewN ?_ _ | refine blk_drew ?_ | refine blk_alloc ?_ _)); refine blk_far ?_ NB111_134.out _; (with_reducible repeat (first | refine blk_drewN ?_ _ | refine blk_drew ?_ | refine blk_alloc ?_ _)); refine blk_far ?_ NB111_134.out _; (with_reducible repeat (first | refine blk_drewN ?_ _ | refine blk_drew ?_ | refine blk_alloc ?_ _)); refine blk_far ?_ NB111_134.out _; (with_reducible repeat (first | refine blk_drewN ?_ _ | refine blk_drew ?_ | refine blk_alloc ?_ _)); refine blk_far ?_ NB111_134.out _; (with_reducible repeat (first | refine blk_drewN ?_ _ | refine blk_drew ?_ | refine blk_alloc ?_ _)); exact BK111.out⟩, ⟨by (with_reducible repeat (first | refine blk_drewN ?_ _ | refine blk_drew ?_ | refine blk_alloc ?_ _)); refine blk_far ?_ NB112_134.out _; (with_reducible repeat (first | refine blk_drewN ?_ _ | refine blk_drew ?_ | refine blk_alloc ?_ _)); refine blk_far ?_ NB112_134.out _; (with_reducible repeat (first | refine blk_drewN ?_ _ | refine blk_drew ?_ | refine blk_alloc ?_ _)); refine blk_far ?_ NB112_134.out _; (with_reducible repeat (first | refine blk_drewN ?_ _ | refine blk_drew ?_ | refine blk_alloc ?_ _)); refine blk_far ?_ NB112_134.out _; (with_reducible repeat (first | refine blk_drewN ?_ _ | refine blk_drew ?_ | refine blk_alloc ?_ _)); refine blk_far ?_ NB112_134.out _; (with_reducible repeat (first | refine blk_drewN ?_ _ | refine blk_drew ?_ | refine blk_alloc ?_ _)); refine blk_far ?_ NB112_134.out _; (with_reducible repeat (first | refine blk_drewN ?_ _ | refine blk_drew ?_ | refine blk_alloc ?_ _)); exact BK112.out⟩, ⟨by (with_reducible repeat (first | refine blk_drewN ?_ _ | refine blk_drew ?_ | refine blk_alloc ?_ _)); refine blk_put (cs := #[.slice Ao28 y116.length co28, .slice Ao27 y122.length co27, .slice Ao26 t125.length co26, .slice Ao25 y131.length co25, .slice none 0 0, .int .i64 0]) ?_ 5 _ rfl; (with_reducible repeat (first | refine blk_drewN ?_ _ | refine blk_drew ?_ | refine blk_alloc ?_ _)); refine blk_put (cs := #[.slice Ao28 y116.length co28, .slice Ao27 y122.length co27, .slice Ao26 t125.length co26, .slice Ao25 y131.length co25, .slice none 0 0, .int .i64 0]) ?_ 4 _ rfl; (with_reducible repeat (first | refine blk_drewN ?_ _ | refine blk_drew ?_ | refine blk_alloc ?_ _)); refine blk_put (cs := #[.slice Ao28 y116.length co28, .slice Ao27 y122.length co27, .slice Ao26 t125.length co26, .slice none 0 0, .slice none 0 0, .int .i64 0]) ?_ 3 _ rfl; (with_reducible repeat (first | refine blk_drewN ?_ _ | refine blk_drew ?_ | refine blk_alloc ?_ _)); refine blk_put (cs := #[.slice Ao28 y116.length co28, .slice Ao27 y122.length co27, .slice none 0 0, .slice none 0 0, .slice none 0 0, .int .i64 0]) ?_ 2 _ rfl; (with_reducible repeat (first | refine blk_drewN ?_ _ | refine blk_drew ?_ | refine blk_alloc ?_ _)); refine blk_put (cs := #[.slice Ao28 y116.length co28, .slice none 0 0, .slice none 0 0, .slice none 0 0, .slice none 0 0, .int .i64 0]) ?_ 1 _ rfl; (with_reducible repeat (first | refine blk_drewN ?_ _ | refine blk_drew ?_ | refine blk_alloc ?_ _)); refine blk_put (cs := #[.slice none 0 0, .slice none 0 0, .slice none 0 0, .slice none 0 0, .slice none 0 0, .int .i64 0]) ?_ 0 _ rfl; (with_reducible repeat (first | refine blk_drewN ?_ _ | refine blk_drew ?_ | refine blk_alloc ?_ _)); exact BK134.out⟩, ⟨by repeat (first | (with_reducible first | exact HB.out | apply below_alloc | apply pw_below_drewN | apply below_drew1 | refine below_set ?_ GE111.out | refine below_set ?_ GE112.out | refine below_set ?_ GE134.out) | exact HB.out)⟩⟩
    case round =>
     clear H'
     try clear p2
     try clear c5
     try clear c8
     obtain ⟨x4_1, x135004_1, u135004, rfl, HA, HK1, HO_135000, HO_135001, HO_135002, HO_135003, HO_135004, BK111, BK112, BK134, HB⟩ := hrel
     cases gk with
     | zero => exact absurd HA.out (by simp [weirref11_Copy.l0])
     | succ k1 =>
      have H := HA.out
      clear HA
      simp only [weirref11_Copy.l0] at H
      by_cases c35 : x4_1 < (l0_4.length : Int)
      ·
       rw [if_pos c35] at H
       have c35b0 : decide (x4_1 < (l0_4.length : Int)) = true := decide_eq_true c35
       clear c35
       obtain ⟨y135, hy135⟩ : ∃ y_ : List (S37), y_ = (([] : List (S37))) := ⟨_, rfl⟩
       replace H : (if 0 ≤ x4_1 then (if y135.length + (rd_L3 l0_4 x4_1).length < 8796093022208 then (if x135004_1.length < 5864062014805 then (weirref11_Copy.l0 k1 (wrap64 (x4_1 + 1)) l0_0 l0_1 l0_2 l0_3 l0_4 a0_5 y116 y122 t125 y131 (x135004_1 ++ [(y135 ++ (rd_L3 l0_4 x4_1))]) a0_5) else (none)) else (none)) else (none)) = some (r1, r2, r3, r4, r5, r6) := by first | (rw [hy135]; with_reducible exact H) | (have H2_ := (Option.bind_some _ _).symm.trans H; rw [hy135]; with_reducible exact H2_) | (have H2_ := (Option.bind_some _ _).symm.trans H; with_reducible exact H2_) | with_reducible exact H | (rw [hy135]; exact H) | exact H
       have Ny135 := Aside0.mk hy135
       clear hy135
       by_cases c36 : 0 ≤ x4_1
       ·
        rw [if_pos c36] at H
        have c36b0 : decide (0 ≤ x4_1) = true := decide_eq_true c36
        clear c36
        by_cases c37 : y135.length + (rd_L3 l0_4 x4_1).length < 8796093022208
        ·
         rw [if_pos c37] at H
         have LMc37 := Aside0.mk c37
         clear c37
         obtain ⟨y139, hy139⟩ : ∃ y_ : List (S37), y_ = (y135 ++ (rd_L3 l0_4 x4_1)) := ⟨_, rfl⟩
         replace H : (if x135004_1.length < 5864062014805 then (weirref11_Copy.l0 k1 (wrap64 (x4_1 + 1)) l0_0 l0_1 l0_2 l0_3 l0_4 a0_5 y116 y122 t125 y131 (x135004_1 ++ [y139]) a0_5) else (none)) = some (r1, r2, r3, r4, r5, r6) := by first | (rw [hy139]; with_reducible exact H) | (have H2_ := (Option.bind_some _ _).symm.trans H; rw [hy139]; with_reducible exact H2_) | (have H2_ := (Option.bind_some _ _).symm.trans H; with_reducible exact H2_) | with_reducible exact H | (rw [hy139]; exact H) | exact H
         have Ny139 := Aside0.mk hy139
         clear hy139
         by_cases c38 : x135004_1.length < 5864062014805
         ·
          rw [if_pos c38] at H
          have LMc38 := Aside0.mk c38
          clear c38
          obtain ⟨y142, hy142⟩ : ∃ y_ : List (List (S37)), y_ = (x135004_1 ++ [y139]) := ⟨_, rfl⟩
          replace H : (weirref11_Copy.l0 k1 (wrap64 (x4_1 + 1)) l0_0 l0_1 l0_2 l0_3 l0_4 a0_5 y116 y122 t125 y131 y142 a0_5) = some (r1, r2, r3, r4, r5, r6) := by first | (rw [hy142]; with_reducible exact H) | (have H2_ := (Option.bind_some _ _).symm.trans H; rw [hy142]; with_reducible exact H2_) | (have H2_ := (Option.bind_some _ _).symm.trans H; with_reducible exact H2_) | with_reducible exact H | (rw [hy142]; exact H) | exact H
          have Ny142 := Aside0.mk hy142
          clear hy142
          have H' := Aside0.mk H
          clear H
          have hnb39 := NB111_112.out
          have hnc39 := NB112_111.out
          have hnb40 := NB111_134.out
          have hnc40 := NB134_111.out
          have hcz41_0 : wr.cell? ⟨gb111, 0, none⟩ = some (.slice A0_0 l0_0.length c0_0) := (blk_cell BK111.out 0).trans rfl
          have hcz41_1 : wr.cell? ⟨gb111, 1, none⟩ = some (.slice A0_1 l0_1.length c0_1) := (blk_cell BK111.out 1).trans rfl
          have hcz41_2 : wr.cell? ⟨gb111, 2, none⟩ = some (.slice A0_2 l0_2.length c0_2) := (blk_cell BK111.out 2).trans rfl
          have hcz41_3 : wr.cell? ⟨gb111, 3, none⟩ = some (.slice A0_3 l0_3.length c0_3) := (blk_cell BK111.out 3).trans rfl
          have hcz41_4 : wr.cell? ⟨gb111, 4, none⟩ = some (.slice A0_4 l0_4.length c0_4) := (blk_cell BK111.out 4).trans rfl
          have hcz41_5 : wr.cell? ⟨gb111, 5, none⟩ = some (.int .i64 a0_5) := (blk_cell BK111.out 5).trans rfl
          have hfz41_0 := blk_frozen BK111.out 0
          have hfz41_1 := blk_frozen BK111.out 1
          have hfz41_2 := blk_frozen BK111.out 2
          have hfz41_3 := blk_frozen BK111.out 3
          have hfz41_4 := blk_frozen BK111.out 4
          have hfz41_5 := blk_frozen BK111.out 5
          try go_wp2
          have n0_ := Aside0.mk (Kd.R_drew HO_135000.out)
          have n1_ := Aside0.mk (Kd.R_drew HO_135001.out)
          have n2_ := Aside0.mk (Kd.S_drew HO_135002.out)
          have n3_ := Aside0.mk (Kd.R_drew HO_135003.out)
          have n4_ := Aside0.mk (Kd.S_drew HO_135004.out)
          have n5_ := Aside0.mk (blk_drew BK111.out)
          have n6_ := Aside0.mk (blk_drew BK112.out)
          have n7_ := Aside0.mk (blk_drew BK134.out)
          have n8_ := Aside0.mk (below_drew1 HB.out)
          clear HO_135000
          clear HO_135001
          clear HO_135002
          clear HO_135003
          clear HO_135004
          clear BK111
          clear BK112
          clear BK134
          clear HB
          have HO_135000 := n0_
          have HO_135001 := n1_
          have HO_135002 := n2_
          have HO_135003 := n3_
          have HO_135004 := n4_
          have BK111 := n5_
          have BK112 := n6_
          have BK134 := n7_
          have HB := n8_
          clear n0_ n1_ n2_ n3_ n4_ n5_ n6_ n7_ n8_
          have p138 : 0 ≤ (x4_1 : Int) := of_decide_eq_true (by first | (with_reducible assumption) | assumption)
          have q138 : x4_1 < (l0_4.length : Int) := of_decide_eq_true (by first | (with_reducible assumption) | assumption)
          obtain ⟨ad138, A138_0, c138_0, e138, hx138_0, hl138_0, hi138_0⟩ := at_L3 HR0_4.out x4_1 p138 q138
          have hw138_0 := hx138_0
          cases e138
          replace hx138_0 := (HB.out.cell (World.block_lt_of_cell? w _ hx138_0)).trans hx138_0
          have HR138_0 := Aside0.mk hi138_0
          have HC138_0 := Aside0.mk hl138_0
          clear hi138_0 hl138_0
          replace p138 := eq_true p138
          replace q138 := eq_true q138
          refine start_ (n := 13) (S := fun w' => w'.cell? ⟨gb134, 0, none⟩ = some (.slice Ao28 y116.length co28) ∧ w'.cell? ⟨gb134, 1, none⟩ = some (.slice Ao27 y122.length co27) ∧ w'.cell? ⟨gb134, 2, none⟩ = some (.slice Ao26 t125.length co26) ∧ w'.cell? ⟨gb134, 3, none⟩ = some (.slice Ao25 y131.length co25) ∧ w'.cell? ⟨gb134, 4, none⟩ = some (u135004) ∧ w'.cell? ⟨gb134, 5, none⟩ = some (.int .i64 a0_5) ∧ w'.cell? ⟨gb111, 0, none⟩ = some (.slice A0_0 l0_0.length c0_0) ∧ w'.cell? ⟨gb111, 1, none⟩ = some (.slice A0_1 l0_1.length c0_1) ∧ w'.cell? ⟨gb111, 2, none⟩ = some (.slice A0_2 l0_2.length c0_2) ∧ w'.cell? ⟨gb111, 3, none⟩ = some (.slice A0_3 l0_3.length c0_3) ∧ w'.cell? ⟨gb111, 4, none⟩ = some (.slice (some ad138) l0_4.length c0_4) ∧ w'.cell? ⟨gb111, 5, none⟩ = some (.int .i64 a0_5) ∧ w'.cell? (ad138.add (x4_1).toNat) = some (.slice A138_0 (rd_L3 l0_4 x4_1).length c138_0)) (ds := [12]) #[false, false, false, false, false, false, false, false, false, false, false, false, false] (by kernel_rfl) rfl rfl ⟨(blk_cell BK134.out 0).trans rfl, (blk_cell BK134.out 1).trans rfl, (blk_cell BK134.out 2).trans rfl, (blk_cell BK134.out 3).trans rfl, (blk_cell BK134.out 4).trans rfl, (blk_cell BK134.out 5).trans rfl, (blk_cell BK111.out 0).trans rfl, (blk_cell BK111.out 1).trans rfl, (blk_cell BK111.out 2).trans rfl, (blk_cell BK111.out 3).trans rfl, (blk_cell BK111.out 4).trans rfl, (blk_cell BK111.out 5).trans rfl, ((HB.out.cell (World.block_lt_of_cell? w _ hw138_0)).trans hw138_0)⟩ (fun hHeld => ?_); refine with_tabW weirref11_Copy.tab5 weirref11_Copy.bits5 (fun HT_ HW_ => ?_)
          generalize wr.drew = w42 at HO_135000 HO_135001 HO_135002 HO_135003 HO_135004 BK111 BK112 BK134 HB HR138_0 hx138_0 hHeld ⊢
          refine pure_ (i := 0) (N := some 30) (v := ?_) (a' := ?_) #[true, false, false, false, false, false, false, false, false, false, false, false, false] rfl rfl (any_of HT_.out (by kernel_rfl)) (fun _ _ _ h => h) (Or.inl ⟨by rfl, ?_⟩) ?_ ?_
          rotate_left
          ·
           intro w'
           go_simp
           with_reducible rfl
          rotate_left
          ·
           simp only [Act.put, List.setIfInBounds_toArray, List.set_cons_zero, List.set_cons_succ]
           rfl
          refine pure_ (i := 3) (N := some 33) (v := ?_) (a' := ?_) #[true, false, false, true, false, false, false, false, false, false, false, false, false] rfl rfl (any_of HT_.out (by kernel_rfl)) (fun _ _ _ h => h) (Or.inl ⟨by rfl, ?_⟩) ?_ ?_
          rotate_left
          ·
           intro w'
           go_simp
           with_reducible rfl
          rotate_left
          ·
           simp only [Act.put, List.setIfInBounds_toArray, List.set_cons_zero, List.set_cons_succ]
           rfl
          refine pure_ (i := 5) (N := some 35) (v := ?_) (a' := ?_) #[true, false, false, true, false, true, false, false, false, false, false, false, false] rfl rfl (any_of HT_.out (by kernel_rfl)) (fun _ _ _ h => h) (Or.inl ⟨by rfl, ?_⟩) ?_ ?_
          rotate_left
          ·
           intro w'
           go_simp
           with_reducible rfl
          rotate_left
          ·
           simp only [Act.put, List.setIfInBounds_toArray, List.set_cons_zero, List.set_cons_succ]
           rfl
          refine take_ (i := 1) (N := some 31) (v := ?_) (a' := ?_) #[true, true, false, true, false, true, false, false, false, false, false, false, false] rfl rfl (take_ofW HT_.out HW_.out (by kernel_rfl)) (fun _ _ _ h => h) (Or.inl ⟨by rfl, ?_⟩) hHeld ?_ ?_
          rotate_left
          ·
           rintro w' ⟨s0, s1, s2, s3, s4, s5, s6, s7, s8, s9, s10, s11, s12⟩
           go_simp
           with_reducible rfl
          rotate_left
          ·
           simp only [Act.put, List.setIfInBounds_toArray, List.set_cons_zero, List.set_cons_succ]
           rfl
          refine take_ (i := 4) (N := some 34) (v := ?_) (a' := ?_) #[true, true, false, true, true, true, false, false, false, false, false, false, false] rfl rfl (take_ofW HT_.out HW_.out (by kernel_rfl)) (fun _ _ _ h => h) (Or.inl ⟨by rfl, ?_⟩) hHeld ?_ ?_
          rotate_left
          ·
           rintro w' ⟨s0, s1, s2, s3, s4, s5, s6, s7, s8, s9, s10, s11, s12⟩
           go_simp
           with_reducible rfl
          rotate_left
          ·
           simp only [Act.put, List.setIfInBounds_toArray, List.set_cons_zero, List.set_cons_succ]
           rfl
          refine pure_ (i := 6) (N := some 36) (v := ?_) (a' := ?_) #[true, true, false, true, true, true, true, false, false, false, false, false, false] rfl rfl (any_of HT_.out (by kernel_rfl)) (fun _ _ _ h => h) (Or.inl ⟨by rfl, ?_⟩) ?_ ?_
          rotate_left
          ·
           intro w'
           go_simp
           with_reducible rfl
          rotate_left
          ·
           simp only [Act.put, List.setIfInBounds_toArray, List.set_cons_zero, List.set_cons_succ]
           rfl
          refine take_ (i := 7) (N := some 37) (v := ?_) (a' := ?_) #[true, true, false, true, true, true, true, true, false, false, false, false, false] rfl rfl (take_ofW HT_.out HW_.out (by kernel_rfl)) (fun _ _ _ h => h) (Or.inl ⟨by rfl, ?_⟩) hHeld ?_ ?_
          rotate_left
          ·
           rintro w' ⟨s0, s1, s2, s3, s4, s5, s6, s7, s8, s9, s10, s11, s12⟩
           go_simp
           with_reducible rfl
          rotate_left
          ·
           simp only [Act.put, List.setIfInBounds_toArray, List.set_cons_zero, List.set_cons_succ]
           rfl
          refine one_ (i := 2) (N := some 32) #[true, true, true, true, true, true, true, true, false, false, false, false, false] rfl rfl (one_of HT_.out (by kernel_rfl)) (by decide) (fun K hK => ?_)
          refine Kd.R_lit_step k37 _ 37 ?hg (N := 32) ?hd (xs := ([] : List (S37))) (inner := []) (ok := fun _ => True) (okp := fun _ => True) ?hr ?hp (fun _ hk => hk) trivial (Below.refl _ _) (Nat.le_refl _) (by simp) ?_; (case hd => rfl); (case hg => rfl); (case hr => first | (go_simp; done) | (go_simp; rfl)); (case hp => exact (Reps.none _ _))
          intro v136 w43 ho44 hb hg_ hnew_
          clear hg_ hnew_
          (first | rw [← Ny135.out] at ho44 | (simp only [Int.reduceToNat] at ho44; rw [← Ny135.out] at ho44))
          have n0_ := Aside0.mk (Kd.R_below (by (with_reducible repeat (first | apply Kd.R_alloc | apply Kd.R_drewN | apply Kd.R_drew)); exact HO_135000.out) hb)
          have n1_ := Aside0.mk (Kd.R_below (by (with_reducible repeat (first | apply Kd.R_alloc | apply Kd.R_drewN | apply Kd.R_drew)); exact HO_135001.out) hb)
          have n2_ := Aside0.mk (Kd.S_below (by (with_reducible repeat (first | apply Kd.S_alloc | apply Kd.S_drewN | apply Kd.S_drew)); exact HO_135002.out) hb)
          have n3_ := Aside0.mk (Kd.R_below (by (with_reducible repeat (first | apply Kd.R_alloc | apply Kd.R_drewN | apply Kd.R_drew)); exact HO_135003.out) hb)
          have n4_ := Aside0.mk (Kd.S_elder' (by (with_reducible repeat (first | apply Kd.S_alloc | apply Kd.S_drewN | apply Kd.S_drew)); exact HO_135004.out) (Kd.R_base ho44) hb)
          have n5_ := Aside0.mk (Kd.R_lower ho44 (below_size (by repeat (first | (with_reducible first | exact HB.out | apply below_alloc | apply pw_below_drewN | apply below_drew1 | refine below_set ?_ GE111.out | refine below_set ?_ GE112.out | refine below_set ?_ GE134.out) | exact HB.out))))
          have n6_ := Aside0.mk (blk_below (g := gb111) (o := .cells #[.slice A0_0 l0_0.length c0_0, .slice A0_1 l0_1.length c0_1, .slice A0_2 l0_2.length c0_2, .slice A0_3 l0_3.length c0_3, .slice (some ad138) l0_4.length c0_4, .int .i64 a0_5] 27 (0, 0)) (by (with_reducible repeat (first | refine blk_drewN ?_ _ | refine blk_drew ?_ | refine blk_alloc ?_ _)); exact BK111.out) hb)
          have n7_ := Aside0.mk (blk_below (g := gb112) (o := .cells #[.slice none 0 0, .slice none 0 0, .slice none 0 0, .slice none 0 0, .slice none 0 0, .int .i64 0] 27 (0, 0)) (by (with_reducible repeat (first | refine blk_drewN ?_ _ | refine blk_drew ?_ | refine blk_alloc ?_ _)); exact BK112.out) hb)
          have n8_ := Aside0.mk (blk_below (g := gb134) (o := .cells #[.slice Ao28 y116.length co28, .slice Ao27 y122.length co27, .slice Ao26 t125.length co26, .slice Ao25 y131.length co25, u135004, .int .i64 a0_5] 27 (0, 0)) (by (with_reducible repeat (first | refine blk_drewN ?_ _ | refine blk_drew ?_ | refine blk_alloc ?_ _)); exact BK134.out) hb)
          have n9_ := Aside0.mk (below_step (by repeat (first | (with_reducible first | exact HB.out | apply below_alloc | apply pw_below_drewN | apply below_drew1 | refine below_set ?_ GE111.out | refine below_set ?_ GE112.out | refine below_set ?_ GE134.out) | exact HB.out)) hb)
          clear HO_135000
          clear HO_135001
          clear HO_135002
          clear HO_135003
          clear HO_135004
          clear BK111
          clear BK112
          clear BK134
          clear HB
          have HO_135000 := n0_
          have HO_135001 := n1_
          have HO_135002 := n2_
          have HO_135003 := n3_
          have HO_135004 := n4_
          have HO137 := n5_
          have BK111 := n6_
          have BK112 := n7_
          have BK134 := n8_
          have HB := n9_
          clear n0_ n1_ n2_ n3_ n4_ n5_ n6_ n7_ n8_ n9_
          clear hb ho44
          refine hK.out _ _ ⟨(blk_cell BK134.out 0).trans rfl, (blk_cell BK134.out 1).trans rfl, (blk_cell BK134.out 2).trans rfl, (blk_cell BK134.out 3).trans rfl, (blk_cell BK134.out 4).trans rfl, (blk_cell BK134.out 5).trans rfl, (blk_cell BK111.out 0).trans rfl, (blk_cell BK111.out 1).trans rfl, (blk_cell BK111.out 2).trans rfl, (blk_cell BK111.out 3).trans rfl, (blk_cell BK111.out 4).trans rfl, (blk_cell BK111.out 5).trans rfl, ((HB.out.cell (World.block_lt_of_cell? w _ hw138_0)).trans hw138_0)⟩ (fun hHeld => ?_)
          clear hK K
          refine norm_ (a' := ?_) ?_ ?_
          rotate_left
          ·
           show Act.put _ (some 32) _ = _
           simp only [Act.put, List.setIfInBounds_toArray, List.set_cons_zero, List.set_cons_succ]
           rfl
          refine one_ (i := 8) (N := some 38) #[true, true, true, true, true, true, true, true, true, false, false, false, false] rfl rfl (one_of HT_.out (by kernel_rfl)) (by decide) (fun K hK => ?_)
          refine Kd.R_append_rows_step k37 (w0 := w) w.heap.size (by rfl) (.tmp 32) (.tmp 37) 32 37 (.agg #[(.int .i64 0), (.int .i64 0)]) 16 rfl Try.underlying32 info37 rfl (by decide) (by omega) v136 y135 (rd_L3 l0_4 x4_1) _ _ _ (fun _ => True) (fun _ => False) rfl rfl ?aO ?aR (fun _ _ h => h) (fun _ h => h.elim) ?aF ?aB ?aS ?aL ?_
          (case aR => repeat (first | exact (Kd.C_below HR138_0.out HB.out) | (with_reducible refine Kd.C_alloc ?_ _) | (with_reducible refine Kd.C_drewN ?_ _) | (with_reducible refine Kd.C_drew ?_)))
          (case aB => exact (by repeat (first | (with_reducible first | exact HB.out | apply below_alloc | apply pw_below_drewN | apply below_drew1 | refine below_set ?_ GE111.out | refine below_set ?_ GE112.out | refine below_set ?_ GE134.out) | exact HB.out)))
          (case aF => exact (fun _ _ => trivial))
          (case aO => exact (by (with_reducible repeat (first | apply Kd.R_alloc | apply Kd.R_drewN | apply Kd.R_drew)); exact HO137.out))
          (case aS => exact (below_size (by repeat (first | (with_reducible first | exact HB.out | apply below_alloc | apply pw_below_drewN | apply below_drew1 | refine below_set ?_ GE111.out | refine below_set ?_ GE112.out | refine below_set ?_ GE134.out) | exact HB.out))))
          (case aL => have := LMc37.out; omega)
          intro v140 w45 ho hb hg hat
          rw [← Ny139.out] at ho
          have n0_ := Aside0.mk (Kd.R_over' (by (with_reducible repeat (first | apply Kd.R_alloc | apply Kd.R_drewN | apply Kd.R_drew)); exact HO_135000.out) (Kd.R_typed (by (with_reducible repeat (first | apply Kd.R_alloc | apply Kd.R_drewN | apply Kd.R_drew)); exact HO137.out)) (by decide) hg)
          have n1_ := Aside0.mk (Kd.R_over' (by (with_reducible repeat (first | apply Kd.R_alloc | apply Kd.R_drewN | apply Kd.R_drew)); exact HO_135001.out) (Kd.R_typed (by (with_reducible repeat (first | apply Kd.R_alloc | apply Kd.R_drewN | apply Kd.R_drew)); exact HO137.out)) (by decide) hg)
          have n2_ := Aside0.mk (Kd.S_over' (by (with_reducible repeat (first | apply Kd.S_alloc | apply Kd.S_drewN | apply Kd.S_drew)); exact HO_135002.out) (Kd.R_typed (by (with_reducible repeat (first | apply Kd.R_alloc | apply Kd.R_drewN | apply Kd.R_drew)); exact HO137.out)) (by decide) hg)
          have n3_ := Aside0.mk (Kd.R_over' (by (with_reducible repeat (first | apply Kd.R_alloc | apply Kd.R_drewN | apply Kd.R_drew)); exact HO_135003.out) (Kd.R_typed (by (with_reducible repeat (first | apply Kd.R_alloc | apply Kd.R_drewN | apply Kd.R_drew)); exact HO137.out)) (by decide) hg)
          have n4_ := Aside0.mk (Kd.S_after (ok := (fun _ => True)) (by (with_reducible repeat (first | apply Kd.S_alloc | apply Kd.S_drewN | apply Kd.S_drew)); exact HO_135004.out) hg hat)
          have n5_ := Aside0.mk (blk_grown (g := gb111) (o := .cells #[.slice A0_0 l0_0.length c0_0, .slice A0_1 l0_1.length c0_1, .slice A0_2 l0_2.length c0_2, .slice A0_3 l0_3.length c0_3, .slice (some ad138) l0_4.length c0_4, .int .i64 a0_5] 27 (0, 0)) (by (with_reducible repeat (first | refine blk_drewN ?_ _ | refine blk_drew ?_ | refine blk_alloc ?_ _)); exact BK111.out) hg (Kd.R_ne HO137.out BK111.out (by decide)))
          have n6_ := Aside0.mk (blk_grown (g := gb112) (o := .cells #[.slice none 0 0, .slice none 0 0, .slice none 0 0, .slice none 0 0, .slice none 0 0, .int .i64 0] 27 (0, 0)) (by (with_reducible repeat (first | refine blk_drewN ?_ _ | refine blk_drew ?_ | refine blk_alloc ?_ _)); exact BK112.out) hg (Kd.R_ne HO137.out BK112.out (by decide)))
          have n7_ := Aside0.mk (blk_grown (g := gb134) (o := .cells #[.slice Ao28 y116.length co28, .slice Ao27 y122.length co27, .slice Ao26 t125.length co26, .slice Ao25 y131.length co25, u135004, .int .i64 a0_5] 27 (0, 0)) (by (with_reducible repeat (first | refine blk_drewN ?_ _ | refine blk_drew ?_ | refine blk_alloc ?_ _)); exact BK134.out) hg (Kd.R_ne HO137.out BK134.out (by decide)))
          have n8_ := Aside0.mk (hb)
          have n9_ := Aside0.mk (ho)
          clear HO_135000
          clear HO_135001
          clear HO_135002
          clear HO_135003
          clear HO_135004
          clear BK111
          clear BK112
          clear BK134
          clear HB
          clear HO137
          have HO_135000 := n0_
          have HO_135001 := n1_
          have HO_135002 := n2_
          have HO_135003 := n3_
          have HO_135004 := n4_
          have BK111 := n5_
          have BK112 := n6_
          have BK134 := n7_
          have HB := n8_
          have HO141 := n9_
          clear n0_ n1_ n2_ n3_ n4_ n5_ n6_ n7_ n8_ n9_
          clear ho hb hg hat
          obtain ⟨Ao47, co47, eo47⟩ := Kd.R_slice HO141.out
          (first | subst eo47 | (injection eo47 with f1_ f2_ f3_; have f4_ := f1_.symm; have f5_ := f3_.symm; clear f1_ f2_ f3_; subst f4_; subst f5_))
          refine hK.out _ _ ⟨(blk_cell BK134.out 0).trans rfl, (blk_cell BK134.out 1).trans rfl, (blk_cell BK134.out 2).trans rfl, (blk_cell BK134.out 3).trans rfl, (blk_cell BK134.out 4).trans rfl, (blk_cell BK134.out 5).trans rfl, (blk_cell BK111.out 0).trans rfl, (blk_cell BK111.out 1).trans rfl, (blk_cell BK111.out 2).trans rfl, (blk_cell BK111.out 3).trans rfl, (blk_cell BK111.out 4).trans rfl, (blk_cell BK111.out 5).trans rfl, ((HB.out.cell (World.block_lt_of_cell? w _ hw138_0)).trans hw138_0)⟩ (fun hHeld => ?_)
          clear hK K
          refine norm_ (a' := ?_) ?_ ?_
          rotate_left
          ·
           show Act.put _ (some 38) _ = _
           simp only [Act.put, List.setIfInBounds_toArray, List.set_cons_zero, List.set_cons_succ]
           rfl
          refine one_ (i := 9) (N := some 39) #[true, true, true, true, true, true, true, true, true, true, false, false, false] rfl rfl (one_of HT_.out (by kernel_rfl)) (by decide) (fun K hK => ?_)
          refine value_ (w1 := ?_) (v := ?_) (by rfl) rfl ?_ ?_
          rotate_left 2
          ·
           go_simp
           constructor
           ·
            rfl
           ·
            rfl
          refine hK.out _ _ ⟨(blk_cell (blk_alloc BK134.out _) 0).trans rfl, (blk_cell (blk_alloc BK134.out _) 1).trans rfl, (blk_cell (blk_alloc BK134.out _) 2).trans rfl, (blk_cell (blk_alloc BK134.out _) 3).trans rfl, (blk_cell (blk_alloc BK134.out _) 4).trans rfl, (blk_cell (blk_alloc BK134.out _) 5).trans rfl, (blk_cell (blk_alloc BK111.out _) 0).trans rfl, (blk_cell (blk_alloc BK111.out _) 1).trans rfl, (blk_cell (blk_alloc BK111.out _) 2).trans rfl, (blk_cell (blk_alloc BK111.out _) 3).trans rfl, (blk_cell (blk_alloc BK111.out _) 4).trans rfl, (blk_cell (blk_alloc BK111.out _) 5).trans rfl, (World.cell?_alloc_lt _ _ _ (World.block_lt_of_cell? _ _ (((HB.out.cell (World.block_lt_of_cell? w _ hw138_0)).trans hw138_0)))).trans (((HB.out.cell (World.block_lt_of_cell? w _ hw138_0)).trans hw138_0))⟩ (fun hHeld => ?_)
          clear hK K
          refine norm_ (a' := ?_) ?_ ?_
          rotate_left
          ·
           show Act.put _ (some 39) _ = _
           simp only [Act.put, List.setIfInBounds_toArray, List.set_cons_zero, List.set_cons_succ]
           rfl
          refine one_ (i := 10) (N := some 40) #[true, true, true, true, true, true, true, true, true, true, true, false, false] rfl rfl (one_of HT_.out (by kernel_rfl)) (by decide) (fun K hK => ?_)
          refine Kd.S_append_step (Kd.slice 37 k37) (w0 := w) w.heap.size (by rfl) (.tmp 31) (.tmp 39) 25 32 (.slice none 0 0) 24 rfl Try.underlying25 info32 rfl (by decide) (by omega) u135004 x135004_1 y139 [.slice Ao47 y139.length co47] (fun _ => True) (fun k_ => some k_ = (.slice Ao47 y139.length co47 : Value).ownBlock) rfl rfl ?aP (fun k_ hk_ => ((Kd.R_mono (ok' := fun k_ => ((fun _ => True)) k_ ∧ some k_ ≠ (u135004 : Value).ownBlock) (Kd.R_apart' (HO141.out) (Kd.S_typed HO_135004.out) (by decide)) (fun k_ hk => ⟨trivial, hk.2⟩))).1 k_ hk_.symm) ?aF ?aO ?aB ?aS ?aL ?_
          (case aP => exact Kd.M_row (Kd.R_mono (Kd.R_tight rfl (Kd.R_mono (ok' := fun k_ => ((fun _ => True)) k_ ∧ some k_ ≠ (u135004 : Value).ownBlock) (Kd.R_apart' (HO141.out) (Kd.S_typed HO_135004.out) (by decide)) (fun k_ hk => ⟨trivial, hk.2⟩))) (fun _ h_ => h_)))
          (case aB => exact (by repeat (first | (with_reducible first | exact HB.out | apply below_alloc | apply pw_below_drewN | apply below_drew1 | refine below_set ?_ GE111.out | refine below_set ?_ GE112.out | refine below_set ?_ GE134.out) | exact HB.out)))
          (case aF => exact (fun _ _ => trivial))
          (case aO => exact (by (with_reducible repeat (first | apply Kd.S_alloc | apply Kd.S_drewN | apply Kd.S_drew)); exact Kd.S_mono HO_135004.out (fun k_ hk => ⟨trivial, fun e_ => hk.2 e_⟩)))
          (case aS => exact (below_size (by repeat (first | (with_reducible first | exact HB.out | apply below_alloc | apply pw_below_drewN | apply below_drew1 | refine below_set ?_ GE111.out | refine below_set ?_ GE112.out | refine below_set ?_ GE134.out) | exact HB.out))))
          (case aL => have := LMc38.out; omega)
          intro v143 w46 ho hb hg hat
          rw [← Ny142.out] at ho
          have n0_ := Aside0.mk (Kd.R_over' (by (with_reducible repeat (first | apply Kd.R_alloc | apply Kd.R_drewN | apply Kd.R_drew)); exact HO_135000.out) (Kd.S_typed (by (with_reducible repeat (first | apply Kd.S_alloc | apply Kd.S_drewN | apply Kd.S_drew)); exact HO_135004.out)) (by decide) hg)
          have n1_ := Aside0.mk (Kd.R_over' (by (with_reducible repeat (first | apply Kd.R_alloc | apply Kd.R_drewN | apply Kd.R_drew)); exact HO_135001.out) (Kd.S_typed (by (with_reducible repeat (first | apply Kd.S_alloc | apply Kd.S_drewN | apply Kd.S_drew)); exact HO_135004.out)) (by decide) hg)
          have n2_ := Aside0.mk (Kd.S_over' (by (with_reducible repeat (first | apply Kd.S_alloc | apply Kd.S_drewN | apply Kd.S_drew)); exact HO_135002.out) (Kd.S_typed (by (with_reducible repeat (first | apply Kd.S_alloc | apply Kd.S_drewN | apply Kd.S_drew)); exact HO_135004.out)) (by decide) hg)
          have n3_ := Aside0.mk (Kd.R_over' (by (with_reducible repeat (first | apply Kd.R_alloc | apply Kd.R_drewN | apply Kd.R_drew)); exact HO_135003.out) (Kd.S_typed (by (with_reducible repeat (first | apply Kd.S_alloc | apply Kd.S_drewN | apply Kd.S_drew)); exact HO_135004.out)) (by decide) hg)
          have n4_ := Aside0.mk (blk_grown (g := gb111) (o := .cells #[.slice A0_0 l0_0.length c0_0, .slice A0_1 l0_1.length c0_1, .slice A0_2 l0_2.length c0_2, .slice A0_3 l0_3.length c0_3, .slice (some ad138) l0_4.length c0_4, .int .i64 a0_5] 27 (0, 0)) (by (with_reducible repeat (first | refine blk_drewN ?_ _ | refine blk_drew ?_ | refine blk_alloc ?_ _)); exact BK111.out) hg (Kd.S_ne HO_135004.out BK111.out (by decide)))
          have n5_ := Aside0.mk (blk_grown (g := gb112) (o := .cells #[.slice none 0 0, .slice none 0 0, .slice none 0 0, .slice none 0 0, .slice none 0 0, .int .i64 0] 27 (0, 0)) (by (with_reducible repeat (first | refine blk_drewN ?_ _ | refine blk_drew ?_ | refine blk_alloc ?_ _)); exact BK112.out) hg (Kd.S_ne HO_135004.out BK112.out (by decide)))
          have n6_ := Aside0.mk (blk_grown (g := gb134) (o := .cells #[.slice Ao28 y116.length co28, .slice Ao27 y122.length co27, .slice Ao26 t125.length co26, .slice Ao25 y131.length co25, u135004, .int .i64 a0_5] 27 (0, 0)) (by (with_reducible repeat (first | refine blk_drewN ?_ _ | refine blk_drew ?_ | refine blk_alloc ?_ _)); exact BK134.out) hg (Kd.S_ne HO_135004.out BK134.out (by decide)))
          have n7_ := Aside0.mk (hb)
          have n8_ := Aside0.mk (ho)
          clear HO_135000
          clear HO_135001
          clear HO_135002
          clear HO_135003
          clear BK111
          clear BK112
          clear BK134
          clear HB
          clear HO_135004
          clear HO141
          have HO_135000 := n0_
          have HO_135001 := n1_
          have HO_135002 := n2_
          have HO_135003 := n3_
          have BK111 := n4_
          have BK112 := n5_
          have BK134 := n6_
          have HB := n7_
          have HO144 := n8_
          clear n0_ n1_ n2_ n3_ n4_ n5_ n6_ n7_ n8_
          clear ho hb hg hat
          obtain ⟨Ao48, co48, eo48⟩ := Kd.S_slice HO144.out
          (first | subst eo48 | (injection eo48 with f1_ f2_ f3_; have f4_ := f1_.symm; have f5_ := f3_.symm; clear f1_ f2_ f3_; subst f4_; subst f5_))
          refine hK.out _ _ ⟨(blk_cell BK134.out 0).trans rfl, (blk_cell BK134.out 1).trans rfl, (blk_cell BK134.out 2).trans rfl, (blk_cell BK134.out 3).trans rfl, (blk_cell BK134.out 4).trans rfl, (blk_cell BK134.out 5).trans rfl, (blk_cell BK111.out 0).trans rfl, (blk_cell BK111.out 1).trans rfl, (blk_cell BK111.out 2).trans rfl, (blk_cell BK111.out 3).trans rfl, (blk_cell BK111.out 4).trans rfl, (blk_cell BK111.out 5).trans rfl, ((HB.out.cell (World.block_lt_of_cell? w _ hw138_0)).trans hw138_0)⟩ (fun hHeld => ?_)
          clear hK K
          refine norm_ (a' := ?_) ?_ ?_
          rotate_left
          ·
           show Act.put _ (some 40) _ = _
           simp only [Act.put, List.setIfInBounds_toArray, List.set_cons_zero, List.set_cons_succ]
           rfl
          refine pure_ (i := 11) (N := some 41) (v := ?_) (a' := ?_) #[true, true, true, true, true, true, true, true, true, true, true, true, false] rfl rfl (any_of HT_.out (by kernel_rfl)) (fun _ _ _ h => h) (Or.inl ⟨by rfl, ?_⟩) ?_ ?_
          rotate_left
          ·
           intro w'
           go_simp
           with_reducible rfl
          rotate_left
          ·
           simp only [Act.put, List.setIfInBounds_toArray, List.set_cons_zero, List.set_cons_succ]
           rfl
          refine last_ (i := 12) (N := none) #[true, true, true, true, true, true, true, true, true, true, true, true, true] rfl rfl (one_of HT_.out (by kernel_rfl)) (by decide) (fun K hK => ?_)
          have hs49 : w46.cell? ⟨gb134, 4, none⟩ = some (u135004) := (blk_cell BK134.out 4).trans rfl
          have hfs49 := blk_frozen BK134.out 4
          have hns49_0 := NB111_134.out
          have hns49_1 := NB112_134.out
          have hms49_0 := NB134_111.out
          have hms49_1 := NB134_112.out
          refine skip_ (w1 := ?_) (by rfl) rfl ?_ ?_
          rotate_left
          ·
           go_simp
           rfl
          refine hK.out _ _ ?_
          clear hK K
          refine done_ (done_of HT_.out (by kernel_rfl)) ?_
          try go_wp2
          go_roundg k1
          case measure => have := HK1.out; omega
          case rel => exact ⟨(wrap64 (x4_1 + 1)), (y142), (.slice Ao48 y142.length co48), (by first | rfl | (simp; done) | (simp [*]; done)), H', ⟨by have := HK1.out; omega⟩, ⟨by (with_reducible repeat (first | apply Kd.R_alloc | apply Kd.R_drewN | apply Kd.R_drew)); exact Kd.R_mono (Kd.R_far (p := ⟨gb134, 4, none⟩) (Kd.R_types HO_135000.out BK134.out (by decide)) (fun _ hk => hk.2) (.slice Ao48 y142.length co48)) (fun _ hk => hk.1)⟩, ⟨by (with_reducible repeat (first | apply Kd.R_alloc | apply Kd.R_drewN | apply Kd.R_drew)); exact Kd.R_mono (Kd.R_far (p := ⟨gb134, 4, none⟩) (Kd.R_types HO_135001.out BK134.out (by decide)) (fun _ hk => hk.2) (.slice Ao48 y142.length co48)) (fun _ hk => hk.1)⟩, ⟨by (with_reducible repeat (first | apply Kd.S_alloc | apply Kd.S_drewN | apply Kd.S_drew)); exact Kd.S_mono (Kd.S_far (p := ⟨gb134, 4, none⟩) (Kd.S_types HO_135002.out BK134.out (by decide)) (fun _ hk => hk.2) (.slice Ao48 y142.length co48)) (fun _ hk => hk.1)⟩, ⟨by (with_reducible repeat (first | apply Kd.R_alloc | apply Kd.R_drewN | apply Kd.R_drew)); exact Kd.R_mono (Kd.R_far (p := ⟨gb134, 4, none⟩) (Kd.R_types HO_135003.out BK134.out (by decide)) (fun _ hk => hk.2) (.slice Ao48 y142.length co48)) (fun _ hk => trivial)⟩, ⟨by (with_reducible repeat (first | apply Kd.S_alloc | apply Kd.S_drewN | apply Kd.S_drew)); exact Kd.S_mono (Kd.S_far (p := ⟨gb134, 4, none⟩) (Kd.S_types HO144.out BK134.out (by decide)) (fun _ hk => hk.2) (.slice Ao48 y142.length co48)) (fun _ hk => trivial)⟩, ⟨by (with_reducible repeat (first | refine blk_drewN ?_ _ | refine blk_drew ?_ | refine blk_alloc ?_ _)); refine blk_far ?_ NB111_134.out _; (with_reducible repeat (first | refine blk_drewN ?_ _ | refine blk_drew ?_ | refine blk_alloc ?_ _)); exact BK111.out⟩, ⟨by (with_reducible repeat (first | refine blk_drewN ?_ _ | refine blk_drew ?_ | refine blk_alloc ?_ _)); refine blk_far ?_ NB112_134.out _; (with_reducible repeat (first | refine blk_drewN ?_ _ | refine blk_drew ?_ | refine blk_alloc ?_ _)); exact BK112.out⟩, ⟨by (with_reducible repeat (first | refine blk_drewN ?_ _ | refine blk_drew ?_ | refine blk_alloc ?_ _)); refine blk_put (cs := #[.slice Ao28 y116.length co28, .slice Ao27 y122.length co27, .slice Ao26 t125.length co26, .slice Ao25 y131.length co25, u135004, .int .i64 a0_5]) ?_ 4 _ rfl; (with_reducible repeat (first | refine blk_drewN ?_ _ | refine blk_drew ?_ | refine blk_alloc ?_ _)); exact BK134.out⟩, ⟨by repeat (first | (with_reducible first | exact HB.out | apply below_alloc | apply pw_below_drewN | apply below_drew1 | refine below_set ?_ GE111.out | refine below_set ?_ GE112.out | refine below_set ?_ GE134.out) | exact HB.out)⟩⟩
         ·
          rw [if_neg c38] at H
          exact absurd H (by simp)
        ·
         rw [if_neg c37] at H
         exact absurd H (by simp)
       ·
        rw [if_neg c36] at H
        exact absurd H (by simp)
      ·
       rw [if_neg c35] at H
       have c35b0 : decide (x4_1 < (l0_4.length : Int)) = false := decide_eq_false c35
       clear c35
       simp only [Option.some.injEq, Prod.mk.injEq] at H
       obtain ⟨rfl, rfl, rfl, rfl, rfl, rfl⟩ := H
       have hnb50 := NB111_112.out
       have hnc50 := NB112_111.out
       have hnb51 := NB111_134.out
       have hnc51 := NB134_111.out
       have hcz52_0 : wr.cell? ⟨gb111, 0, none⟩ = some (.slice A0_0 l0_0.length c0_0) := (blk_cell BK111.out 0).trans rfl
       have hcz52_1 : wr.cell? ⟨gb111, 1, none⟩ = some (.slice A0_1 l0_1.length c0_1) := (blk_cell BK111.out 1).trans rfl
       have hcz52_2 : wr.cell? ⟨gb111, 2, none⟩ = some (.slice A0_2 l0_2.length c0_2) := (blk_cell BK111.out 2).trans rfl
       have hcz52_3 : wr.cell? ⟨gb111, 3, none⟩ = some (.slice A0_3 l0_3.length c0_3) := (blk_cell BK111.out 3).trans rfl
       have hcz52_4 : wr.cell? ⟨gb111, 4, none⟩ = some (.slice A0_4 l0_4.length c0_4) := (blk_cell BK111.out 4).trans rfl
       have hcz52_5 : wr.cell? ⟨gb111, 5, none⟩ = some (.int .i64 a0_5) := (blk_cell BK111.out 5).trans rfl
       have hfz52_0 := blk_frozen BK111.out 0
       have hfz52_1 := blk_frozen BK111.out 1
       have hfz52_2 := blk_frozen BK111.out 2
       have hfz52_3 := blk_frozen BK111.out 3
       have hfz52_4 := blk_frozen BK111.out 4
       have hfz52_5 := blk_frozen BK111.out 5
       have hnb53 := NB134_112.out
       have hnc53 := NB112_134.out
       have hcz54_0 : wr.cell? ⟨gb134, 0, none⟩ = some (.slice Ao28 y116.length co28) := (blk_cell BK134.out 0).trans rfl
       have hcz54_1 : wr.cell? ⟨gb134, 1, none⟩ = some (.slice Ao27 y122.length co27) := (blk_cell BK134.out 1).trans rfl
       have hcz54_2 : wr.cell? ⟨gb134, 2, none⟩ = some (.slice Ao26 t125.length co26) := (blk_cell BK134.out 2).trans rfl
       have hcz54_3 : wr.cell? ⟨gb134, 3, none⟩ = some (.slice Ao25 y131.length co25) := (blk_cell BK134.out 3).trans rfl
       have hcz54_4 : wr.cell? ⟨gb134, 4, none⟩ = some (u135004) := (blk_cell BK134.out 4).trans rfl
       have hcz54_5 : wr.cell? ⟨gb134, 5, none⟩ = some (.int .i64 a0_5) := (blk_cell BK134.out 5).trans rfl
       have hfz54_0 := blk_frozen BK134.out 0
       have hfz54_1 := blk_frozen BK134.out 1
       have hfz54_2 := blk_frozen BK134.out 2
       have hfz54_3 := blk_frozen BK134.out 3
       have hfz54_4 := blk_frozen BK134.out 4
       have hfz54_5 := blk_frozen BK134.out 5
       have hcz55_0 : wr.cell? ⟨gb112, 0, none⟩ = some (.slice none 0 0) := (blk_cell BK112.out 0).trans rfl
       have hcz55_1 : wr.cell? ⟨gb112, 1, none⟩ = some (.slice none 0 0) := (blk_cell BK112.out 1).trans rfl
       have hcz55_2 : wr.cell? ⟨gb112, 2, none⟩ = some (.slice none 0 0) := (blk_cell BK112.out 2).trans rfl
       have hcz55_3 : wr.cell? ⟨gb112, 3, none⟩ = some (.slice none 0 0) := (blk_cell BK112.out 3).trans rfl
       have hcz55_4 : wr.cell? ⟨gb112, 4, none⟩ = some (.slice none 0 0) := (blk_cell BK112.out 4).trans rfl
       have hcz55_5 : wr.cell? ⟨gb112, 5, none⟩ = some (.int .i64 0) := (blk_cell BK112.out 5).trans rfl
       have hfz55_0 := blk_frozen BK112.out 0
       have hfz55_1 := blk_frozen BK112.out 1
       have hfz55_2 := blk_frozen BK112.out 2
       have hfz55_3 := blk_frozen BK112.out 3
       have hfz55_4 := blk_frozen BK112.out 4
       have hfz55_5 := blk_frozen BK112.out 5
       obtain ⟨Ao56, co56, eo56⟩ := Kd.S_slice HO_135004.out
       subst eo56
       go_wp2
       refine bodyPost_ret (results_cell_row rfl _ _ gb112 27 #[.slice Ao28 y116.length co28, .slice Ao27 y122.length co27, .slice Ao26 t125.length co26, .slice Ao25 y131.length co25, .slice Ao56 x135004_1.length co56, .int .i64 a0_5] (0, 0) _ rfl (by (with_reducible repeat (first | refine blk_drewN ?_ _ | refine blk_drew ?_ | refine blk_alloc ?_ _)); refine blk_put (cs := #[.slice Ao28 y116.length co28, .slice Ao27 y122.length co27, .slice Ao26 t125.length co26, .slice Ao25 y131.length co25, .slice Ao56 x135004_1.length co56, .int .i64 0]) ?_ 5 _ rfl; (with_reducible repeat (first | refine blk_drewN ?_ _ | refine blk_drew ?_ | refine blk_alloc ?_ _)); refine blk_put (cs := #[.slice Ao28 y116.length co28, .slice Ao27 y122.length co27, .slice Ao26 t125.length co26, .slice Ao25 y131.length co25, .slice none 0 0, .int .i64 0]) ?_ 4 _ rfl; (with_reducible repeat (first | refine blk_drewN ?_ _ | refine blk_drew ?_ | refine blk_alloc ?_ _)); refine blk_put (cs := #[.slice Ao28 y116.length co28, .slice Ao27 y122.length co27, .slice Ao26 t125.length co26, .slice none 0 0, .slice none 0 0, .int .i64 0]) ?_ 3 _ rfl; (with_reducible repeat (first | refine blk_drewN ?_ _ | refine blk_drew ?_ | refine blk_alloc ?_ _)); refine blk_put (cs := #[.slice Ao28 y116.length co28, .slice Ao27 y122.length co27, .slice none 0 0, .slice none 0 0, .slice none 0 0, .int .i64 0]) ?_ 2 _ rfl; (with_reducible repeat (first | refine blk_drewN ?_ _ | refine blk_drew ?_ | refine blk_alloc ?_ _)); refine blk_put (cs := #[.slice Ao28 y116.length co28, .slice none 0 0, .slice none 0 0, .slice none 0 0, .slice none 0 0, .int .i64 0]) ?_ 1 _ rfl; (with_reducible repeat (first | refine blk_drewN ?_ _ | refine blk_drew ?_ | refine blk_alloc ?_ _)); refine blk_put (cs := #[.slice none 0 0, .slice none 0 0, .slice none 0 0, .slice none 0 0, .slice none 0 0, .int .i64 0]) ?_ 0 _ rfl; (with_reducible repeat (first | refine blk_drewN ?_ _ | refine blk_drew ?_ | refine blk_alloc ?_ _)); exact BK112.out) Try.underlying27 rfl (by kernel_rfl)) rfl ?_
       exact ⟨_, _, _, _, _, by first | rfl | (simp [errW_none, errW_some] <;> rfl) | (simp [*, errW_none, errW_some] <;> rfl), by (with_reducible repeat (first | apply Kd.R_alloc | apply Kd.R_drewN | apply Kd.R_drew)); exact Kd.R_mono (Kd.R_far (p := ⟨gb112, 5, none⟩) (Kd.R_far (p := ⟨gb112, 4, none⟩) (Kd.R_far (p := ⟨gb112, 3, none⟩) (Kd.R_far (p := ⟨gb112, 2, none⟩) (Kd.R_far (p := ⟨gb112, 1, none⟩) (Kd.R_far (p := ⟨gb112, 0, none⟩) (Kd.R_types HO_135000.out BK112.out (by decide)) (fun _ hk => hk.2) (.slice Ao28 y116.length co28)) (fun _ hk => hk.2) (.slice Ao27 y122.length co27)) (fun _ hk => hk.2) (.slice Ao26 t125.length co26)) (fun _ hk => hk.2) (.slice Ao25 y131.length co25)) (fun _ hk => hk.2) (.slice Ao56 x135004_1.length co56)) (fun _ hk => hk.2) (.int .i64 a0_5)) (fun _ hk => hk.1), by (with_reducible repeat (first | apply Kd.R_alloc | apply Kd.R_drewN | apply Kd.R_drew)); exact Kd.R_mono (Kd.R_far (p := ⟨gb112, 5, none⟩) (Kd.R_far (p := ⟨gb112, 4, none⟩) (Kd.R_far (p := ⟨gb112, 3, none⟩) (Kd.R_far (p := ⟨gb112, 2, none⟩) (Kd.R_far (p := ⟨gb112, 1, none⟩) (Kd.R_far (p := ⟨gb112, 0, none⟩) (Kd.R_types HO_135001.out BK112.out (by decide)) (fun _ hk => hk.2) (.slice Ao28 y116.length co28)) (fun _ hk => hk.2) (.slice Ao27 y122.length co27)) (fun _ hk => hk.2) (.slice Ao26 t125.length co26)) (fun _ hk => hk.2) (.slice Ao25 y131.length co25)) (fun _ hk => hk.2) (.slice Ao56 x135004_1.length co56)) (fun _ hk => hk.2) (.int .i64 a0_5)) (fun _ hk => hk.1), by (with_reducible repeat (first | apply Kd.S_alloc | apply Kd.S_drewN | apply Kd.S_drew)); exact Kd.S_mono (Kd.S_far (p := ⟨gb112, 5, none⟩) (Kd.S_far (p := ⟨gb112, 4, none⟩) (Kd.S_far (p := ⟨gb112, 3, none⟩) (Kd.S_far (p := ⟨gb112, 2, none⟩) (Kd.S_far (p := ⟨gb112, 1, none⟩) (Kd.S_far (p := ⟨gb112, 0, none⟩) (Kd.S_types HO_135002.out BK112.out (by decide)) (fun _ hk => hk.2) (.slice Ao28 y116.length co28)) (fun _ hk => hk.2) (.slice Ao27 y122.length co27)) (fun _ hk => hk.2) (.slice Ao26 t125.length co26)) (fun _ hk => hk.2) (.slice Ao25 y131.length co25)) (fun _ hk => hk.2) (.slice Ao56 x135004_1.length co56)) (fun _ hk => hk.2) (.int .i64 a0_5)) (fun _ hk => hk.1), by (with_reducible repeat (first | apply Kd.R_alloc | apply Kd.R_drewN | apply Kd.R_drew)); exact Kd.R_mono (Kd.R_far (p := ⟨gb112, 5, none⟩) (Kd.R_far (p := ⟨gb112, 4, none⟩) (Kd.R_far (p := ⟨gb112, 3, none⟩) (Kd.R_far (p := ⟨gb112, 2, none⟩) (Kd.R_far (p := ⟨gb112, 1, none⟩) (Kd.R_far (p := ⟨gb112, 0, none⟩) (Kd.R_types HO_135003.out BK112.out (by decide)) (fun _ hk => hk.2) (.slice Ao28 y116.length co28)) (fun _ hk => hk.2) (.slice Ao27 y122.length co27)) (fun _ hk => hk.2) (.slice Ao26 t125.length co26)) (fun _ hk => hk.2) (.slice Ao25 y131.length co25)) (fun _ hk => hk.2) (.slice Ao56 x135004_1.length co56)) (fun _ hk => hk.2) (.int .i64 a0_5)) (fun _ hk => trivial), by (with_reducible repeat (first | apply Kd.S_alloc | apply Kd.S_drewN | apply Kd.S_drew)); exact Kd.S_mono (Kd.S_far (p := ⟨gb112, 5, none⟩) (Kd.S_far (p := ⟨gb112, 4, none⟩) (Kd.S_far (p := ⟨gb112, 3, none⟩) (Kd.S_far (p := ⟨gb112, 2, none⟩) (Kd.S_far (p := ⟨gb112, 1, none⟩) (Kd.S_far (p := ⟨gb112, 0, none⟩) (Kd.S_types HO_135004.out BK112.out (by decide)) (fun _ hk => hk.2) (.slice Ao28 y116.length co28)) (fun _ hk => hk.2) (.slice Ao27 y122.length co27)) (fun _ hk => hk.2) (.slice Ao26 t125.length co26)) (fun _ hk => hk.2) (.slice Ao25 y131.length co25)) (fun _ hk => hk.2) (.slice Ao56 x135004_1.length co56)) (fun _ hk => hk.2) (.int .i64 a0_5)) (fun _ hk => trivial), by repeat (first | (with_reducible first | exact HB.out | apply below_alloc | apply pw_below_drewN | apply below_drew1 | refine below_set ?_ GE111.out | refine below_set ?_ GE112.out | refine below_set ?_ GE134.out) | exact HB.out)⟩
   ·
    rw [if_neg c5] at H
    exact absurd H (by simp)
  ·
   rw [if_neg c3] at H
   exact absurd H (by simp)
 ·
  rw [if_neg c2] at H
  exact absurd H (by simp)

/-! ### slices_Clone_int_int: function 9 -/
def slices_Clone_int_int.f (l0 : List Int) : Option (List Int) := (some (([] : List Int) : List Int)).bind fun y145 => (if y145.length + l0.length < 17592186044416 then (some (y145 ++ l0)) else (none))
set_option maxHeartbeats 8000000 in
set_option maxRecDepth 100000 in
theorem slices_Clone_int_int.calls (A0 : Option Addr) (c0 : Nat) (l0 : List Int) (r : List Int) (w : World) (hr0 : Kd.C (Kd.int .i64) w A0 l0.length l0) (hc0 : l0.length ≤ c0) (h : slices_Clone_int_int.f l0 = some r) :
  Calls Try.prog 9 #[.slice A0 l0.length c0] w fun e w' => ∃ v0_ : Value, e = .returned (v0_) ∧ Kd.R (Kd.int .i64) 3 w' w.heap.size (fun _ => True) v0_ r ∧ Below w.heap.size w w' := by
 have HR0 := Aside0.mk hr0
 have HC0 := Aside0.mk hc0
 clear hr0 hc0
 have HB := Aside0.mk (Below.refl w.heap.size w)
 have H : ((some (([] : List Int) : List Int)).bind fun y145 => (if y145.length + l0.length < 17592186044416 then (some (y145 ++ l0)) else (none))) = some r := h
 clear h
 obtain ⟨y145, hy145⟩ : ∃ y_ : List Int, y_ = (([] : List Int)) := ⟨_, rfl⟩
 replace H : (if y145.length + l0.length < 17592186044416 then (some (y145 ++ l0)) else (none)) = some r := by first | (rw [hy145]; with_reducible exact H) | (have H2_ := (Option.bind_some _ _).symm.trans H; rw [hy145]; with_reducible exact H2_) | (have H2_ := (Option.bind_some _ _).symm.trans H; with_reducible exact H2_) | with_reducible exact H | (rw [hy145]; exact H) | exact H
 have Ny145 := Aside0.mk hy145
 clear hy145
 by_cases c2 : y145.length + l0.length < 17592186044416
 ·
  rw [if_pos c2] at H
  have LMc2 := Aside0.mk c2
  clear c2
  obtain ⟨y148, hy148⟩ : ∃ y_ : List Int, y_ = (y145 ++ l0) := ⟨_, rfl⟩
  replace H : (some y148) = some r := by first | (rw [hy148]; with_reducible exact H) | (have H2_ := (Option.bind_some _ _).symm.trans H; rw [hy148]; with_reducible exact H2_) | (have H2_ := (Option.bind_some _ _).symm.trans H; with_reducible exact H2_) | with_reducible exact H | (rw [hy148]; exact H) | exact H
  have Ny148 := Aside0.mk hy148
  clear hy148
  obtain rfl := Option.some.inj H
  have heq_ := fun (W : World) (a_ : Option Addr) (n_ c_ : Nat) => Lib.run_eql_slice_nil (P := Try.prog) W 22 3 a_ n_ c_ 0 0 Try.underlying22
  rcases A0 with _ | ad0
  ·
   have h0_ : l0 = [] := by
    rcases Nat.eq_zero_or_pos l0.length with z_ | z_
    ·
     exact List.eq_nil_of_length_eq_zero z_
    ·
     obtain ⟨ad_, e_, _⟩ := HR0.out.2.2 z_
     cases e_
   have e_ : y148 = [] := by rw [Ny148.out, Ny145.out, h0_]; rfl
   rw [e_]
   subst h0_
   go_enter Try.func9, Try.ntmps9
   go_wp2
   go_ret
   exact ⟨_, rfl, Kd.R_nil _ _ _ _ _, by repeat (first | exact Below.refl _ _ | exact HB.out)⟩
  go_enter Try.func9, Try.ntmps9
  go_wp2_with (first | ((with_reducible refine gate_dst (N := 5) rfl ?_); refine Kd.R_lit (Kd.int .i64) _ 3 ?hg (N := 5) ?hd (xs := ([] : List Int)) (inner := []) (ok := fun _ => True) (okp := fun _ => True) ?hr ?hp (fun _ hk => hk) trivial (Below.refl _ _) (Nat.le_refl _) (by simp) ?_; (case hd => rfl); (case hg => rfl); (case hr => first | (go_simp; done) | (go_simp; rfl)); (case hp => exact (Reps.none _ _)); intro v146 w3 ho4 hb hg_ hnew_; clear hg_ hnew_; (first | rw [← Ny145.out] at ho4 | (simp only [Int.reduceToNat] at ho4; rw [← Ny145.out] at ho4)); have n0_ := Aside0.mk (Kd.R_lower ho4 (below_size (by repeat (first | (with_reducible first | exact HB.out | apply below_alloc | apply pw_below_drewN | apply below_drew1) | exact HB.out)))); have n1_ := Aside0.mk (below_step (by repeat (first | (with_reducible first | exact HB.out | apply below_alloc | apply pw_below_drewN | apply below_drew1) | exact HB.out)) hb); clear HB; have HO147 := n0_; have HB := n1_; clear n0_ n1_; clear hb ho4) | ((with_reducible refine gate_builtin (b := .append) (xs := #[.tmp 5, .tmp 6]) rfl ?_); at_builtin; refine Kd.R_append_rows (Kd.int .i64) (w0 := w) w.heap.size rfl (.tmp 5) (.tmp 6) 22 3 (.int .i64 0) 8 rfl Try.underlying22 info3 rfl (by decide) (by omega) v146 y145 l0 _ _ _ (fun _ => True) (fun _ => False) rfl rfl ?aO ?aR (fun _ _ h => h) (fun _ h => h.elim) ?aF ?aB ?aS ?aL ?_; (case aR => repeat (first | exact (Kd.C_below HR0.out HB.out) | (with_reducible refine Kd.C_alloc ?_ _) | (with_reducible refine Kd.C_drewN ?_ _) | (with_reducible refine Kd.C_drew ?_))); (case aB => exact (by repeat (first | (with_reducible first | exact HB.out | apply below_alloc | apply pw_below_drewN | apply below_drew1) | exact HB.out))); (case aF => exact (fun _ _ => trivial)); (case aO => exact (by (with_reducible repeat (first | apply Kd.R_alloc | apply Kd.R_drewN | apply Kd.R_drew)); exact HO147.out)); (case aS => exact (below_size (by repeat (first | (with_reducible first | exact HB.out | apply below_alloc | apply pw_below_drewN | apply below_drew1) | exact HB.out)))); (case aL => have := LMc2.out; omega); intro v149 w5 ho hb hg hat; rw [← Ny148.out] at ho; have n0_ := Aside0.mk (hb); have n1_ := Aside0.mk (ho); clear HB; clear HO147; have HB := n0_; have HO150 := n1_; clear n0_ n1_; clear ho hb hg hat))
  go_ret
  exact ⟨_, by first | rfl | (simp [errW_none, errW_some] <;> rfl) | (simp [*, errW_none, errW_some] <;> rfl), by (with_reducible repeat (first | apply Kd.R_alloc | apply Kd.R_drewN | apply Kd.R_drew)); exact HO150.out, by repeat (first | (with_reducible first | exact HB.out | apply below_alloc | apply pw_below_drewN | apply below_drew1) | exact HB.out)⟩
 ·
  rw [if_neg c2] at H
  exact absurd H (by simp)

/-! ### slices_Clone_int64_int64: function 10 -/
def slices_Clone_int64_int64.f (l0 : List Int) : Option (List Int) := (some (([] : List Int) : List Int)).bind fun y151 => (if y151.length + l0.length < 17592186044416 then (some (y151 ++ l0)) else (none))
set_option maxHeartbeats 8000000 in
set_option maxRecDepth 100000 in
theorem slices_Clone_int64_int64.calls (A0 : Option Addr) (c0 : Nat) (l0 : List Int) (r : List Int) (w : World) (hr0 : Kd.C (Kd.int .i64) w A0 l0.length l0) (hc0 : l0.length ≤ c0) (h : slices_Clone_int64_int64.f l0 = some r) :
  Calls Try.prog 10 #[.slice A0 l0.length c0] w fun e w' => ∃ v0_ : Value, e = .returned (v0_) ∧ Kd.R (Kd.int .i64) 2 w' w.heap.size (fun _ => True) v0_ r ∧ Below w.heap.size w w' := by
 have HR0 := Aside0.mk hr0
 have HC0 := Aside0.mk hc0
 clear hr0 hc0
 have HB := Aside0.mk (Below.refl w.heap.size w)
 have H : ((some (([] : List Int) : List Int)).bind fun y151 => (if y151.length + l0.length < 17592186044416 then (some (y151 ++ l0)) else (none))) = some r := h
 clear h
 obtain ⟨y151, hy151⟩ : ∃ y_ : List Int, y_ = (([] : List Int)) := ⟨_, rfl⟩
 replace H : (if y151.length + l0.length < 17592186044416 then (some (y151 ++ l0)) else (none)) = some r := by first | (rw [hy151]; with_reducible exact H) | (have H2_ := (Option.bind_some _ _).symm.trans H; rw [hy151]; with_reducible exact H2_) | (have H2_ := (Option.bind_some _ _).symm.trans H; with_reducible exact H2_) | with_reducible exact H | (rw [hy151]; exact H) | exact H
 have Ny151 := Aside0.mk hy151
 clear hy151
 by_cases c2 : y151.length + l0.length < 17592186044416
 ·
  rw [if_pos c2] at H
  have LMc2 := Aside0.mk c2
  clear c2
  obtain ⟨y154, hy154⟩ : ∃ y_ : List Int, y_ = (y151 ++ l0) := ⟨_, rfl⟩
  replace H : (some y154) = some r := by first | (rw [hy154]; with_reducible exact H) | (have H2_ := (Option.bind_some _ _).symm.trans H; rw [hy154]; with_reducible exact H2_) | (have H2_ := (Option.bind_some _ _).symm.trans H; with_reducible exact H2_) | with_reducible exact H | (rw [hy154]; exact H) | exact H
  have Ny154 := Aside0.mk hy154
  clear hy154
  obtain rfl := Option.some.inj H
  have heq_ := fun (W : World) (a_ : Option Addr) (n_ c_ : Nat) => Lib.run_eql_slice_nil (P := Try.prog) W 24 2 a_ n_ c_ 0 0 Try.underlying24
  rcases A0 with _ | ad0
  ·
   have h0_ : l0 = [] := by
    rcases Nat.eq_zero_or_pos l0.length with z_ | z_
    ·
     exact List.eq_nil_of_length_eq_zero z_
    ·
     obtain ⟨ad_, e_, _⟩ := HR0.out.2.2 z_
     cases e_
   have e_ : y154 = [] := by rw [Ny154.out, Ny151.out, h0_]; rfl
   rw [e_]
   subst h0_
   go_enter Try.func10, Try.ntmps10
   go_wp2
   go_ret
   exact ⟨_, rfl, Kd.R_nil _ _ _ _ _, by repeat (first | exact Below.refl _ _ | exact HB.out)⟩
  go_enter Try.func10, Try.ntmps10
  go_wp2_with (first | ((with_reducible refine gate_dst (N := 5) rfl ?_); refine Kd.R_lit (Kd.int .i64) _ 2 ?hg (N := 5) ?hd (xs := ([] : List Int)) (inner := []) (ok := fun _ => True) (okp := fun _ => True) ?hr ?hp (fun _ hk => hk) trivial (Below.refl _ _) (Nat.le_refl _) (by simp) ?_; (case hd => rfl); (case hg => rfl); (case hr => first | (go_simp; done) | (go_simp; rfl)); (case hp => exact (Reps.none _ _)); intro v152 w3 ho4 hb hg_ hnew_; clear hg_ hnew_; (first | rw [← Ny151.out] at ho4 | (simp only [Int.reduceToNat] at ho4; rw [← Ny151.out] at ho4)); have n0_ := Aside0.mk (Kd.R_lower ho4 (below_size (by repeat (first | (with_reducible first | exact HB.out | apply below_alloc | apply pw_below_drewN | apply below_drew1) | exact HB.out)))); have n1_ := Aside0.mk (below_step (by repeat (first | (with_reducible first | exact HB.out | apply below_alloc | apply pw_below_drewN | apply below_drew1) | exact HB.out)) hb); clear HB; have HO153 := n0_; have HB := n1_; clear n0_ n1_; clear hb ho4) | ((with_reducible refine gate_builtin (b := .append) (xs := #[.tmp 5, .tmp 6]) rfl ?_); at_builtin; refine Kd.R_append_rows (Kd.int .i64) (w0 := w) w.heap.size rfl (.tmp 5) (.tmp 6) 24 2 (.int .i64 0) 8 rfl Try.underlying24 info2 rfl (by decide) (by omega) v152 y151 l0 _ _ _ (fun _ => True) (fun _ => False) rfl rfl ?aO ?aR (fun _ _ h => h) (fun _ h => h.elim) ?aF ?aB ?aS ?aL ?_; (case aR => repeat (first | exact (Kd.C_below HR0.out HB.out) | (with_reducible refine Kd.C_alloc ?_ _) | (with_reducible refine Kd.C_drewN ?_ _) | (with_reducible refine Kd.C_drew ?_))); (case aB => exact (by repeat (first | (with_reducible first | exact HB.out | apply below_alloc | apply pw_below_drewN | apply below_drew1) | exact HB.out))); (case aF => exact (fun _ _ => trivial)); (case aO => exact (by (with_reducible repeat (first | apply Kd.R_alloc | apply Kd.R_drewN | apply Kd.R_drew)); exact HO153.out)); (case aS => exact (below_size (by repeat (first | (with_reducible first | exact HB.out | apply below_alloc | apply pw_below_drewN | apply below_drew1) | exact HB.out)))); (case aL => have := LMc2.out; omega); intro v155 w5 ho hb hg hat; rw [← Ny154.out] at ho; have n0_ := Aside0.mk (hb); have n1_ := Aside0.mk (ho); clear HB; clear HO153; have HB := n0_; have HO156 := n1_; clear n0_ n1_; clear ho hb hg hat))
  go_ret
  exact ⟨_, by first | rfl | (simp [errW_none, errW_some] <;> rfl) | (simp [*, errW_none, errW_some] <;> rfl), by (with_reducible repeat (first | apply Kd.R_alloc | apply Kd.R_drewN | apply Kd.R_drew)); exact HO156.out, by repeat (first | (with_reducible first | exact HB.out | apply below_alloc | apply pw_below_drewN | apply below_drew1) | exact HB.out)⟩
 ·
  rw [if_neg c2] at H
  exact absurd H (by simp)

end Go.Proofs.Ytgooppfeikijeaa.P
