-- Printed by xprint.py, a program of this session over the kit's printer.
import Derived.Test.YtemhpbdlonfikaaP3
namespace Go.Proofs.Ytemhpbdlonfikaa.P
open Go.RowKit Go.Proofs.YtemhpbdlonfikaaW.PrintWords Go.Proofs.YtemhpbdlonfikaaW.PrintLast Go.Proofs.YtemhpbdlonfikaaW.PrintMore
attribute [local go_sem] max2_int min2_int max_two min_two max_three min_three max_four min_four   -- for this text's walks alone

/-! ### prog_kind: function 104 -/
def prog_kind.j0 : Nat → Int → Bool → Option (Bool × Bool × Bool × Bool × Int × Bool)
 | 0, _, _ => none
 | _ + 1, x4, x23 => if x23 = true then (some (true, false, true, false, 2, true)) else (if x4 = 8 then (some (false, true, true, false, 2, true)) else (some (false, false, false, false, 0, false)))
def prog_kind.f (k : Nat) (a0 : Int) : Option (Bool × Bool × Bool × Bool × Int × Bool) := if a0 = 1 then (some (true, false, false, true, 0, true)) else (if a0 = 2 then (some (true, true, false, false, 0, true)) else (if a0 = 3 then (some (true, false, true, false, 1, true)) else (if a0 = 4 then (some (false, false, true, true, 1, true)) else (if a0 = 5 then (some (false, true, true, false, 1, true)) else (if a0 = 6 then (some (false, false, false, false, 1, true)) else (if a0 = 7 then (prog_kind.j0 k a0 (a0 == 7)) else (prog_kind.j0 k a0 (a0 == 9))))))))
theorem prog_kind.mono_l : ∀ k, (∀ y0 y1, LeO (prog_kind.j0 k y0 y1) (prog_kind.j0 (k + 1) y0 y1))
 | 0 => fun _ _ r h => by simp [prog_kind.j0] at h
 | k + 1 => by
  have ih0 := prog_kind.mono_l k
  ·
   intro y0 y1; unfold prog_kind.j0
   repeat' first
   | (with_reducible exact ih0 _ _)
   | (with_reducible exact LeO.refl _)
   | (with_reducible exact LeO.none _)
   | (with_reducible refine LeO.ite ?_ ?_)
   | (with_reducible refine LeO.bind ?_ (fun _ => ?_))
   | exact ih0 _ _
   | exact LeO.none _
   | refine LeO.ite ?_ ?_
   | refine LeO.bind ?_ (fun _ => ?_)
theorem prog_kind.mono : ∀ a0 k, LeO (prog_kind.f k a0) (prog_kind.f (k + 1) a0) := by
 intro a0 k; have ih0 := prog_kind.mono_l k; unfold prog_kind.f
 repeat' first
   | (with_reducible exact ih0 _ _)
   | (with_reducible exact LeO.refl _)
   | (with_reducible exact LeO.none _)
   | (with_reducible refine LeO.ite ?_ ?_)
   | (with_reducible refine LeO.bind ?_ (fun _ => ?_))
   | exact ih0 _ _
   | exact LeO.none _
   | refine LeO.ite ?_ ?_
   | refine LeO.bind ?_ (fun _ => ?_)
set_option maxHeartbeats 8000000 in
set_option maxRecDepth 100000 in
theorem prog_kind.calls (k : Nat) (a0 : Int) (r1 : Bool) (r2 : Bool) (r3 : Bool) (r4 : Bool) (r5 : Int) (r6 : Bool) (w : World) (h : prog_kind.f k a0 = some (r1, r2, r3, r4, r5, r6)) :
  Calls Try.prog 104 #[.int .i64 a0] w fun e w' => e = .returned (.tuple #[.agg #[.bool r1, .bool r2, .bool r3, .bool r4, .int .i64 r5], .bool r6]) ∧ Below w.heap.size w w' := by
 have hu168 := Try.underlying168; have HB := Aside0.mk (Below.refl w.heap.size w); have H : (if a0 = 1 then (some (true, false, false, true, 0, true)) else (if a0 = 2 then (some (true, true, false, false, 0, true)) else (if a0 = 3 then (some (true, false, true, false, 1, true)) else (if a0 = 4 then (some (false, false, true, true, 1, true)) else (if a0 = 5 then (some (false, true, true, false, 1, true)) else (if a0 = 6 then (some (false, false, false, false, 1, true)) else (if a0 = 7 then (prog_kind.j0 k a0 (a0 == 7)) else (prog_kind.j0 k a0 (a0 == 9))))))))) = some (r1, r2, r3, r4, r5, r6) := h; clear h
 by_cases c2 : a0 = 1
 ·
  rw [if_pos c2] at H; have c2b0 : (a0 == 1) = true := beq_iff_eq.mpr c2; have c2b1 : (a0 != 1) = false := bne_eq_false_iff_eq.mpr c2; clear c2; simp only [Option.some.injEq, Prod.mk.injEq] at H; obtain ⟨rfl, rfl, rfl, rfl, rfl, rfl⟩ := H; go_enter Try.func104, Try.ntmps104
  go_wp2_with (first | ((with_reducible refine gate_dst (N := 2) rfl ?_); refine bx_ (N := 2) (cs := #[.bool false, .bool false, .bool false, .bool false, .int .i64 0]) (t := 168) ?_; intro gb119 hg w3 hbox hb; have n0_ := bs_ w hb; have n1_ := Aside0.mk (hbox); have n2_ := gl_ w hg; have n3_ := n2_; clear HB; have HB := n0_; have BK119 := n1_; have GW119 := n2_; have GE119 := n3_; clear n0_ n1_ n2_ n3_; clear hb hbox hg; obtain ⟨z4_0, z4_1, z4_2, z4_3, z4_4, y4_0, y4_1, y4_2, y4_3, y4_4⟩ := blkA5 BK119.out))
  refine bodyPost_ret (results_ct rfl _ _ gb119 168 #[.bool true, .bool false, .bool false, .bool true, .int .i64 0] (0, 0) _ rfl (by (with_reducible repeat (first | refine blk_drewN ?_ _ | refine blk_drew ?_ | refine blk_alloc ?_ _)); refine blk_put (cs := #[.bool true, .bool false, .bool false, .bool true, .int .i64 0]) ?_ 4 _ rfl; (with_reducible repeat (first | refine blk_drewN ?_ _ | refine blk_drew ?_ | refine blk_alloc ?_ _)); refine blk_put (cs := #[.bool true, .bool false, .bool false, .bool false, .int .i64 0]) ?_ 3 _ rfl; (with_reducible repeat (first | refine blk_drewN ?_ _ | refine blk_drew ?_ | refine blk_alloc ?_ _)); refine blk_put (cs := #[.bool true, .bool false, .bool false, .bool false, .int .i64 0]) ?_ 2 _ rfl; (with_reducible repeat (first | refine blk_drewN ?_ _ | refine blk_drew ?_ | refine blk_alloc ?_ _)); refine blk_put (cs := #[.bool true, .bool false, .bool false, .bool false, .int .i64 0]) ?_ 1 _ rfl; (with_reducible repeat (first | refine blk_drewN ?_ _ | refine blk_drew ?_ | refine blk_alloc ?_ _)); refine blk_put (cs := #[.bool false, .bool false, .bool false, .bool false, .int .i64 0]) ?_ 0 _ rfl; (with_reducible repeat (first | refine blk_drewN ?_ _ | refine blk_drew ?_ | refine blk_alloc ?_ _)); exact BK119.out) Try.underlying168 rfl (by kernel_rfl)) rfl ?_; exact ⟨ee_, bel_⟩
 ·
  rw [if_neg c2] at H; have c2b0 : (a0 == 1) = false := beq_eq_false_iff_ne.mpr c2; have c2b1 : (a0 != 1) = true := bne_iff_ne.mpr c2
  by_cases c5 : a0 = 2
  ·
   rw [if_pos c5] at H; have c5b0 : (a0 == 2) = true := beq_iff_eq.mpr c5; have c5b1 : (a0 != 2) = false := bne_eq_false_iff_eq.mpr c5; clear c5; simp only [Option.some.injEq, Prod.mk.injEq] at H; obtain ⟨rfl, rfl, rfl, rfl, rfl, rfl⟩ := H; go_enter Try.func104, Try.ntmps104
   go_wp2_with (first | ((with_reducible refine gate_dst (N := 2) rfl ?_); refine bx_ (N := 2) (cs := #[.bool false, .bool false, .bool false, .bool false, .int .i64 0]) (t := 168) ?_; intro gb119 hg w6 hbox hb; have n0_ := bs_ w hb; have n1_ := Aside0.mk (hbox); have n2_ := gl_ w hg; have n3_ := n2_; clear HB; have HB := n0_; have BK119 := n1_; have GW119 := n2_; have GE119 := n3_; clear n0_ n1_ n2_ n3_; clear hb hbox hg; obtain ⟨z7_0, z7_1, z7_2, z7_3, z7_4, y7_0, y7_1, y7_2, y7_3, y7_4⟩ := blkA5 BK119.out))
   refine bodyPost_ret (results_ct rfl _ _ gb119 168 #[.bool true, .bool true, .bool false, .bool false, .int .i64 0] (0, 0) _ rfl (by (with_reducible repeat (first | refine blk_drewN ?_ _ | refine blk_drew ?_ | refine blk_alloc ?_ _)); refine blk_put (cs := #[.bool true, .bool true, .bool false, .bool false, .int .i64 0]) ?_ 4 _ rfl; (with_reducible repeat (first | refine blk_drewN ?_ _ | refine blk_drew ?_ | refine blk_alloc ?_ _)); refine blk_put (cs := #[.bool true, .bool true, .bool false, .bool false, .int .i64 0]) ?_ 3 _ rfl; (with_reducible repeat (first | refine blk_drewN ?_ _ | refine blk_drew ?_ | refine blk_alloc ?_ _)); refine blk_put (cs := #[.bool true, .bool true, .bool false, .bool false, .int .i64 0]) ?_ 2 _ rfl; (with_reducible repeat (first | refine blk_drewN ?_ _ | refine blk_drew ?_ | refine blk_alloc ?_ _)); refine blk_put (cs := #[.bool true, .bool false, .bool false, .bool false, .int .i64 0]) ?_ 1 _ rfl; (with_reducible repeat (first | refine blk_drewN ?_ _ | refine blk_drew ?_ | refine blk_alloc ?_ _)); refine blk_put (cs := #[.bool false, .bool false, .bool false, .bool false, .int .i64 0]) ?_ 0 _ rfl; (with_reducible repeat (first | refine blk_drewN ?_ _ | refine blk_drew ?_ | refine blk_alloc ?_ _)); exact BK119.out) Try.underlying168 rfl (by kernel_rfl)) rfl ?_; exact ⟨ee_, bel_⟩
  ·
   rw [if_neg c5] at H; have c5b0 : (a0 == 2) = false := beq_eq_false_iff_ne.mpr c5; have c5b1 : (a0 != 2) = true := bne_iff_ne.mpr c5
   by_cases c8 : a0 = 3
   ·
    rw [if_pos c8] at H; have c8b0 : (a0 == 3) = true := beq_iff_eq.mpr c8; have c8b1 : (a0 != 3) = false := bne_eq_false_iff_eq.mpr c8; clear c8; simp only [Option.some.injEq, Prod.mk.injEq] at H; obtain ⟨rfl, rfl, rfl, rfl, rfl, rfl⟩ := H; go_enter Try.func104, Try.ntmps104
    go_wp2_with (first | ((with_reducible refine gate_dst (N := 2) rfl ?_); refine bx_ (N := 2) (cs := #[.bool false, .bool false, .bool false, .bool false, .int .i64 0]) (t := 168) ?_; intro gb119 hg w9 hbox hb; have n0_ := bs_ w hb; have n1_ := Aside0.mk (hbox); have n2_ := gl_ w hg; have n3_ := n2_; clear HB; have HB := n0_; have BK119 := n1_; have GW119 := n2_; have GE119 := n3_; clear n0_ n1_ n2_ n3_; clear hb hbox hg; obtain ⟨z10_0, z10_1, z10_2, z10_3, z10_4, y10_0, y10_1, y10_2, y10_3, y10_4⟩ := blkA5 BK119.out))
    refine bodyPost_ret (results_ct rfl _ _ gb119 168 #[.bool true, .bool false, .bool true, .bool false, .int .i64 1] (0, 0) _ rfl (by (with_reducible repeat (first | refine blk_drewN ?_ _ | refine blk_drew ?_ | refine blk_alloc ?_ _)); refine blk_put (cs := #[.bool true, .bool false, .bool true, .bool false, .int .i64 0]) ?_ 4 _ rfl; (with_reducible repeat (first | refine blk_drewN ?_ _ | refine blk_drew ?_ | refine blk_alloc ?_ _)); refine blk_put (cs := #[.bool true, .bool false, .bool true, .bool false, .int .i64 0]) ?_ 3 _ rfl; (with_reducible repeat (first | refine blk_drewN ?_ _ | refine blk_drew ?_ | refine blk_alloc ?_ _)); refine blk_put (cs := #[.bool true, .bool false, .bool false, .bool false, .int .i64 0]) ?_ 2 _ rfl; (with_reducible repeat (first | refine blk_drewN ?_ _ | refine blk_drew ?_ | refine blk_alloc ?_ _)); refine blk_put (cs := #[.bool true, .bool false, .bool false, .bool false, .int .i64 0]) ?_ 1 _ rfl; (with_reducible repeat (first | refine blk_drewN ?_ _ | refine blk_drew ?_ | refine blk_alloc ?_ _)); refine blk_put (cs := #[.bool false, .bool false, .bool false, .bool false, .int .i64 0]) ?_ 0 _ rfl; (with_reducible repeat (first | refine blk_drewN ?_ _ | refine blk_drew ?_ | refine blk_alloc ?_ _)); exact BK119.out) Try.underlying168 rfl (by kernel_rfl)) rfl ?_; exact ⟨ee_, bel_⟩
   ·
    rw [if_neg c8] at H; have c8b0 : (a0 == 3) = false := beq_eq_false_iff_ne.mpr c8; have c8b1 : (a0 != 3) = true := bne_iff_ne.mpr c8
    by_cases c11 : a0 = 4
    ·
     rw [if_pos c11] at H; have c11b0 : (a0 == 4) = true := beq_iff_eq.mpr c11; have c11b1 : (a0 != 4) = false := bne_eq_false_iff_eq.mpr c11; clear c11; simp only [Option.some.injEq, Prod.mk.injEq] at H; obtain ⟨rfl, rfl, rfl, rfl, rfl, rfl⟩ := H; go_enter Try.func104, Try.ntmps104
     go_wp2_with (first | ((with_reducible refine gate_dst (N := 2) rfl ?_); refine bx_ (N := 2) (cs := #[.bool false, .bool false, .bool false, .bool false, .int .i64 0]) (t := 168) ?_; intro gb119 hg w12 hbox hb; have n0_ := bs_ w hb; have n1_ := Aside0.mk (hbox); have n2_ := gl_ w hg; have n3_ := n2_; clear HB; have HB := n0_; have BK119 := n1_; have GW119 := n2_; have GE119 := n3_; clear n0_ n1_ n2_ n3_; clear hb hbox hg; obtain ⟨z13_0, z13_1, z13_2, z13_3, z13_4, y13_0, y13_1, y13_2, y13_3, y13_4⟩ := blkA5 BK119.out))
     refine bodyPost_ret (results_ct rfl _ _ gb119 168 #[.bool false, .bool false, .bool true, .bool true, .int .i64 1] (0, 0) _ rfl (by (with_reducible repeat (first | refine blk_drewN ?_ _ | refine blk_drew ?_ | refine blk_alloc ?_ _)); refine blk_put (cs := #[.bool false, .bool false, .bool true, .bool true, .int .i64 0]) ?_ 4 _ rfl; (with_reducible repeat (first | refine blk_drewN ?_ _ | refine blk_drew ?_ | refine blk_alloc ?_ _)); refine blk_put (cs := #[.bool false, .bool false, .bool true, .bool false, .int .i64 0]) ?_ 3 _ rfl; (with_reducible repeat (first | refine blk_drewN ?_ _ | refine blk_drew ?_ | refine blk_alloc ?_ _)); refine blk_put (cs := #[.bool false, .bool false, .bool false, .bool false, .int .i64 0]) ?_ 2 _ rfl; (with_reducible repeat (first | refine blk_drewN ?_ _ | refine blk_drew ?_ | refine blk_alloc ?_ _)); refine blk_put (cs := #[.bool false, .bool false, .bool false, .bool false, .int .i64 0]) ?_ 1 _ rfl; (with_reducible repeat (first | refine blk_drewN ?_ _ | refine blk_drew ?_ | refine blk_alloc ?_ _)); refine blk_put (cs := #[.bool false, .bool false, .bool false, .bool false, .int .i64 0]) ?_ 0 _ rfl; (with_reducible repeat (first | refine blk_drewN ?_ _ | refine blk_drew ?_ | refine blk_alloc ?_ _)); exact BK119.out) Try.underlying168 rfl (by kernel_rfl)) rfl ?_; exact ⟨ee_, bel_⟩
    ·
     rw [if_neg c11] at H; have c11b0 : (a0 == 4) = false := beq_eq_false_iff_ne.mpr c11; have c11b1 : (a0 != 4) = true := bne_iff_ne.mpr c11
     by_cases c14 : a0 = 5
     ·
      rw [if_pos c14] at H; have c14b0 : (a0 == 5) = true := beq_iff_eq.mpr c14; have c14b1 : (a0 != 5) = false := bne_eq_false_iff_eq.mpr c14; clear c14; simp only [Option.some.injEq, Prod.mk.injEq] at H; obtain ⟨rfl, rfl, rfl, rfl, rfl, rfl⟩ := H; go_enter Try.func104, Try.ntmps104
      go_wp2_with (first | ((with_reducible refine gate_dst (N := 2) rfl ?_); refine bx_ (N := 2) (cs := #[.bool false, .bool false, .bool false, .bool false, .int .i64 0]) (t := 168) ?_; intro gb119 hg w15 hbox hb; have n0_ := bs_ w hb; have n1_ := Aside0.mk (hbox); have n2_ := gl_ w hg; have n3_ := n2_; clear HB; have HB := n0_; have BK119 := n1_; have GW119 := n2_; have GE119 := n3_; clear n0_ n1_ n2_ n3_; clear hb hbox hg; obtain ⟨z16_0, z16_1, z16_2, z16_3, z16_4, y16_0, y16_1, y16_2, y16_3, y16_4⟩ := blkA5 BK119.out))
      refine bodyPost_ret (results_ct rfl _ _ gb119 168 #[.bool false, .bool true, .bool true, .bool false, .int .i64 1] (0, 0) _ rfl (by (with_reducible repeat (first | refine blk_drewN ?_ _ | refine blk_drew ?_ | refine blk_alloc ?_ _)); refine blk_put (cs := #[.bool false, .bool true, .bool true, .bool false, .int .i64 0]) ?_ 4 _ rfl; (with_reducible repeat (first | refine blk_drewN ?_ _ | refine blk_drew ?_ | refine blk_alloc ?_ _)); refine blk_put (cs := #[.bool false, .bool true, .bool true, .bool false, .int .i64 0]) ?_ 3 _ rfl; (with_reducible repeat (first | refine blk_drewN ?_ _ | refine blk_drew ?_ | refine blk_alloc ?_ _)); refine blk_put (cs := #[.bool false, .bool true, .bool false, .bool false, .int .i64 0]) ?_ 2 _ rfl; (with_reducible repeat (first | refine blk_drewN ?_ _ | refine blk_drew ?_ | refine blk_alloc ?_ _)); refine blk_put (cs := #[.bool false, .bool false, .bool false, .bool false, .int .i64 0]) ?_ 1 _ rfl; (with_reducible repeat (first | refine blk_drewN ?_ _ | refine blk_drew ?_ | refine blk_alloc ?_ _)); refine blk_put (cs := #[.bool false, .bool false, .bool false, .bool false, .int .i64 0]) ?_ 0 _ rfl; (with_reducible repeat (first | refine blk_drewN ?_ _ | refine blk_drew ?_ | refine blk_alloc ?_ _)); exact BK119.out) Try.underlying168 rfl (by kernel_rfl)) rfl ?_; exact ⟨ee_, bel_⟩
     ·
      rw [if_neg c14] at H; have c14b0 : (a0 == 5) = false := beq_eq_false_iff_ne.mpr c14; have c14b1 : (a0 != 5) = true := bne_iff_ne.mpr c14
      by_cases c17 : a0 = 6
      ·
       rw [if_pos c17] at H; have c17b0 : (a0 == 6) = true := beq_iff_eq.mpr c17; have c17b1 : (a0 != 6) = false := bne_eq_false_iff_eq.mpr c17; clear c17; simp only [Option.some.injEq, Prod.mk.injEq] at H; obtain ⟨rfl, rfl, rfl, rfl, rfl, rfl⟩ := H; go_enter Try.func104, Try.ntmps104
       go_wp2_with (first | ((with_reducible refine gate_dst (N := 2) rfl ?_); refine bx_ (N := 2) (cs := #[.bool false, .bool false, .bool false, .bool false, .int .i64 0]) (t := 168) ?_; intro gb119 hg w18 hbox hb; have n0_ := bs_ w hb; have n1_ := Aside0.mk (hbox); have n2_ := gl_ w hg; have n3_ := n2_; clear HB; have HB := n0_; have BK119 := n1_; have GW119 := n2_; have GE119 := n3_; clear n0_ n1_ n2_ n3_; clear hb hbox hg; obtain ⟨z19_0, z19_1, z19_2, z19_3, z19_4, y19_0, y19_1, y19_2, y19_3, y19_4⟩ := blkA5 BK119.out))
       refine bodyPost_ret (results_ct rfl _ _ gb119 168 #[.bool false, .bool false, .bool false, .bool false, .int .i64 1] (0, 0) _ rfl (by (with_reducible repeat (first | refine blk_drewN ?_ _ | refine blk_drew ?_ | refine blk_alloc ?_ _)); refine blk_put (cs := #[.bool false, .bool false, .bool false, .bool false, .int .i64 0]) ?_ 4 _ rfl; (with_reducible repeat (first | refine blk_drewN ?_ _ | refine blk_drew ?_ | refine blk_alloc ?_ _)); refine blk_put (cs := #[.bool false, .bool false, .bool false, .bool false, .int .i64 0]) ?_ 3 _ rfl; (with_reducible repeat (first | refine blk_drewN ?_ _ | refine blk_drew ?_ | refine blk_alloc ?_ _)); refine blk_put (cs := #[.bool false, .bool false, .bool false, .bool false, .int .i64 0]) ?_ 2 _ rfl; (with_reducible repeat (first | refine blk_drewN ?_ _ | refine blk_drew ?_ | refine blk_alloc ?_ _)); refine blk_put (cs := #[.bool false, .bool false, .bool false, .bool false, .int .i64 0]) ?_ 1 _ rfl; (with_reducible repeat (first | refine blk_drewN ?_ _ | refine blk_drew ?_ | refine blk_alloc ?_ _)); refine blk_put (cs := #[.bool false, .bool false, .bool false, .bool false, .int .i64 0]) ?_ 0 _ rfl; (with_reducible repeat (first | refine blk_drewN ?_ _ | refine blk_drew ?_ | refine blk_alloc ?_ _)); exact BK119.out) Try.underlying168 rfl (by kernel_rfl)) rfl ?_; exact ⟨ee_, bel_⟩
      ·
       rw [if_neg c17] at H; have c17b0 : (a0 == 6) = false := beq_eq_false_iff_ne.mpr c17; have c17b1 : (a0 != 6) = true := bne_iff_ne.mpr c17; have HC20 := Aside0.mk H; clear H; go_enter Try.func104, Try.ntmps104
       go_upto_if 23 with (first | ((with_reducible refine gate_dst (N := 2) rfl ?_); refine bx_ (N := 2) (cs := #[.bool false, .bool false, .bool false, .bool false, .int .i64 0]) (t := 168) ?_; intro gb119 hg w21 hbox hb; have n0_ := bs_ w hb; have n1_ := Aside0.mk (hbox); have n2_ := gl_ w hg; have n3_ := n2_; clear HB; have HB := n0_; have BK119 := n1_; have GW119 := n2_; have GE119 := n3_; clear n0_ n1_ n2_ n3_; clear hb hbox hg))
       (try simp only [Act.put, List.setIfInBounds_toArray, List.set_cons_zero, List.set_cons_succ])
       go_cut [23] (fun v23 wc => ∃ (kq : Nat) (x23_19 : Bool), v23 = .bool x23_19 ∧ Aside0 (prog_kind.j0 kq a0 x23_19 = some (r1, r2, r3, r4, r5, r6)) ∧ Aside0 (kq ≤ k) ∧ Aside0 (wc.heap[gb119]? = some (.cells #[.bool false, .bool false, .bool false, .bool false, .int .i64 0] 168 (0, 0))) ∧ Aside0 (Below w.heap.size w wc))
       case first =>
        have H := HC20.out; clear HC20
        by_cases c22 : a0 = 7
        ·
         rw [if_pos c22] at H; have c22b0 : (a0 == 7) = true := beq_iff_eq.mpr c22; have c22b1 : (a0 != 7) = false := bne_eq_false_iff_eq.mpr c22; clear c22
         (first | rw [c22b0] | (simp only [i64_w, i32_w]; rw [c22b0]) | skip)
         have H' := Aside0.mk H; clear H; go_wp2; go_meet
         case rel => exact ⟨_, ((a0 == 7)), ff_, H', ⟨by first | omega | exact Nat.le_refl _⟩, ⟨bk_ BK119⟩, ⟨bel_⟩⟩
        ·
         rw [if_neg c22] at H; have c22b0 : (a0 == 7) = false := beq_eq_false_iff_ne.mpr c22; have c22b1 : (a0 != 7) = true := bne_iff_ne.mpr c22
         (first | rw [c22b0] | (simp only [i64_w, i32_w]; rw [c22b0]) | skip)
         have H' := Aside0.mk H; clear H; go_wp2; go_meet
         case rel => exact ⟨_, ((a0 == 9)), ff_, H', ⟨by first | omega | exact Nat.le_refl _⟩, ⟨bk_ BK119⟩, ⟨bel_⟩⟩
       case rest =>
        clear HC20; (try clear c2); (try clear c2b0); (try clear c2b1); (try clear c5); (try clear c5b0); (try clear c5b1); (try clear c8); (try clear c8b0); (try clear c8b1); (try clear c11); (try clear c11b0); (try clear c11b1); (try clear c14); (try clear c14b0); (try clear c14b1); (try clear c17); (try clear c17b0); (try clear c17b1); obtain ⟨kq, x23_19, rfl, HA, HJ19, BK119, HB⟩ := hcut
        cases kq with
        | zero => exact absurd HA.out (by simp [prog_kind.j0])
        | succ kj19 =>
         have H := HA.out; clear HA; simp only [prog_kind.j0] at H
         by_cases c23 : x23_19 = true
         ·
          subst c23; have H1 : (some (true, false, true, false, 2, true)) = some (r1, r2, r3, r4, r5, r6) := by rw [if_pos rfl] at H; exact H
          clear H; have H := H1; clear H1; simp only [Option.some.injEq, Prod.mk.injEq] at H; obtain ⟨rfl, rfl, rfl, rfl, rfl, rfl⟩ := H; obtain ⟨z24_0, z24_1, z24_2, z24_3, z24_4, y24_0, y24_1, y24_2, y24_3, y24_4⟩ := blkA5 BK119.out; go_wp2; refine bodyPost_ret (results_ct rfl _ _ gb119 168 #[.bool true, .bool false, .bool true, .bool false, .int .i64 2] (0, 0) _ rfl (by (with_reducible repeat (first | refine blk_drewN ?_ _ | refine blk_drew ?_ | refine blk_alloc ?_ _)); refine blk_put (cs := #[.bool true, .bool false, .bool true, .bool false, .int .i64 0]) ?_ 4 _ rfl; (with_reducible repeat (first | refine blk_drewN ?_ _ | refine blk_drew ?_ | refine blk_alloc ?_ _)); refine blk_put (cs := #[.bool true, .bool false, .bool true, .bool false, .int .i64 0]) ?_ 3 _ rfl; (with_reducible repeat (first | refine blk_drewN ?_ _ | refine blk_drew ?_ | refine blk_alloc ?_ _)); refine blk_put (cs := #[.bool true, .bool false, .bool false, .bool false, .int .i64 0]) ?_ 2 _ rfl; (with_reducible repeat (first | refine blk_drewN ?_ _ | refine blk_drew ?_ | refine blk_alloc ?_ _)); refine blk_put (cs := #[.bool true, .bool false, .bool false, .bool false, .int .i64 0]) ?_ 1 _ rfl; (with_reducible repeat (first | refine blk_drewN ?_ _ | refine blk_drew ?_ | refine blk_alloc ?_ _)); refine blk_put (cs := #[.bool false, .bool false, .bool false, .bool false, .int .i64 0]) ?_ 0 _ rfl; (with_reducible repeat (first | refine blk_drewN ?_ _ | refine blk_drew ?_ | refine blk_alloc ?_ _)); exact BK119.out) Try.underlying168 rfl (by kernel_rfl)) rfl ?_; exact ⟨ee_, bel_⟩
         ·
          replace c23 := Bool.eq_false_iff.mpr c23; subst c23; have H1 : (if a0 = 8 then (some (false, true, true, false, 2, true)) else (some (false, false, false, false, 0, false))) = some (r1, r2, r3, r4, r5, r6) := by rw [if_neg (show ¬ (false = true) by decide)] at H; exact H
          clear H; have H := H1; clear H1
          by_cases c25 : a0 = 8
          ·
           rw [if_pos c25] at H; have c25b0 : (a0 == 8) = true := beq_iff_eq.mpr c25; have c25b1 : (a0 != 8) = false := bne_eq_false_iff_eq.mpr c25; clear c25; simp only [Option.some.injEq, Prod.mk.injEq] at H; obtain ⟨rfl, rfl, rfl, rfl, rfl, rfl⟩ := H; obtain ⟨z26_0, z26_1, z26_2, z26_3, z26_4, y26_0, y26_1, y26_2, y26_3, y26_4⟩ := blkA5 BK119.out; go_wp2; refine bodyPost_ret (results_ct rfl _ _ gb119 168 #[.bool false, .bool true, .bool true, .bool false, .int .i64 2] (0, 0) _ rfl (by (with_reducible repeat (first | refine blk_drewN ?_ _ | refine blk_drew ?_ | refine blk_alloc ?_ _)); refine blk_put (cs := #[.bool false, .bool true, .bool true, .bool false, .int .i64 0]) ?_ 4 _ rfl; (with_reducible repeat (first | refine blk_drewN ?_ _ | refine blk_drew ?_ | refine blk_alloc ?_ _)); refine blk_put (cs := #[.bool false, .bool true, .bool true, .bool false, .int .i64 0]) ?_ 3 _ rfl; (with_reducible repeat (first | refine blk_drewN ?_ _ | refine blk_drew ?_ | refine blk_alloc ?_ _)); refine blk_put (cs := #[.bool false, .bool true, .bool false, .bool false, .int .i64 0]) ?_ 2 _ rfl; (with_reducible repeat (first | refine blk_drewN ?_ _ | refine blk_drew ?_ | refine blk_alloc ?_ _)); refine blk_put (cs := #[.bool false, .bool false, .bool false, .bool false, .int .i64 0]) ?_ 1 _ rfl; (with_reducible repeat (first | refine blk_drewN ?_ _ | refine blk_drew ?_ | refine blk_alloc ?_ _)); refine blk_put (cs := #[.bool false, .bool false, .bool false, .bool false, .int .i64 0]) ?_ 0 _ rfl; (with_reducible repeat (first | refine blk_drewN ?_ _ | refine blk_drew ?_ | refine blk_alloc ?_ _)); exact BK119.out) Try.underlying168 rfl (by kernel_rfl)) rfl ?_; exact ⟨ee_, bel_⟩
          ·
           rw [if_neg c25] at H; have c25b0 : (a0 == 8) = false := beq_eq_false_iff_ne.mpr c25; have c25b1 : (a0 != 8) = true := bne_iff_ne.mpr c25; simp only [Option.some.injEq, Prod.mk.injEq] at H; obtain ⟨rfl, rfl, rfl, rfl, rfl, rfl⟩ := H; obtain ⟨z27_0, z27_1, z27_2, z27_3, z27_4, y27_0, y27_1, y27_2, y27_3, y27_4⟩ := blkA5 BK119.out; go_wp2; refine bodyPost_ret (results_ct rfl _ _ gb119 168 #[.bool false, .bool false, .bool false, .bool false, .int .i64 0] (0, 0) _ rfl (by (with_reducible repeat (first | refine blk_drewN ?_ _ | refine blk_drew ?_ | refine blk_alloc ?_ _)); refine blk_put (cs := #[.bool false, .bool false, .bool false, .bool false, .int .i64 0]) ?_ 4 _ rfl; (with_reducible repeat (first | refine blk_drewN ?_ _ | refine blk_drew ?_ | refine blk_alloc ?_ _)); refine blk_put (cs := #[.bool false, .bool false, .bool false, .bool false, .int .i64 0]) ?_ 3 _ rfl; (with_reducible repeat (first | refine blk_drewN ?_ _ | refine blk_drew ?_ | refine blk_alloc ?_ _)); refine blk_put (cs := #[.bool false, .bool false, .bool false, .bool false, .int .i64 0]) ?_ 2 _ rfl; (with_reducible repeat (first | refine blk_drewN ?_ _ | refine blk_drew ?_ | refine blk_alloc ?_ _)); refine blk_put (cs := #[.bool false, .bool false, .bool false, .bool false, .int .i64 0]) ?_ 1 _ rfl; (with_reducible repeat (first | refine blk_drewN ?_ _ | refine blk_drew ?_ | refine blk_alloc ?_ _)); refine blk_put (cs := #[.bool false, .bool false, .bool false, .bool false, .int .i64 0]) ?_ 0 _ rfl; (with_reducible repeat (first | refine blk_drewN ?_ _ | refine blk_drew ?_ | refine blk_alloc ?_ _)); exact BK119.out) Try.underlying168 rfl (by kernel_rfl)) rfl ?_; exact ⟨ee_, bel_⟩

/-! ### prog_fits_1: function 105 -/
def prog_fits_1.f (a0 : Bool) (a1 : Int) (a2 : Int) : Option (Bool) := if a0 = true then (if a1 ≥ 0 then (some (decide (a1 < a2))) else (some false)) else (some (a1 == 0))
set_option maxHeartbeats 8000000 in
set_option maxRecDepth 100000 in
theorem prog_fits_1.calls (a0 : Bool) (a1 : Int) (a2 : Int) (r : Bool) (w : World) (h : prog_fits_1.f a0 a1 a2 = some r) :
  Calls Try.prog 105 #[.bool a0, .int .i64 a1, .int .i64 a2] w fun e w' => e = .returned (.bool r) ∧ Drawn0 w w' := by
 have H : (if a0 = true then (if a1 ≥ 0 then (some (decide (a1 < a2))) else (some false)) else (some (a1 == 0))) = some r := h; clear h
 by_cases c4 : a0 = true
 ·
  subst c4; have H1 : (if a1 ≥ 0 then (some (decide (a1 < a2))) else (some false)) = some r := by rw [if_pos rfl] at H; exact H
  clear H; have H := H1; clear H1
  by_cases c5 : a1 ≥ 0
  ·
   rw [if_pos c5] at H; have c5b0 : decide (0 ≤ a1) = true := decide_eq_true c5; clear c5; obtain rfl := Option.some.inj H; go_enter Try.func105, Try.ntmps105; go_wp2
   go_ret
   exact ⟨ff_, by repeat (first | exact Drawn0.refl _ | apply Drawn0.step)⟩
  ·
   rw [if_neg c5] at H; have c5b0 : decide (0 ≤ a1) = false := decide_eq_false c5; clear c5; obtain rfl := Option.some.inj H; go_enter Try.func105, Try.ntmps105; go_wp2
   go_ret
   exact ⟨ff_, by repeat (first | exact Drawn0.refl _ | apply Drawn0.step)⟩
 ·
  replace c4 := Bool.eq_false_iff.mpr c4; subst c4; have H1 : (some (a1 == 0)) = some r := by rw [if_neg (show ¬ (false = true) by decide)] at H; exact H
  clear H; have H := H1; clear H1; obtain rfl := Option.some.inj H; go_enter Try.func105, Try.ntmps105; go_wp2
  go_ret
  exact ⟨ff_, by repeat (first | exact Drawn0.refl _ | apply Drawn0.step)⟩

/-! ### prog_fits: function 78 -/
def prog_fits.j0 : Nat → List ByteArray → Bool → Int → Int → Int → Int → Int → Bool → Bool → Bool → Bool → Int → Option (Bool)
 | 0, _, _, _, _, _, _, _, _, _, _, _, _ => none
 | _ + 1, x1, x49, x121000, x121001, _, _, _, x128000, _, _, _, _ => if x49 = true then (some false) else (if x121000 = 8 then (if x121001 ≥ 0 then (if x121001 < (x1.length : Int) then (if 0 ≤ x121001 then (some ((rdOf ByteArray.empty x1 x121001).toList == ([69, 65, 88] : List UInt8))) else (none)) else (some false)) else (some false)) else ((prog_fits_1.f x128000 x121001 (x1.length : Int)).bind fun t131 => (some t131)))
def prog_fits.f (k : Nat) (a0_0 : Int) (a0_1 : Int) (a0_2 : Int) (a0_3 : Int) (a0_4 : Int) (l1 : List ByteArray) (l2 : List ByteArray) : Option (Bool) := (prog_kind.f k a0_0).bind fun bt121 => (if bt121.2.2.2.2.2 = true then ((prog_fits_1.f bt121.2.1 a0_2 (l1.length : Int)).bind fun t128 => (if t128 = true then ((prog_fits_1.f bt121.2.2.1 a0_3 (l2.length : Int)).bind fun t129 => (if t129 = true then (if bt121.2.2.2.1 = true then (prog_fits.j0 k l1 false a0_0 a0_1 a0_2 a0_3 a0_4 bt121.1 bt121.2.1 bt121.2.2.1 bt121.2.2.2.1 bt121.2.2.2.2.1) else (prog_fits.j0 k l1 (a0_4 != 0) a0_0 a0_1 a0_2 a0_3 a0_4 bt121.1 bt121.2.1 bt121.2.2.1 bt121.2.2.2.1 bt121.2.2.2.2.1)) else (prog_fits.j0 k l1 true a0_0 a0_1 a0_2 a0_3 a0_4 bt121.1 bt121.2.1 bt121.2.2.1 bt121.2.2.2.1 bt121.2.2.2.2.1))) else (prog_fits.j0 k l1 true a0_0 a0_1 a0_2 a0_3 a0_4 bt121.1 bt121.2.1 bt121.2.2.1 bt121.2.2.2.1 bt121.2.2.2.2.1))) else (prog_fits.j0 k l1 true a0_0 a0_1 a0_2 a0_3 a0_4 bt121.1 bt121.2.1 bt121.2.2.1 bt121.2.2.2.1 bt121.2.2.2.2.1))
theorem prog_fits.mono_l : ∀ k, (∀ y0 y1 y2 y3 y4 y5 y6 y7 y8 y9 y10 y11, LeO (prog_fits.j0 k y0 y1 y2 y3 y4 y5 y6 y7 y8 y9 y10 y11) (prog_fits.j0 (k + 1) y0 y1 y2 y3 y4 y5 y6 y7 y8 y9 y10 y11))
 | 0 => fun _ _ _ _ _ _ _ _ _ _ _ _ r h => by simp [prog_fits.j0] at h
 | k + 1 => by
  have ih0 := prog_fits.mono_l k
  ·
   intro y0 y1 y2 y3 y4 y5 y6 y7 y8 y9 y10 y11; unfold prog_fits.j0
   repeat' first
   | (with_reducible exact ih0 _ _ _ _ _ _ _ _ _ _ _ _)
   | (with_reducible exact prog_kind.mono _ _)
   | (with_reducible exact LeO.refl _)
   | (with_reducible exact LeO.none _)
   | (with_reducible refine LeO.ite ?_ ?_)
   | (with_reducible refine LeO.bind ?_ (fun _ => ?_))
   | exact ih0 _ _ _ _ _ _ _ _ _ _ _ _
   | exact prog_kind.mono _ _
   | exact LeO.none _
   | refine LeO.ite ?_ ?_
   | refine LeO.bind ?_ (fun _ => ?_)
theorem prog_fits.mono : ∀ a0 a1 a2 a3 a4 a5 a6 k, LeO (prog_fits.f k a0 a1 a2 a3 a4 a5 a6) (prog_fits.f (k + 1) a0 a1 a2 a3 a4 a5 a6) := by
 intro a0 a1 a2 a3 a4 a5 a6 k; have ih0 := prog_fits.mono_l k; unfold prog_fits.f
 repeat' first
   | (with_reducible exact ih0 _ _ _ _ _ _ _ _ _ _ _ _)
   | (with_reducible exact prog_kind.mono _ _)
   | (with_reducible exact LeO.refl _)
   | (with_reducible exact LeO.none _)
   | (with_reducible refine LeO.ite ?_ ?_)
   | (with_reducible refine LeO.bind ?_ (fun _ => ?_))
   | exact ih0 _ _ _ _ _ _ _ _ _ _ _ _
   | exact prog_kind.mono _ _
   | exact LeO.none _
   | refine LeO.ite ?_ ?_
   | refine LeO.bind ?_ (fun _ => ?_)
set_option maxHeartbeats 8000000 in
set_option maxRecDepth 100000 in
theorem prog_fits.calls (k : Nat) (a0_0 : Int) (a0_1 : Int) (a0_2 : Int) (a0_3 : Int) (a0_4 : Int) (A1 : Option Addr) (c1 : Nat) (l1 : List ByteArray) (A2 : Option Addr) (c2 : Nat) (l2 : List ByteArray) (r : Bool) (w : World) (hr1 : Kd.C Kd.string w A1 l1.length l1) (hc1 : l1.length ≤ c1) (hr2 : Kd.C Kd.string w A2 l2.length l2) (hc2 : l2.length ≤ c2) (h : prog_fits.f k a0_0 a0_1 a0_2 a0_3 a0_4 l1 l2 = some r) :
  Calls Try.prog 78 #[.agg #[.int .i64 a0_0, .int .i64 a0_1, .int .i64 a0_2, .int .i64 a0_3, .int .i64 a0_4], .slice A1 l1.length c1, .slice A2 l2.length c2] w fun e w' => e = .returned (.bool r) ∧ Below w.heap.size w w' := by
 have hu87 := Try.underlying87; have hu168 := Try.underlying168; have HR1 := Aside0.mk hr1; have HC1 := Aside0.mk hc1; clear hr1 hc1; have HR2 := Aside0.mk hr2; have HC2 := Aside0.mk hc2; clear hr2 hc2; have HB := Aside0.mk (Below.refl w.heap.size w); have H : ((prog_kind.f k a0_0).bind fun bt121 => (if bt121.2.2.2.2.2 = true then ((prog_fits_1.f bt121.2.1 a0_2 (l1.length : Int)).bind fun t128 => (if t128 = true then ((prog_fits_1.f bt121.2.2.1 a0_3 (l2.length : Int)).bind fun t129 => (if t129 = true then (if bt121.2.2.2.1 = true then (prog_fits.j0 k l1 false a0_0 a0_1 a0_2 a0_3 a0_4 bt121.1 bt121.2.1 bt121.2.2.1 bt121.2.2.2.1 bt121.2.2.2.2.1) else (prog_fits.j0 k l1 (a0_4 != 0) a0_0 a0_1 a0_2 a0_3 a0_4 bt121.1 bt121.2.1 bt121.2.2.1 bt121.2.2.2.1 bt121.2.2.2.2.1)) else (prog_fits.j0 k l1 true a0_0 a0_1 a0_2 a0_3 a0_4 bt121.1 bt121.2.1 bt121.2.2.1 bt121.2.2.2.1 bt121.2.2.2.2.1))) else (prog_fits.j0 k l1 true a0_0 a0_1 a0_2 a0_3 a0_4 bt121.1 bt121.2.1 bt121.2.2.1 bt121.2.2.2.1 bt121.2.2.2.2.1))) else (prog_fits.j0 k l1 true a0_0 a0_1 a0_2 a0_3 a0_4 bt121.1 bt121.2.1 bt121.2.2.1 bt121.2.2.2.1 bt121.2.2.2.2.1))) = some r := h; clear h; replace H := Option.bind_eq_some_iff.mp H; obtain ⟨⟨t121, t122, t123, t124, t125, t126⟩, A40, H⟩ := H; replace H : (if t126 = true then ((prog_fits_1.f t122 a0_2 (l1.length : Int)).bind fun t128 => (if t128 = true then ((prog_fits_1.f t123 a0_3 (l2.length : Int)).bind fun t129 => (if t129 = true then (if t124 = true then (prog_fits.j0 k l1 false a0_0 a0_1 a0_2 a0_3 a0_4 t121 t122 t123 t124 t125) else (prog_fits.j0 k l1 (a0_4 != 0) a0_0 a0_1 a0_2 a0_3 a0_4 t121 t122 t123 t124 t125)) else (prog_fits.j0 k l1 true a0_0 a0_1 a0_2 a0_3 a0_4 t121 t122 t123 t124 t125))) else (prog_fits.j0 k l1 true a0_0 a0_1 a0_2 a0_3 a0_4 t121 t122 t123 t124 t125))) else (prog_fits.j0 k l1 true a0_0 a0_1 a0_2 a0_3 a0_4 t121 t122 t123 t124 t125)) = some r := H; have A4 := Aside0.mk A40; clear A40; have HC5 := Aside0.mk H; clear H; go_enter Try.func78, Try.ntmps78
 go_upto_region 3 with (first | ((with_reducible refine gate_dst (N := 3) rfl ?_); (try (refine gate_guard (by rfl) ?_; dsimp only)); refine bx_ (N := 3) (cs := #[.int .i64 a0_0, .int .i64 a0_1, .int .i64 a0_2, .int .i64 a0_3, .int .i64 a0_4]) (t := 87) ?_; intro gb120 hg w6 hbox hb; have n0_ := bs_ w hb; have n1_ := Aside0.mk (hbox); have n2_ := gl_ w hg; have n3_ := n2_; clear HB; have HB := n0_; have BK120 := n1_; have GW120 := n2_; have GE120 := n3_; clear n0_ n1_ n2_ n3_; clear hb hbox hg; obtain ⟨z7_0, z7_1, z7_2, z7_3, z7_4, y7_0, y7_1, y7_2, y7_3, y7_4⟩ := blkA5 BK120.out) | ((with_reducible refine gate_callee (f := 104) rfl ?_); refine goesL_ (some 13) rfl rfl Try.func104 (by kernel_rfl) rfl #[.int .i64 a0_0] rfl ag_ ?_; (with_reducible refine (prog_kind.calls k a0_0 t121 t122 t123 t124 t125 t126 _ A4.out).mono ?_); rintro e w8 ⟨rfl, hb⟩; refine ⟨_, rfl, ?_⟩; replace BK120 := bb_ BK120 hb; replace HB := bs_ w hb; (try clear hb); (try clear hb2); (try clear hk); (try clear hi)) | ((with_reducible refine gate_dst (N := 7) rfl ?_); (try (refine gate_guard (by rfl) ?_; dsimp only)); refine bx_ (N := 7) (cs := #[.bool false, .bool false, .bool false, .bool false, .int .i64 0]) (t := 168) ?_; intro gb127 hg w9 hbox hb; have n0_ := bb_ BK120 hb; have n1_ := bs_ w hb; have n2_ := Aside0.mk (hbox); have n3_ := gl_ w hg; have n4_ := n3_; have n5_ := nl_ BK120 hg; have n6_ := ng_ BK120 hg; clear BK120; clear HB; have BK120 := n0_; have HB := n1_; have BK127 := n2_; have GW127 := n3_; have GE127 := n4_; have NB120_127 := n5_; have NB127_120 := n6_; clear n0_ n1_ n2_ n3_ n4_ n5_ n6_; clear hb hbox hg; have hnb10 := NB127_120.out; have hnc10 := NB120_127.out; obtain ⟨z11_0, z11_1, z11_2, z11_3, z11_4, y11_0, y11_1, y11_2, y11_3, y11_4⟩ := blkA5 BK127.out))
 (try simp only [Act.put, List.setIfInBounds_toArray, List.set_cons_zero, List.set_cons_succ])
 go_cut [49] (fun v49 wc => ∃ (kq : Nat) (x49_4 : Bool), v49 = .bool x49_4 ∧ Aside0 (prog_fits.j0 kq l1 x49_4 a0_0 a0_1 a0_2 a0_3 a0_4 t121 t122 t123 t124 t125 = some r) ∧ Aside0 (kq ≤ k) ∧ Aside0 (wc.heap[gb120]? = some (.cells #[.int .i64 a0_0, .int .i64 a0_1, .int .i64 a0_2, .int .i64 a0_3, .int .i64 a0_4] 87 (0, 0))) ∧ Aside0 (wc.heap[gb127]? = some (.cells #[.bool t121, .bool t122, .bool t123, .bool t124, .int .i64 t125] 168 (0, 0))) ∧ Aside0 (Below w.heap.size w wc))
 case first =>
  have H := HC5.out; clear HC5
  by_cases c12 : t126 = true
  ·
   subst c12; have H1 : ((prog_fits_1.f t122 a0_2 (l1.length : Int)).bind fun t128 => (if t128 = true then ((prog_fits_1.f t123 a0_3 (l2.length : Int)).bind fun t129 => (if t129 = true then (if t124 = true then (prog_fits.j0 k l1 false a0_0 a0_1 a0_2 a0_3 a0_4 t121 t122 t123 t124 t125) else (prog_fits.j0 k l1 (a0_4 != 0) a0_0 a0_1 a0_2 a0_3 a0_4 t121 t122 t123 t124 t125)) else (prog_fits.j0 k l1 true a0_0 a0_1 a0_2 a0_3 a0_4 t121 t122 t123 t124 t125))) else (prog_fits.j0 k l1 true a0_0 a0_1 a0_2 a0_3 a0_4 t121 t122 t123 t124 t125))) = some r := by rw [if_pos rfl] at H; exact H
   clear H; have H := H1; clear H1; replace H := Option.bind_eq_some_iff.mp H; obtain ⟨t128, A130, H⟩ := H; replace H : (if t128 = true then ((prog_fits_1.f t123 a0_3 (l2.length : Int)).bind fun t129 => (if t129 = true then (if t124 = true then (prog_fits.j0 k l1 false a0_0 a0_1 a0_2 a0_3 a0_4 t121 t122 t123 t124 t125) else (prog_fits.j0 k l1 (a0_4 != 0) a0_0 a0_1 a0_2 a0_3 a0_4 t121 t122 t123 t124 t125)) else (prog_fits.j0 k l1 true a0_0 a0_1 a0_2 a0_3 a0_4 t121 t122 t123 t124 t125))) else (prog_fits.j0 k l1 true a0_0 a0_1 a0_2 a0_3 a0_4 t121 t122 t123 t124 t125)) = some r := H; have A13 := Aside0.mk A130; clear A130
   by_cases c14 : t128 = true
   ·
    subst c14; have H1 : ((prog_fits_1.f t123 a0_3 (l2.length : Int)).bind fun t129 => (if t129 = true then (if t124 = true then (prog_fits.j0 k l1 false a0_0 a0_1 a0_2 a0_3 a0_4 t121 t122 t123 t124 t125) else (prog_fits.j0 k l1 (a0_4 != 0) a0_0 a0_1 a0_2 a0_3 a0_4 t121 t122 t123 t124 t125)) else (prog_fits.j0 k l1 true a0_0 a0_1 a0_2 a0_3 a0_4 t121 t122 t123 t124 t125))) = some r := by rw [if_pos rfl] at H; exact H
    clear H; have H := H1; clear H1; replace H := Option.bind_eq_some_iff.mp H; obtain ⟨t129, A150, H⟩ := H; replace H : (if t129 = true then (if t124 = true then (prog_fits.j0 k l1 false a0_0 a0_1 a0_2 a0_3 a0_4 t121 t122 t123 t124 t125) else (prog_fits.j0 k l1 (a0_4 != 0) a0_0 a0_1 a0_2 a0_3 a0_4 t121 t122 t123 t124 t125)) else (prog_fits.j0 k l1 true a0_0 a0_1 a0_2 a0_3 a0_4 t121 t122 t123 t124 t125)) = some r := H; have A15 := Aside0.mk A150; clear A150
    by_cases c16 : t129 = true
    ·
     subst c16; have H1 : (if t124 = true then (prog_fits.j0 k l1 false a0_0 a0_1 a0_2 a0_3 a0_4 t121 t122 t123 t124 t125) else (prog_fits.j0 k l1 (a0_4 != 0) a0_0 a0_1 a0_2 a0_3 a0_4 t121 t122 t123 t124 t125)) = some r := by rw [if_pos rfl] at H; exact H
     clear H; have H := H1; clear H1
     by_cases c17 : t124 = true
     ·
      subst c17; have H1 : (prog_fits.j0 k l1 false a0_0 a0_1 a0_2 a0_3 a0_4 t121 t122 t123 true t125) = some r := by rw [if_pos rfl] at H; exact H
      clear H; have H := H1; clear H1; have H' := Aside0.mk H; clear H; have hnb18 := NB127_120.out; have hnc18 := NB120_127.out; obtain ⟨z19_0, z19_1, z19_2, z19_3, z19_4, y19_0, y19_1, y19_2, y19_3, y19_4⟩ := blkA5 BK127.out; obtain ⟨z20_0, z20_1, z20_2, z20_3, z20_4, y20_0, y20_1, y20_2, y20_3, y20_4⟩ := blkA5 BK120.out
      go_wp2_with (first | (go_at_call 105; (with_reducible refine (prog_fits_1.calls t122 a0_2 (l1.length : Int) true _ A13.out).mono ?_); rintro e w' ⟨rfl, ⟨nd, rfl⟩⟩) | (go_at_call 105; (with_reducible refine (prog_fits_1.calls t123 a0_3 (l2.length : Int) true _ A15.out).mono ?_); rintro e w' ⟨rfl, ⟨nd, rfl⟩⟩))
      go_meet
      case rel => exact ⟨_, (false), ff_, H', ⟨by first | omega | exact Nat.le_refl _⟩, ⟨bk_ BK120⟩, ⟨by (with_reducible repeat (first | refine blk_drewN ?_ _ | refine blk_drew ?_ | refine blk_alloc ?_ _)); refine blk_put (cs := #[.bool t121, .bool t122, .bool t123, .bool true, .int .i64 0]) ?_ 4 _ rfl; (with_reducible repeat (first | refine blk_drewN ?_ _ | refine blk_drew ?_ | refine blk_alloc ?_ _)); refine blk_put (cs := #[.bool t121, .bool t122, .bool t123, .bool false, .int .i64 0]) ?_ 3 _ rfl; (with_reducible repeat (first | refine blk_drewN ?_ _ | refine blk_drew ?_ | refine blk_alloc ?_ _)); refine blk_put (cs := #[.bool t121, .bool t122, .bool false, .bool false, .int .i64 0]) ?_ 2 _ rfl; (with_reducible repeat (first | refine blk_drewN ?_ _ | refine blk_drew ?_ | refine blk_alloc ?_ _)); refine blk_put (cs := #[.bool t121, .bool false, .bool false, .bool false, .int .i64 0]) ?_ 1 _ rfl; (with_reducible repeat (first | refine blk_drewN ?_ _ | refine blk_drew ?_ | refine blk_alloc ?_ _)); refine blk_put (cs := #[.bool false, .bool false, .bool false, .bool false, .int .i64 0]) ?_ 0 _ rfl; (with_reducible repeat (first | refine blk_drewN ?_ _ | refine blk_drew ?_ | refine blk_alloc ?_ _)); exact BK127.out⟩, ⟨bel_⟩⟩
     ·
      replace c17 := Bool.eq_false_iff.mpr c17; subst c17; have H1 : (prog_fits.j0 k l1 (a0_4 != 0) a0_0 a0_1 a0_2 a0_3 a0_4 t121 t122 t123 false t125) = some r := by rw [if_neg (show ¬ (false = true) by decide)] at H; exact H
      clear H; have H := H1; clear H1; have H' := Aside0.mk H; clear H; have hnb21 := NB127_120.out; have hnc21 := NB120_127.out; obtain ⟨z22_0, z22_1, z22_2, z22_3, z22_4, y22_0, y22_1, y22_2, y22_3, y22_4⟩ := blkA5 BK127.out; obtain ⟨z23_0, z23_1, z23_2, z23_3, z23_4, y23_0, y23_1, y23_2, y23_3, y23_4⟩ := blkA5 BK120.out
      go_wp2_with (first | (go_at_call 105; (with_reducible refine (prog_fits_1.calls t122 a0_2 (l1.length : Int) true _ A13.out).mono ?_); rintro e w' ⟨rfl, ⟨nd, rfl⟩⟩) | (go_at_call 105; (with_reducible refine (prog_fits_1.calls t123 a0_3 (l2.length : Int) true _ A15.out).mono ?_); rintro e w' ⟨rfl, ⟨nd, rfl⟩⟩))
      go_meet
      case rel => exact ⟨_, ((a0_4 != 0)), ff_, H', ⟨by first | omega | exact Nat.le_refl _⟩, ⟨bk_ BK120⟩, ⟨by (with_reducible repeat (first | refine blk_drewN ?_ _ | refine blk_drew ?_ | refine blk_alloc ?_ _)); refine blk_put (cs := #[.bool t121, .bool t122, .bool t123, .bool false, .int .i64 0]) ?_ 4 _ rfl; (with_reducible repeat (first | refine blk_drewN ?_ _ | refine blk_drew ?_ | refine blk_alloc ?_ _)); refine blk_put (cs := #[.bool t121, .bool t122, .bool t123, .bool false, .int .i64 0]) ?_ 3 _ rfl; (with_reducible repeat (first | refine blk_drewN ?_ _ | refine blk_drew ?_ | refine blk_alloc ?_ _)); refine blk_put (cs := #[.bool t121, .bool t122, .bool false, .bool false, .int .i64 0]) ?_ 2 _ rfl; (with_reducible repeat (first | refine blk_drewN ?_ _ | refine blk_drew ?_ | refine blk_alloc ?_ _)); refine blk_put (cs := #[.bool t121, .bool false, .bool false, .bool false, .int .i64 0]) ?_ 1 _ rfl; (with_reducible repeat (first | refine blk_drewN ?_ _ | refine blk_drew ?_ | refine blk_alloc ?_ _)); refine blk_put (cs := #[.bool false, .bool false, .bool false, .bool false, .int .i64 0]) ?_ 0 _ rfl; (with_reducible repeat (first | refine blk_drewN ?_ _ | refine blk_drew ?_ | refine blk_alloc ?_ _)); exact BK127.out⟩, ⟨bel_⟩⟩
    ·
     replace c16 := Bool.eq_false_iff.mpr c16; subst c16; have H1 : (prog_fits.j0 k l1 true a0_0 a0_1 a0_2 a0_3 a0_4 t121 t122 t123 t124 t125) = some r := by rw [if_neg (show ¬ (false = true) by decide)] at H; exact H
     clear H; have H := H1; clear H1; have H' := Aside0.mk H; clear H; have hnb24 := NB127_120.out; have hnc24 := NB120_127.out; obtain ⟨z25_0, z25_1, z25_2, z25_3, z25_4, y25_0, y25_1, y25_2, y25_3, y25_4⟩ := blkA5 BK127.out; obtain ⟨z26_0, z26_1, z26_2, z26_3, z26_4, y26_0, y26_1, y26_2, y26_3, y26_4⟩ := blkA5 BK120.out
     go_wp2_with (first | (go_at_call 105; (with_reducible refine (prog_fits_1.calls t122 a0_2 (l1.length : Int) true _ A13.out).mono ?_); rintro e w' ⟨rfl, ⟨nd, rfl⟩⟩) | (go_at_call 105; (with_reducible refine (prog_fits_1.calls t123 a0_3 (l2.length : Int) false _ A15.out).mono ?_); rintro e w' ⟨rfl, ⟨nd, rfl⟩⟩))
     go_meet
     case rel => exact ⟨_, (true), ff_, H', ⟨by first | omega | exact Nat.le_refl _⟩, ⟨bk_ BK120⟩, ⟨by (with_reducible repeat (first | refine blk_drewN ?_ _ | refine blk_drew ?_ | refine blk_alloc ?_ _)); refine blk_put (cs := #[.bool t121, .bool t122, .bool t123, .bool t124, .int .i64 0]) ?_ 4 _ rfl; (with_reducible repeat (first | refine blk_drewN ?_ _ | refine blk_drew ?_ | refine blk_alloc ?_ _)); refine blk_put (cs := #[.bool t121, .bool t122, .bool t123, .bool false, .int .i64 0]) ?_ 3 _ rfl; (with_reducible repeat (first | refine blk_drewN ?_ _ | refine blk_drew ?_ | refine blk_alloc ?_ _)); refine blk_put (cs := #[.bool t121, .bool t122, .bool false, .bool false, .int .i64 0]) ?_ 2 _ rfl; (with_reducible repeat (first | refine blk_drewN ?_ _ | refine blk_drew ?_ | refine blk_alloc ?_ _)); refine blk_put (cs := #[.bool t121, .bool false, .bool false, .bool false, .int .i64 0]) ?_ 1 _ rfl; (with_reducible repeat (first | refine blk_drewN ?_ _ | refine blk_drew ?_ | refine blk_alloc ?_ _)); refine blk_put (cs := #[.bool false, .bool false, .bool false, .bool false, .int .i64 0]) ?_ 0 _ rfl; (with_reducible repeat (first | refine blk_drewN ?_ _ | refine blk_drew ?_ | refine blk_alloc ?_ _)); exact BK127.out⟩, ⟨bel_⟩⟩
   ·
    replace c14 := Bool.eq_false_iff.mpr c14; subst c14; have H1 : (prog_fits.j0 k l1 true a0_0 a0_1 a0_2 a0_3 a0_4 t121 t122 t123 t124 t125) = some r := by rw [if_neg (show ¬ (false = true) by decide)] at H; exact H
    clear H; have H := H1; clear H1; have H' := Aside0.mk H; clear H; have hnb27 := NB127_120.out; have hnc27 := NB120_127.out; obtain ⟨z28_0, z28_1, z28_2, z28_3, z28_4, y28_0, y28_1, y28_2, y28_3, y28_4⟩ := blkA5 BK127.out; obtain ⟨z29_0, z29_1, z29_2, z29_3, z29_4, y29_0, y29_1, y29_2, y29_3, y29_4⟩ := blkA5 BK120.out
    go_wp2_with (first | (go_at_call 105; (with_reducible refine (prog_fits_1.calls t122 a0_2 (l1.length : Int) false _ A13.out).mono ?_); rintro e w' ⟨rfl, ⟨nd, rfl⟩⟩))
    go_meet
    case rel => exact ⟨_, (true), ff_, H', ⟨by first | omega | exact Nat.le_refl _⟩, ⟨bk_ BK120⟩, ⟨by (with_reducible repeat (first | refine blk_drewN ?_ _ | refine blk_drew ?_ | refine blk_alloc ?_ _)); refine blk_put (cs := #[.bool t121, .bool t122, .bool t123, .bool t124, .int .i64 0]) ?_ 4 _ rfl; (with_reducible repeat (first | refine blk_drewN ?_ _ | refine blk_drew ?_ | refine blk_alloc ?_ _)); refine blk_put (cs := #[.bool t121, .bool t122, .bool t123, .bool false, .int .i64 0]) ?_ 3 _ rfl; (with_reducible repeat (first | refine blk_drewN ?_ _ | refine blk_drew ?_ | refine blk_alloc ?_ _)); refine blk_put (cs := #[.bool t121, .bool t122, .bool false, .bool false, .int .i64 0]) ?_ 2 _ rfl; (with_reducible repeat (first | refine blk_drewN ?_ _ | refine blk_drew ?_ | refine blk_alloc ?_ _)); refine blk_put (cs := #[.bool t121, .bool false, .bool false, .bool false, .int .i64 0]) ?_ 1 _ rfl; (with_reducible repeat (first | refine blk_drewN ?_ _ | refine blk_drew ?_ | refine blk_alloc ?_ _)); refine blk_put (cs := #[.bool false, .bool false, .bool false, .bool false, .int .i64 0]) ?_ 0 _ rfl; (with_reducible repeat (first | refine blk_drewN ?_ _ | refine blk_drew ?_ | refine blk_alloc ?_ _)); exact BK127.out⟩, ⟨bel_⟩⟩
  ·
   replace c12 := Bool.eq_false_iff.mpr c12; subst c12; have H1 : (prog_fits.j0 k l1 true a0_0 a0_1 a0_2 a0_3 a0_4 t121 t122 t123 t124 t125) = some r := by rw [if_neg (show ¬ (false = true) by decide)] at H; exact H
   clear H; have H := H1; clear H1; have H' := Aside0.mk H; clear H; go_wp2; go_meet
   case rel => exact ⟨_, (true), ff_, H', ⟨by first | omega | exact Nat.le_refl _⟩, ⟨bk_ BK120⟩, ⟨by (with_reducible repeat (first | refine blk_drewN ?_ _ | refine blk_drew ?_ | refine blk_alloc ?_ _)); refine blk_put (cs := #[.bool t121, .bool t122, .bool t123, .bool t124, .int .i64 0]) ?_ 4 _ rfl; (with_reducible repeat (first | refine blk_drewN ?_ _ | refine blk_drew ?_ | refine blk_alloc ?_ _)); refine blk_put (cs := #[.bool t121, .bool t122, .bool t123, .bool false, .int .i64 0]) ?_ 3 _ rfl; (with_reducible repeat (first | refine blk_drewN ?_ _ | refine blk_drew ?_ | refine blk_alloc ?_ _)); refine blk_put (cs := #[.bool t121, .bool t122, .bool false, .bool false, .int .i64 0]) ?_ 2 _ rfl; (with_reducible repeat (first | refine blk_drewN ?_ _ | refine blk_drew ?_ | refine blk_alloc ?_ _)); refine blk_put (cs := #[.bool t121, .bool false, .bool false, .bool false, .int .i64 0]) ?_ 1 _ rfl; (with_reducible repeat (first | refine blk_drewN ?_ _ | refine blk_drew ?_ | refine blk_alloc ?_ _)); refine blk_put (cs := #[.bool false, .bool false, .bool false, .bool false, .int .i64 0]) ?_ 0 _ rfl; (with_reducible repeat (first | refine blk_drewN ?_ _ | refine blk_drew ?_ | refine blk_alloc ?_ _)); exact BK127.out⟩, ⟨bel_⟩⟩
 case rest =>
  clear HC5; (try clear c1); (try clear c2); (try clear z11_0 z11_1 z11_2 z11_3 z11_4); (try clear z7_0 z7_1 z7_2 z7_3 z7_4); (try clear y11_0 y11_1 y11_2 y11_3 y11_4); (try clear y7_0 y7_1 y7_2 y7_3 y7_4); obtain ⟨kq, x49_4, rfl, HA, HJ4, BK120, BK127, HB⟩ := hcut
  cases kq with
  | zero => exact absurd HA.out (by simp [prog_fits.j0])
  | succ kj4 =>
   have H := HA.out; clear HA; simp only [prog_fits.j0] at H
   by_cases c30 : x49_4 = true
   ·
    subst c30; have H1 : (some false) = some r := by rw [if_pos rfl] at H; exact H
    clear H; have H := H1; clear H1; obtain rfl := Option.some.inj H; go_wp2
    go_ret
    exact ⟨ee_, bel_⟩
   ·
    replace c30 := Bool.eq_false_iff.mpr c30; subst c30; have H1 : (if a0_0 = 8 then (if a0_1 ≥ 0 then (if a0_1 < (l1.length : Int) then (if 0 ≤ a0_1 then (some ((rdOf ByteArray.empty l1 a0_1).toList == ([69, 65, 88] : List UInt8))) else (none)) else (some false)) else (some false)) else ((prog_fits_1.f t121 a0_1 (l1.length : Int)).bind fun t131 => (some t131))) = some r := by rw [if_neg (show ¬ (false = true) by decide)] at H; exact H
    clear H; have H := H1; clear H1
    by_cases c31 : a0_0 = 8
    ·
     rw [if_pos c31] at H; have c31b0 : (a0_0 == 8) = true := beq_iff_eq.mpr c31; have c31b1 : (a0_0 != 8) = false := bne_eq_false_iff_eq.mpr c31; clear c31
     by_cases c32 : a0_1 ≥ 0
     ·
      rw [if_pos c32] at H; have c32b0 : decide (0 ≤ a0_1) = true := decide_eq_true c32; clear c32
      by_cases c33 : a0_1 < (l1.length : Int)
      ·
       rw [if_pos c33] at H; have c33b0 : decide (a0_1 < (l1.length : Int)) = true := decide_eq_true c33; clear c33
       by_cases c34 : 0 ≤ a0_1
       ·
        rw [if_pos c34] at H; have c34b0 : decide (0 ≤ a0_1) = true := decide_eq_true c34; clear c34; obtain rfl := Option.some.inj H; have hnb35 := NB120_127.out; have hnc35 := NB127_120.out; obtain ⟨z36_0, z36_1, z36_2, z36_3, z36_4, y36_0, y36_1, y36_2, y36_3, y36_4⟩ := blkA5 BK120.out; have p130 : 0 ≤ (a0_1 : Int) := dt_; have q130 : a0_1 < (l1.length : Int) := dt_; obtain ⟨ad130, e130, hx130_0⟩ := Kd.at_string HR1.out a0_1 p130 q130; cases e130; replace hx130_0 := hx_ HB hx130_0; replace p130 := eq_true p130; replace q130 := eq_true q130; go_wp2
        go_ret
        exact ⟨ee_, bel_⟩
       ·
        rw [if_neg c34] at H; exact absurd H (by simp)
      ·
       rw [if_neg c33] at H; have c33b0 : decide (a0_1 < (l1.length : Int)) = false := decide_eq_false c33; clear c33; obtain rfl := Option.some.inj H; have hnb37 := NB120_127.out; have hnc37 := NB127_120.out; obtain ⟨z38_0, z38_1, z38_2, z38_3, z38_4, y38_0, y38_1, y38_2, y38_3, y38_4⟩ := blkA5 BK120.out; go_wp2
       go_ret
       exact ⟨ee_, bel_⟩
     ·
      rw [if_neg c32] at H; have c32b0 : decide (0 ≤ a0_1) = false := decide_eq_false c32; clear c32; obtain rfl := Option.some.inj H; have hnb39 := NB120_127.out; have hnc39 := NB127_120.out; obtain ⟨z40_0, z40_1, z40_2, z40_3, z40_4, y40_0, y40_1, y40_2, y40_3, y40_4⟩ := blkA5 BK120.out; go_wp2
      go_ret
      exact ⟨ee_, bel_⟩
    ·
     rw [if_neg c31] at H; have c31b0 : (a0_0 == 8) = false := beq_eq_false_iff_ne.mpr c31; have c31b1 : (a0_0 != 8) = true := bne_iff_ne.mpr c31; replace H := Option.bind_eq_some_iff.mp H; obtain ⟨t131, A410, H⟩ := H; replace H : (some t131) = some r := H; have A41 := Aside0.mk A410; clear A410; obtain rfl := Option.some.inj H; have hnb42 := NB120_127.out; have hnc42 := NB127_120.out; obtain ⟨z43_0, z43_1, z43_2, z43_3, z43_4, y43_0, y43_1, y43_2, y43_3, y43_4⟩ := blkA5 BK120.out; obtain ⟨z44_0, z44_1, z44_2, z44_3, z44_4, y44_0, y44_1, y44_2, y44_3, y44_4⟩ := blkA5 BK127.out
     go_wp2_with (first | (go_at_call 105; (with_reducible refine (prog_fits_1.calls t121 a0_1 (l1.length : Int) t131 _ A41.out).mono ?_); rintro e w' ⟨rfl, ⟨nd, rfl⟩⟩))
     go_ret
     exact ⟨ee_, bel_⟩

end Go.Proofs.Ytemhpbdlonfikaa.P
