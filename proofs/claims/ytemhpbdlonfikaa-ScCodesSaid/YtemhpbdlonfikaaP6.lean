-- Printed by xprint.py, a program of this session over the kit's printer.
import Derived.Test.YtemhpbdlonfikaaP3
import Derived.Test.YtemhpbdlonfikaaP5
namespace Go.Proofs.Ytemhpbdlonfikaa.P
open Go.RowKit Go.Proofs.YtemhpbdlonfikaaW.PrintWords Go.Proofs.YtemhpbdlonfikaaW.PrintLast Go.Proofs.YtemhpbdlonfikaaW.PrintMore
attribute [local go_sem] max2_int min2_int max_two min_two max_three min_three max_four min_four   -- for this text's walks alone

/-! ### prog_Events: function 79 -/
mutual
def prog_Events.l0 : Nat → Int → List (List (S87)) → Int → Int → Option (Int)
 | 0, _, _, _, _ => none
 | k + 1, x3, x14, x15, x16 => if x16 < x15 then (if 0 ≤ x16 then (if x16 < (x14.length : Int) then (prog_Events.l1 k x3 x14 x15 x16 (rd_L3 x14 x16) ((rd_L3 x14 x16).length : Int) 0) else (none)) else (none)) else (some x3)
def prog_Events.l1 : Nat → Int → List (List (S87)) → Int → Int → List (S87) → Int → Int → Option (Int)
 | 0, _, _, _, _, _, _, _ => none
 | k + 1, x3, x14, x15, x16, x20, x21, x22 => if x22 < x21 then (if 0 ≤ x22 then (if x22 < (x20.length : Int) then ((prog_kind.f k ((rd_T87 x20 x22).f0)).bind fun bt136 => (prog_Events.l1 k (wrap64 (x3 + bt136.2.2.2.2.1)) x14 x15 x16 x20 x21 (wrap64 (x22 + 1)))) else (none)) else (none)) else (prog_Events.l0 k x3 x14 x15 (wrap64 (x16 + 1)))
end
def prog_Events.f (k : Nat) (l0_0 : List (List (S87))) (_l0_1 : List (List ByteArray)) (l0_2 : List ByteArray) (_l0_3 : List (List Int)) (_l0_4 : List Int) : Option (Int) := prog_Events.l0 k (l0_2.length : Int) l0_0 (l0_0.length : Int) 0
theorem prog_Events.mono_l : ∀ k, (∀ y0 y1 y2 y3, LeO (prog_Events.l0 k y0 y1 y2 y3) (prog_Events.l0 (k + 1) y0 y1 y2 y3)) ∧ (∀ y0 y1 y2 y3 y4 y5 y6, LeO (prog_Events.l1 k y0 y1 y2 y3 y4 y5 y6) (prog_Events.l1 (k + 1) y0 y1 y2 y3 y4 y5 y6))
 | 0 => ⟨fun _ _ _ _ r h => by simp [prog_Events.l0] at h, fun _ _ _ _ _ _ _ r h => by simp [prog_Events.l1] at h⟩
 | k + 1 => by
  obtain ⟨ih0, ih1⟩ := prog_Events.mono_l k; refine ⟨?_, ?_⟩; intro y0 y1 y2 y3; unfold prog_Events.l0; rotate_left; intro y0 y1 y2 y3 y4 y5 y6; unfold prog_Events.l1; rotate_left
  all_goals (repeat' first
   | (with_reducible exact ih0 _ _ _ _)
   | (with_reducible exact ih1 _ _ _ _ _ _ _)
   | (with_reducible exact prog_kind.mono _ _)
   | (with_reducible exact LeO.refl _)
   | (with_reducible exact LeO.none _)
   | (with_reducible refine LeO.ite ?_ ?_)
   | (with_reducible refine LeO.bind ?_ (fun _ => ?_))
   | exact ih0 _ _ _ _
   | exact ih1 _ _ _ _ _ _ _
   | exact prog_kind.mono _ _
   | exact LeO.none _
   | refine LeO.ite ?_ ?_
   | refine LeO.bind ?_ (fun _ => ?_))
theorem prog_Events.mono : ∀ a0 a1 a2 a3 a4 k, LeO (prog_Events.f k a0 a1 a2 a3 a4) (prog_Events.f (k + 1) a0 a1 a2 a3 a4) := by
 intro a0 a1 a2 a3 a4 k; obtain ⟨ih0, ih1⟩ := prog_Events.mono_l k; unfold prog_Events.f
 repeat' first
   | (with_reducible exact ih0 _ _ _ _)
   | (with_reducible exact ih1 _ _ _ _ _ _ _)
   | (with_reducible exact prog_kind.mono _ _)
   | (with_reducible exact LeO.refl _)
   | (with_reducible exact LeO.none _)
   | (with_reducible refine LeO.ite ?_ ?_)
   | (with_reducible refine LeO.bind ?_ (fun _ => ?_))
   | exact ih0 _ _ _ _
   | exact ih1 _ _ _ _ _ _ _
   | exact prog_kind.mono _ _
   | exact LeO.none _
   | refine LeO.ite ?_ ?_
   | refine LeO.bind ?_ (fun _ => ?_)
set_option maxHeartbeats 8000000 in
set_option maxRecDepth 100000 in
theorem prog_Events.calls (k : Nat) (A0_0 : Option Addr) (c0_0 : Nat) (l0_0 : List (List (S87))) (A0_1 : Option Addr) (c0_1 : Nat) (l0_1 : List (List ByteArray)) (A0_2 : Option Addr) (c0_2 : Nat) (l0_2 : List ByteArray) (A0_3 : Option Addr) (c0_3 : Nat) (l0_3 : List (List Int)) (A0_4 : Option Addr) (c0_4 : Nat) (l0_4 : List Int) (r : Int) (w : World) (hr0_0 : Kd.C (Kd.slice 87 k87) w A0_0 l0_0.length l0_0) (hc0_0 : l0_0.length ≤ c0_0) (hr0_1 : Kd.C (Kd.slice 9 Kd.string) w A0_1 l0_1.length l0_1) (hc0_1 : l0_1.length ≤ c0_1) (hr0_2 : Kd.C Kd.string w A0_2 l0_2.length l0_2) (hc0_2 : l0_2.length ≤ c0_2) (hr0_3 : Kd.C (Kd.slice 2 (Kd.int .i64)) w A0_3 l0_3.length l0_3) (hc0_3 : l0_3.length ≤ c0_3) (hr0_4 : Kd.C (Kd.int .i64) w A0_4 l0_4.length l0_4) (hc0_4 : l0_4.length ≤ c0_4) (h : prog_Events.f k l0_0 l0_1 l0_2 l0_3 l0_4 = some r) :
  Calls Try.prog 79 #[.agg #[.slice A0_0 l0_0.length c0_0, .slice A0_1 l0_1.length c0_1, .slice A0_2 l0_2.length c0_2, .slice A0_3 l0_3.length c0_3, .slice A0_4 l0_4.length c0_4]] w fun e w' => e = .returned (.int .i64 r) ∧ Below w.heap.size w w' := by
 have hu28 := Try.underlying28; have hu87 := Try.underlying87; have hu168 := Try.underlying168; have HR0_0 := Aside0.mk hr0_0; have HC0_0 := Aside0.mk hc0_0; clear hr0_0 hc0_0; have HR0_1 := Aside0.mk hr0_1; have HC0_1 := Aside0.mk hc0_1; clear hr0_1 hc0_1; have HR0_2 := Aside0.mk hr0_2; have HC0_2 := Aside0.mk hc0_2; clear hr0_2 hc0_2; have HR0_3 := Aside0.mk hr0_3; have HC0_3 := Aside0.mk hc0_3; clear hr0_3 hc0_3; have HR0_4 := Aside0.mk hr0_4; have HC0_4 := Aside0.mk hc0_4; clear hr0_4 hc0_4; have HB := Aside0.mk (Below.refl w.heap.size w); have H : (prog_Events.l0 k (l0_2.length : Int) l0_0 (l0_0.length : Int) 0) = some r := h; clear h; have H' := Aside0.mk H; clear H; go_enter Try.func79, Try.ntmps79
 go_wp2_with (first | ((with_reducible refine gate_dst (N := 1) rfl ?_); refine bx_ (N := 1) (cs := #[.slice A0_0 l0_0.length c0_0, .slice A0_1 l0_1.length c0_1, .slice A0_2 l0_2.length c0_2, .slice A0_3 l0_3.length c0_3, .slice A0_4 l0_4.length c0_4]) (t := 28) ?_; intro gb132 hg w2 hbox hb; have n0_ := bs_ w hb; have n1_ := Aside0.mk (hbox); have n2_ := gl_ w hg; have n3_ := n2_; clear HB; have HB := n0_; have BK132 := n1_; have GW132 := n2_; have GE132 := n3_; clear n0_ n1_ n2_ n3_; clear hb hbox hg; obtain ⟨z3_0, z3_1, z3_2, z3_3, z3_4, y3_0, y3_1, y3_2, y3_3, y3_4⟩ := blkA5 BK132.out))
 go_loopg [3, 16] k (fun kq v3 v16 w' => ∃ (x3_1 : Int) (x16_1 : Int), v3 = .int .i64 x3_1 ∧ v16 = .int .i64 x16_1 ∧ Aside0 (prog_Events.l0 kq x3_1 l0_0 (l0_0.length : Int) x16_1 = some r) ∧ Aside0 (kq ≤ k) ∧ Aside0 (w'.heap[gb132]? = some (.cells #[(.slice A0_0 l0_0.length c0_0), (.slice A0_1 l0_1.length c0_1), (.slice A0_2 l0_2.length c0_2), (.slice A0_3 l0_3.length c0_3), (.slice A0_4 l0_4.length c0_4)] 28 (0, 0))) ∧ Aside0 (Below w.heap.size w w'))
 case atStart => exact ⟨((l0_2.length : Int)), (0), ff_, ff_, H', ⟨Nat.le_refl _⟩, ⟨bk_ BK132⟩, ⟨bel_⟩⟩
 case round =>
  clear H'; (try clear z3_0 z3_1 z3_2 z3_3 z3_4 y3_0 y3_1 y3_2 y3_3 y3_4); obtain ⟨x3_1, x16_1, rfl, rfl, HA, HK1, BK132, HB⟩ := hrel
  cases gk with
  | zero => exact absurd HA.out (by simp [prog_Events.l0])
  | succ k1 =>
   have H := HA.out; clear HA; simp only [prog_Events.l0] at H
   by_cases c4 : x16_1 < (l0_0.length : Int)
   ·
    rw [if_pos c4] at H; have c4b0 : decide (x16_1 < (l0_0.length : Int)) = true := decide_eq_true c4; clear c4
    by_cases c5 : 0 ≤ x16_1
    ·
     rw [if_pos c5] at H; have c5b0 : decide (0 ≤ x16_1) = true := decide_eq_true c5; clear c5
     by_cases c6 : x16_1 < (l0_0.length : Int)
     ·
      rw [if_pos c6] at H; have c6b0 : decide (x16_1 < (l0_0.length : Int)) = true := decide_eq_true c6; clear c6; have H' := Aside0.mk H; clear H; have p133 : 0 ≤ (x16_1 : Int) := dt_; have q133 : x16_1 < (l0_0.length : Int) := dt_; obtain ⟨ad133, A133_0, c133_0, e133, hx133_0, hl133_0, hi133_0⟩ := at_L3 HR0_0.out x16_1 p133 q133; cases e133; replace hx133_0 := hx_ HB hx133_0; have HR133_0 := Aside0.mk hi133_0; have HC133_0 := Aside0.mk hl133_0; clear hi133_0 hl133_0; replace p133 := eq_true p133; replace q133 := eq_true q133; go_wp2
      go_loopg [3, 22] k1 (fun kq v3 v22 w' => ∃ (x3_2 : Int) (x22_2 : Int), v3 = .int .i64 x3_2 ∧ v22 = .int .i64 x22_2 ∧ Aside0 (prog_Events.l1 kq x3_2 l0_0 (l0_0.length : Int) x16_1 (rd_L3 l0_0 x16_1) ((rd_L3 l0_0 x16_1).length : Int) x22_2 = some r) ∧ Aside0 (kq ≤ k1) ∧ Aside0 (w'.heap[gb132]? = some (.cells #[(.slice (some ad133) l0_0.length c0_0), (.slice A0_1 l0_1.length c0_1), (.slice A0_2 l0_2.length c0_2), (.slice A0_3 l0_3.length c0_3), (.slice A0_4 l0_4.length c0_4)] 28 (0, 0))) ∧ Aside0 (Below w.heap.size w w'))
      case atStart => exact ⟨(x3_1), (0), ff_, ff_, H', ⟨Nat.le_refl _⟩, ⟨bk_ BK132⟩, ⟨bel_⟩⟩
      case round =>
       clear H'; (try clear c4b0); (try clear c5b0); (try clear c6b0); (try clear hx133_0); (try clear p133); (try clear q133); obtain ⟨x3_2, x22_2, rfl, rfl, HA, HK2, BK132, HB⟩ := hrel
       cases gk with
       | zero => exact absurd HA.out (by simp [prog_Events.l1])
       | succ k2 =>
        have H := HA.out; clear HA; simp only [prog_Events.l1] at H
        by_cases c7 : x22_2 < ((rd_L3 l0_0 x16_1).length : Int)
        ·
         rw [if_pos c7] at H; have c7b0 : decide (x22_2 < ((rd_L3 l0_0 x16_1).length : Int)) = true := decide_eq_true c7; clear c7
         by_cases c8 : 0 ≤ x22_2
         ·
          rw [if_pos c8] at H; have c8b0 : decide (0 ≤ x22_2) = true := decide_eq_true c8; clear c8
          by_cases c9 : x22_2 < ((rd_L3 l0_0 x16_1).length : Int)
          ·
           rw [if_pos c9] at H; have c9b0 : decide (x22_2 < ((rd_L3 l0_0 x16_1).length : Int)) = true := decide_eq_true c9; clear c9; replace H := Option.bind_eq_some_iff.mp H; obtain ⟨⟨t136, t137, t138, t139, t140, t141⟩, A100, H⟩ := H; replace H : (prog_Events.l1 k2 (wrap64 (x3_2 + t140)) l0_0 (l0_0.length : Int) x16_1 (rd_L3 l0_0 x16_1) ((rd_L3 l0_0 x16_1).length : Int) (wrap64 (x22_2 + 1))) = some r := H; have A10 := Aside0.mk A100; clear A100; have H' := Aside0.mk H; clear H; have p134 : 0 ≤ (x22_2 : Int) := dt_; have q134 : x22_2 < ((rd_L3 l0_0 x16_1).length : Int) := dt_; obtain ⟨ad134, e134, hx134_0, hx134_1, hx134_2, hx134_3, hx134_4⟩ := at_T87 HR133_0.out x22_2 p134 q134; cases e134; replace hx134_0 := hx_ HB hx134_0; replace hx134_1 := hx_ HB hx134_1; replace hx134_2 := hx_ HB hx134_2; replace hx134_3 := hx_ HB hx134_3; replace hx134_4 := hx_ HB hx134_4; replace p134 := eq_true p134; replace q134 := eq_true q134
           go_wp2_with (first | ((with_reducible refine gate_dst (N := 7) rfl ?_); refine bx_ (N := 7) (cs := #[.int .i64 0, .int .i64 0, .int .i64 0, .int .i64 0, .int .i64 0]) (t := 87) ?_; intro gb135 hg w11 hbox hb; have n0_ := bb_ BK132 hb; have n1_ := bs_ w hb; have n2_ := Aside0.mk (hbox); have n3_ := gl_ w hg; have n4_ := n3_; have n5_ := nl_ BK132 hg; have n6_ := ng_ BK132 hg; clear BK132; clear HB; have BK132 := n0_; have HB := n1_; have BK135 := n2_; have GW135 := n3_; have GE135 := n4_; have NB132_135 := n5_; have NB135_132 := n6_; clear n0_ n1_ n2_ n3_ n4_ n5_ n6_; clear hb hbox hg; have hnb12 := NB135_132.out; have hnc12 := NB132_135.out; obtain ⟨z13_0, z13_1, z13_2, z13_3, z13_4, y13_0, y13_1, y13_2, y13_3, y13_4⟩ := blkA5 BK135.out) | ((with_reducible refine gate_callee (f := 104) rfl ?_); refine goesL_ (some 29) rfl rfl Try.func104 (by kernel_rfl) rfl #[.int .i64 ((rd_T87 (rd_L3 l0_0 x16_1) x22_2).f0)] rfl ag_ ?_; (with_reducible refine (prog_kind.calls k2 ((rd_T87 (rd_L3 l0_0 x16_1) x22_2).f0) t136 t137 t138 t139 t140 t141 _ A10.out).mono ?_); rintro e w14 ⟨rfl, hb⟩; refine ⟨_, rfl, ?_⟩; replace BK132 := bb_ BK132 hb; replace BK135 := Aside0.mk (blk_below (g := gb135) (o := .cells #[.int .i64 ((rd_T87 (rd_L3 l0_0 x16_1) x22_2).f0), .int .i64 ((rd_T87 (rd_L3 l0_0 x16_1) x22_2).f1), .int .i64 ((rd_T87 (rd_L3 l0_0 x16_1) x22_2).f2), .int .i64 ((rd_T87 (rd_L3 l0_0 x16_1) x22_2).f3), .int .i64 ((rd_T87 (rd_L3 l0_0 x16_1) x22_2).f4)] 87 (0, 0)) (by (with_reducible repeat (first | refine blk_drewN ?_ _ | refine blk_drew ?_ | refine blk_alloc ?_ _)); refine blk_put (cs := #[.int .i64 ((rd_T87 (rd_L3 l0_0 x16_1) x22_2).f0), .int .i64 ((rd_T87 (rd_L3 l0_0 x16_1) x22_2).f1), .int .i64 ((rd_T87 (rd_L3 l0_0 x16_1) x22_2).f2), .int .i64 ((rd_T87 (rd_L3 l0_0 x16_1) x22_2).f3), .int .i64 0]) ?_ 4 _ rfl; (with_reducible repeat (first | refine blk_drewN ?_ _ | refine blk_drew ?_ | refine blk_alloc ?_ _)); refine blk_put (cs := #[.int .i64 ((rd_T87 (rd_L3 l0_0 x16_1) x22_2).f0), .int .i64 ((rd_T87 (rd_L3 l0_0 x16_1) x22_2).f1), .int .i64 ((rd_T87 (rd_L3 l0_0 x16_1) x22_2).f2), .int .i64 0, .int .i64 0]) ?_ 3 _ rfl; (with_reducible repeat (first | refine blk_drewN ?_ _ | refine blk_drew ?_ | refine blk_alloc ?_ _)); refine blk_put (cs := #[.int .i64 ((rd_T87 (rd_L3 l0_0 x16_1) x22_2).f0), .int .i64 ((rd_T87 (rd_L3 l0_0 x16_1) x22_2).f1), .int .i64 0, .int .i64 0, .int .i64 0]) ?_ 2 _ rfl; (with_reducible repeat (first | refine blk_drewN ?_ _ | refine blk_drew ?_ | refine blk_alloc ?_ _)); refine blk_put (cs := #[.int .i64 ((rd_T87 (rd_L3 l0_0 x16_1) x22_2).f0), .int .i64 0, .int .i64 0, .int .i64 0, .int .i64 0]) ?_ 1 _ rfl; (with_reducible repeat (first | refine blk_drewN ?_ _ | refine blk_drew ?_ | refine blk_alloc ?_ _)); refine blk_put (cs := #[.int .i64 0, .int .i64 0, .int .i64 0, .int .i64 0, .int .i64 0]) ?_ 0 _ rfl; (with_reducible repeat (first | refine blk_drewN ?_ _ | refine blk_drew ?_ | refine blk_alloc ?_ _)); exact BK135.out) hb); replace HB := bs_ w hb; (try clear hb); (try clear hb2); (try clear hk); (try clear hi)) | ((with_reducible refine gate_dst (N := 8) rfl ?_); refine bx_ (N := 8) (cs := #[.bool false, .bool false, .bool false, .bool false, .int .i64 0]) (t := 168) ?_; intro gb142 hg w15 hbox hb; have n0_ := bb_ BK132 hb; have n1_ := bb_ BK135 hb; have n2_ := bs_ w hb; have n3_ := Aside0.mk (hbox); have n4_ := gl_ w hg; have n5_ := n4_; have n6_ := nl_ BK132 hg; have n7_ := ng_ BK132 hg; have n8_ := nl_ BK135 hg; have n9_ := ng_ BK135 hg; clear BK132; clear BK135; clear HB; have BK132 := n0_; have BK135 := n1_; have HB := n2_; have BK142 := n3_; have GW142 := n4_; have GE142 := n5_; have NB132_142 := n6_; have NB142_132 := n7_; have NB135_142 := n8_; have NB142_135 := n9_; clear n0_ n1_ n2_ n3_ n4_ n5_ n6_ n7_ n8_ n9_; clear hb hbox hg; have hnb16 := NB142_132.out; have hnc16 := NB132_142.out; have hnb17 := NB142_135.out; have hnc17 := NB135_142.out; obtain ⟨z18_0, z18_1, z18_2, z18_3, z18_4, y18_0, y18_1, y18_2, y18_3, y18_4⟩ := blkA5 BK142.out))
           go_roundg k2
           case measure => have := HK1.out; have := HK2.out; omega
           case rel => exact ⟨(wrap64 (x3_2 + t140)), (wrap64 (x22_2 + 1)), ff_, ff_, H', ⟨by have := HK1.out; have := HK2.out; omega⟩, ⟨bk_ BK132⟩, ⟨bel_⟩⟩
          ·
           rw [if_neg c9] at H; exact absurd H (by simp)
         ·
          rw [if_neg c8] at H; exact absurd H (by simp)
        ·
         rw [if_neg c7] at H; have c7b0 : decide (x22_2 < ((rd_L3 l0_0 x16_1).length : Int)) = false := decide_eq_false c7; clear c7; have H' := Aside0.mk H; clear H; go_wp2
         go_roundg k2
         case measure => have := HK1.out; have := HK2.out; omega
         case rel => exact ⟨(x3_2), (wrap64 (x16_1 + 1)), ff_, ff_, H', ⟨by have := HK1.out; have := HK2.out; omega⟩, ⟨bk_ BK132⟩, ⟨bel_⟩⟩
     ·
      rw [if_neg c6] at H; exact absurd H (by simp)
    ·
     rw [if_neg c5] at H; exact absurd H (by simp)
   ·
    rw [if_neg c4] at H; have c4b0 : decide (x16_1 < (l0_0.length : Int)) = false := decide_eq_false c4; clear c4; obtain rfl := Option.some.inj H; go_wp2
    go_ret
    exact ⟨ee_, bel_⟩

end Go.Proofs.Ytemhpbdlonfikaa.P
