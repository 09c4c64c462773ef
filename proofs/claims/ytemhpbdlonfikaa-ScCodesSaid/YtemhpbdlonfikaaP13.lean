-- Printed by xprint.py, a program of this session over the kit's printer.
import Derived.Test.YtemhpbdlonfikaaP3
namespace Go.Proofs.Ytemhpbdlonfikaa.P
open Go.RowKit Go.Proofs.YtemhpbdlonfikaaW.PrintWords Go.Proofs.YtemhpbdlonfikaaW.PrintLast Go.Proofs.YtemhpbdlonfikaaW.PrintMore
attribute [local go_sem] max2_int min2_int max_two min_two max_three min_three max_four min_four   -- for this text's walks alone

/-! ### weirref09_weight: function 101 -/
def weirref09_weight.j0 : Nat → Int → Bool → Option (Int)
 | 0, _, _ => none
 | _ + 1, x3, x4 => if x4 = true then (some 1) else (if x3 = 7 then (some 2) else (if x3 = 8 then (some 2) else (if x3 = 9 then (some 2) else (some 0))))
def weirref09_weight.f (k : Nat) (a0 : Int) : Option (Int) := if a0 = 3 then (weirref09_weight.j0 k a0 (a0 == 3)) else (if a0 = 4 then (weirref09_weight.j0 k a0 (a0 == 4)) else (if a0 = 5 then (weirref09_weight.j0 k a0 (a0 == 5)) else (weirref09_weight.j0 k a0 (a0 == 6))))
theorem weirref09_weight.mono_l : ∀ k, (∀ y0 y1, LeO (weirref09_weight.j0 k y0 y1) (weirref09_weight.j0 (k + 1) y0 y1))
 | 0 => fun _ _ r h => by simp [weirref09_weight.j0] at h
 | k + 1 => by
  have ih0 := weirref09_weight.mono_l k
  ·
   intro y0 y1; unfold weirref09_weight.j0
   repeat' first
   | (with_reducible exact ih0 _ _)
   | (with_reducible exact LeO.refl _)
   | (with_reducible exact LeO.none _)
   | (with_reducible refine LeO.ite ?_ ?_)
   | (with_reducible refine LeO.bind ?_ (fun _ => ?_))
   | exact ih0 _ _
   | exact LeO.none _
   | refine LeO.ite ?_ ?_
   | refine LeO.bind ?_ (fun _ => ?_)
theorem weirref09_weight.mono : ∀ a0 k, LeO (weirref09_weight.f k a0) (weirref09_weight.f (k + 1) a0) := by
 intro a0 k; have ih0 := weirref09_weight.mono_l k; unfold weirref09_weight.f
 repeat' first
   | (with_reducible exact ih0 _ _)
   | (with_reducible exact LeO.refl _)
   | (with_reducible exact LeO.none _)
   | (with_reducible refine LeO.ite ?_ ?_)
   | (with_reducible refine LeO.bind ?_ (fun _ => ?_))
   | exact ih0 _ _
   | exact LeO.none _
   | refine LeO.ite ?_ ?_
   | refine LeO.bind ?_ (fun _ => ?_)
set_option maxHeartbeats 8000000 in
set_option maxRecDepth 100000 in
theorem weirref09_weight.calls (k : Nat) (a0 : Int) (r : Int) (w : World) (h : weirref09_weight.f k a0 = some r) :
  Calls Try.prog 101 #[.int .i64 a0] w fun e w' => e = .returned (.int .i64 r) ∧ Drawn0 w w' := by
 have H : (if a0 = 3 then (weirref09_weight.j0 k a0 (a0 == 3)) else (if a0 = 4 then (weirref09_weight.j0 k a0 (a0 == 4)) else (if a0 = 5 then (weirref09_weight.j0 k a0 (a0 == 5)) else (weirref09_weight.j0 k a0 (a0 == 6))))) = some r := h; clear h; have HC2 := Aside0.mk H; clear H; go_enter Try.func101, Try.ntmps101
 go_upto_if 4 with (fail)
 go_cut [4] (fun v4 wc => ∃ (kq : Nat) (x4_1 : Bool), v4 = .bool x4_1 ∧ Aside0 (weirref09_weight.j0 kq a0 x4_1 = some r) ∧ Aside0 (kq ≤ k) ∧ Drawn0 w wc)
 case first =>
  have H := HC2.out; clear HC2
  by_cases c3 : a0 = 3
  ·
   rw [if_pos c3] at H; have c3b0 : (a0 == 3) = true := beq_iff_eq.mpr c3; have c3b1 : (a0 != 3) = false := bne_eq_false_iff_eq.mpr c3; clear c3
   (first | rw [c3b0] | (simp only [i64_w, i32_w]; rw [c3b0]) | skip)
   have H' := Aside0.mk H; clear H; go_wp2; go_meet
   case rel => exact ⟨_, ((a0 == 3)), ff_, H', ⟨by first | omega | exact Nat.le_refl _⟩, by repeat (first | exact Drawn0.refl _ | apply Drawn0.step)⟩
  ·
   rw [if_neg c3] at H; have c3b0 : (a0 == 3) = false := beq_eq_false_iff_ne.mpr c3; have c3b1 : (a0 != 3) = true := bne_iff_ne.mpr c3
   (first | rw [c3b0] | (simp only [i64_w, i32_w]; rw [c3b0]) | skip)
   by_cases c4 : a0 = 4
   ·
    rw [if_pos c4] at H; have c4b0 : (a0 == 4) = true := beq_iff_eq.mpr c4; have c4b1 : (a0 != 4) = false := bne_eq_false_iff_eq.mpr c4; clear c4; have H' := Aside0.mk H; clear H; go_wp2; go_meet
    case rel => exact ⟨_, ((a0 == 4)), ff_, H', ⟨by first | omega | exact Nat.le_refl _⟩, by repeat (first | exact Drawn0.refl _ | apply Drawn0.step)⟩
   ·
    rw [if_neg c4] at H; have c4b0 : (a0 == 4) = false := beq_eq_false_iff_ne.mpr c4; have c4b1 : (a0 != 4) = true := bne_iff_ne.mpr c4
    by_cases c5 : a0 = 5
    ·
     rw [if_pos c5] at H; have c5b0 : (a0 == 5) = true := beq_iff_eq.mpr c5; have c5b1 : (a0 != 5) = false := bne_eq_false_iff_eq.mpr c5; clear c5; have H' := Aside0.mk H; clear H; go_wp2; go_meet
     case rel => exact ⟨_, ((a0 == 5)), ff_, H', ⟨by first | omega | exact Nat.le_refl _⟩, by repeat (first | exact Drawn0.refl _ | apply Drawn0.step)⟩
    ·
     rw [if_neg c5] at H; have c5b0 : (a0 == 5) = false := beq_eq_false_iff_ne.mpr c5; have c5b1 : (a0 != 5) = true := bne_iff_ne.mpr c5; have H' := Aside0.mk H; clear H; go_wp2; go_meet
     case rel => exact ⟨_, ((a0 == 6)), ff_, H', ⟨by first | omega | exact Nat.le_refl _⟩, by repeat (first | exact Drawn0.refl _ | apply Drawn0.step)⟩
 case rest =>
  clear HC2; obtain ⟨kq, x4_1, rfl, HA, HJ1, ⟨mc1, rfl⟩⟩ := hcut
  cases kq with
  | zero => exact absurd HA.out (by simp [weirref09_weight.j0])
  | succ kj1 =>
   have H := HA.out; clear HA; simp only [weirref09_weight.j0] at H
   by_cases c6 : x4_1 = true
   ·
    subst c6; have H1 : (some 1) = some r := by rw [if_pos rfl] at H; exact H
    clear H; have H := H1; clear H1; obtain rfl := Option.some.inj H; go_wp2
    go_ret
    exact ⟨ff_, by repeat (first | exact Drawn0.refl _ | apply Drawn0.step)⟩
   ·
    replace c6 := Bool.eq_false_iff.mpr c6; subst c6; have H1 : (if a0 = 7 then (some 2) else (if a0 = 8 then (some 2) else (if a0 = 9 then (some 2) else (some 0)))) = some r := by rw [if_neg (show ¬ (false = true) by decide)] at H; exact H
    clear H; have H := H1; clear H1
    by_cases c7 : a0 = 7
    ·
     rw [if_pos c7] at H; have c7b0 : (a0 == 7) = true := beq_iff_eq.mpr c7; have c7b1 : (a0 != 7) = false := bne_eq_false_iff_eq.mpr c7; clear c7; obtain rfl := Option.some.inj H; go_wp2
     go_ret
     exact ⟨ff_, by repeat (first | exact Drawn0.refl _ | apply Drawn0.step)⟩
    ·
     rw [if_neg c7] at H; have c7b0 : (a0 == 7) = false := beq_eq_false_iff_ne.mpr c7; have c7b1 : (a0 != 7) = true := bne_iff_ne.mpr c7
     by_cases c8 : a0 = 8
     ·
      rw [if_pos c8] at H; have c8b0 : (a0 == 8) = true := beq_iff_eq.mpr c8; have c8b1 : (a0 != 8) = false := bne_eq_false_iff_eq.mpr c8; clear c8; obtain rfl := Option.some.inj H; go_wp2
      go_ret
      exact ⟨ff_, by repeat (first | exact Drawn0.refl _ | apply Drawn0.step)⟩
     ·
      rw [if_neg c8] at H; have c8b0 : (a0 == 8) = false := beq_eq_false_iff_ne.mpr c8; have c8b1 : (a0 != 8) = true := bne_iff_ne.mpr c8
      by_cases c9 : a0 = 9
      ·
       rw [if_pos c9] at H; have c9b0 : (a0 == 9) = true := beq_iff_eq.mpr c9; have c9b1 : (a0 != 9) = false := bne_eq_false_iff_eq.mpr c9; clear c9; obtain rfl := Option.some.inj H; go_wp2
       go_ret
       exact ⟨ff_, by repeat (first | exact Drawn0.refl _ | apply Drawn0.step)⟩
      ·
       rw [if_neg c9] at H; have c9b0 : (a0 == 9) = false := beq_eq_false_iff_ne.mpr c9; have c9b1 : (a0 != 9) = true := bne_iff_ne.mpr c9; obtain rfl := Option.some.inj H; go_wp2
       go_ret
       exact ⟨ff_, by repeat (first | exact Drawn0.refl _ | apply Drawn0.step)⟩

/-! ### weirref09_Events: function 63 -/
mutual
def weirref09_Events.l0 : Nat → Int → Int → List (List (S87)) → List (List ByteArray) → List ByteArray → List (List Int) → List Int → Option (Int)
 | 0, _, _, _, _, _, _, _ => none
 | k + 1, x3, x4, x248000, x248001, x248002, x248003, x248004 => if x4 < (x248000.length : Int) then (weirref09_Events.l1 k x3 x4 0 x248000 x248001 x248002 x248003 x248004) else (some x3)
def weirref09_Events.l1 : Nat → Int → Int → Int → List (List (S87)) → List (List ByteArray) → List ByteArray → List (List Int) → List Int → Option (Int)
 | 0, _, _, _, _, _, _, _, _ => none
 | k + 1, x3, x4, x5, x248000, x248001, x248002, x248003, x248004 => if 0 ≤ x4 then (if x4 < (x248000.length : Int) then (if x5 < ((rd_L3 x248000 x4).length : Int) then (if 0 ≤ x5 then ((weirref09_weight.f k ((rd_T87 (rd_L3 x248000 x4) x5).f0)).bind fun t251 => (weirref09_Events.l1 k (wrap64 (x3 + t251)) x4 (wrap64 (x5 + 1)) x248000 x248001 x248002 x248003 x248004)) else (none)) else (weirref09_Events.l0 k x3 (wrap64 (x4 + 1)) x248000 x248001 x248002 x248003 x248004)) else (none)) else (none)
end
def weirref09_Events.f (k : Nat) (l0_0 : List (List (S87))) (l0_1 : List (List ByteArray)) (l0_2 : List ByteArray) (l0_3 : List (List Int)) (l0_4 : List Int) : Option (Int) := weirref09_Events.l0 k (l0_2.length : Int) 0 l0_0 l0_1 l0_2 l0_3 l0_4
theorem weirref09_Events.mono_l : ∀ k, (∀ y0 y1 y2 y3 y4 y5 y6, LeO (weirref09_Events.l0 k y0 y1 y2 y3 y4 y5 y6) (weirref09_Events.l0 (k + 1) y0 y1 y2 y3 y4 y5 y6)) ∧ (∀ y0 y1 y2 y3 y4 y5 y6 y7, LeO (weirref09_Events.l1 k y0 y1 y2 y3 y4 y5 y6 y7) (weirref09_Events.l1 (k + 1) y0 y1 y2 y3 y4 y5 y6 y7))
 | 0 => ⟨fun _ _ _ _ _ _ _ r h => by simp [weirref09_Events.l0] at h, fun _ _ _ _ _ _ _ _ r h => by simp [weirref09_Events.l1] at h⟩
 | k + 1 => by
  obtain ⟨ih0, ih1⟩ := weirref09_Events.mono_l k; refine ⟨?_, ?_⟩; intro y0 y1 y2 y3 y4 y5 y6; unfold weirref09_Events.l0; rotate_left; intro y0 y1 y2 y3 y4 y5 y6 y7; unfold weirref09_Events.l1; rotate_left
  all_goals (repeat' first
   | (with_reducible exact ih0 _ _ _ _ _ _ _)
   | (with_reducible exact ih1 _ _ _ _ _ _ _ _)
   | (with_reducible exact weirref09_weight.mono _ _)
   | (with_reducible exact LeO.refl _)
   | (with_reducible exact LeO.none _)
   | (with_reducible refine LeO.ite ?_ ?_)
   | (with_reducible refine LeO.bind ?_ (fun _ => ?_))
   | exact ih0 _ _ _ _ _ _ _
   | exact ih1 _ _ _ _ _ _ _ _
   | exact weirref09_weight.mono _ _
   | exact LeO.none _
   | refine LeO.ite ?_ ?_
   | refine LeO.bind ?_ (fun _ => ?_))
theorem weirref09_Events.mono : ∀ a0 a1 a2 a3 a4 k, LeO (weirref09_Events.f k a0 a1 a2 a3 a4) (weirref09_Events.f (k + 1) a0 a1 a2 a3 a4) := by
 intro a0 a1 a2 a3 a4 k; obtain ⟨ih0, ih1⟩ := weirref09_Events.mono_l k; unfold weirref09_Events.f
 repeat' first
   | (with_reducible exact ih0 _ _ _ _ _ _ _)
   | (with_reducible exact ih1 _ _ _ _ _ _ _ _)
   | (with_reducible exact weirref09_weight.mono _ _)
   | (with_reducible exact LeO.refl _)
   | (with_reducible exact LeO.none _)
   | (with_reducible refine LeO.ite ?_ ?_)
   | (with_reducible refine LeO.bind ?_ (fun _ => ?_))
   | exact ih0 _ _ _ _ _ _ _
   | exact ih1 _ _ _ _ _ _ _ _
   | exact weirref09_weight.mono _ _
   | exact LeO.none _
   | refine LeO.ite ?_ ?_
   | refine LeO.bind ?_ (fun _ => ?_)
set_option maxHeartbeats 8000000 in
set_option maxRecDepth 100000 in
theorem weirref09_Events.calls (k : Nat) (A0_0 : Option Addr) (c0_0 : Nat) (l0_0 : List (List (S87))) (A0_1 : Option Addr) (c0_1 : Nat) (l0_1 : List (List ByteArray)) (A0_2 : Option Addr) (c0_2 : Nat) (l0_2 : List ByteArray) (A0_3 : Option Addr) (c0_3 : Nat) (l0_3 : List (List Int)) (A0_4 : Option Addr) (c0_4 : Nat) (l0_4 : List Int) (r : Int) (w : World) (hr0_0 : Kd.C (Kd.slice 87 k87) w A0_0 l0_0.length l0_0) (hc0_0 : l0_0.length ≤ c0_0) (hr0_1 : Kd.C (Kd.slice 9 Kd.string) w A0_1 l0_1.length l0_1) (hc0_1 : l0_1.length ≤ c0_1) (hr0_2 : Kd.C Kd.string w A0_2 l0_2.length l0_2) (hc0_2 : l0_2.length ≤ c0_2) (hr0_3 : Kd.C (Kd.slice 2 (Kd.int .i64)) w A0_3 l0_3.length l0_3) (hc0_3 : l0_3.length ≤ c0_3) (hr0_4 : Kd.C (Kd.int .i64) w A0_4 l0_4.length l0_4) (hc0_4 : l0_4.length ≤ c0_4) (h : weirref09_Events.f k l0_0 l0_1 l0_2 l0_3 l0_4 = some r) :
  Calls Try.prog 63 #[.agg #[.slice A0_0 l0_0.length c0_0, .slice A0_1 l0_1.length c0_1, .slice A0_2 l0_2.length c0_2, .slice A0_3 l0_3.length c0_3, .slice A0_4 l0_4.length c0_4]] w fun e w' => e = .returned (.int .i64 r) ∧ Below w.heap.size w w' := by
 have hu28 := Try.underlying28; have HR0_0 := Aside0.mk hr0_0; have HC0_0 := Aside0.mk hc0_0; clear hr0_0 hc0_0; have HR0_1 := Aside0.mk hr0_1; have HC0_1 := Aside0.mk hc0_1; clear hr0_1 hc0_1; have HR0_2 := Aside0.mk hr0_2; have HC0_2 := Aside0.mk hc0_2; clear hr0_2 hc0_2; have HR0_3 := Aside0.mk hr0_3; have HC0_3 := Aside0.mk hc0_3; clear hr0_3 hc0_3; have HR0_4 := Aside0.mk hr0_4; have HC0_4 := Aside0.mk hc0_4; clear hr0_4 hc0_4; have HB := Aside0.mk (Below.refl w.heap.size w); have H : (weirref09_Events.l0 k (l0_2.length : Int) 0 l0_0 l0_1 l0_2 l0_3 l0_4) = some r := h; clear h; have H' := Aside0.mk H; clear H; go_enter Try.func63, Try.ntmps63
 go_wp2_with (first | ((with_reducible refine gate_dst (N := 1) rfl ?_); refine bx_ (N := 1) (cs := #[.slice A0_0 l0_0.length c0_0, .slice A0_1 l0_1.length c0_1, .slice A0_2 l0_2.length c0_2, .slice A0_3 l0_3.length c0_3, .slice A0_4 l0_4.length c0_4]) (t := 28) ?_; intro gb247 hg w2 hbox hb; have n0_ := bs_ w hb; have n1_ := Aside0.mk (hbox); have n2_ := gl_ w hg; have n3_ := n2_; clear HB; have HB := n0_; have BK247 := n1_; have GW247 := n2_; have GE247 := n3_; clear n0_ n1_ n2_ n3_; clear hb hbox hg; obtain ⟨z3_0, z3_1, z3_2, z3_3, z3_4, y3_0, y3_1, y3_2, y3_3, y3_4⟩ := blkA5 BK247.out))
 go_loopg [3, 4] k (fun kq v3 v4 w' => ∃ (x3_1 : Int) (x4_1 : Int), v3 = .int .i64 x3_1 ∧ v4 = .int .i64 x4_1 ∧ Aside0 (weirref09_Events.l0 kq x3_1 x4_1 l0_0 l0_1 l0_2 l0_3 l0_4 = some r) ∧ Aside0 (kq ≤ k) ∧ Aside0 (w'.heap[gb247]? = some (.cells #[(.slice A0_0 l0_0.length c0_0), (.slice A0_1 l0_1.length c0_1), (.slice A0_2 l0_2.length c0_2), (.slice A0_3 l0_3.length c0_3), (.slice A0_4 l0_4.length c0_4)] 28 (0, 0))) ∧ Aside0 (Below w.heap.size w w'))
 case atStart => exact ⟨((l0_2.length : Int)), (0), ff_, ff_, H', ⟨Nat.le_refl _⟩, ⟨bk_ BK247⟩, ⟨bel_⟩⟩
 case round =>
  clear H'; (try clear z3_0 z3_1 z3_2 z3_3 z3_4 y3_0 y3_1 y3_2 y3_3 y3_4); obtain ⟨x3_1, x4_1, rfl, rfl, HA, HK1, BK247, HB⟩ := hrel
  cases gk with
  | zero => exact absurd HA.out (by simp [weirref09_Events.l0])
  | succ k1 =>
   have H := HA.out; clear HA; simp only [weirref09_Events.l0] at H
   by_cases c4 : x4_1 < (l0_0.length : Int)
   ·
    rw [if_pos c4] at H; have c4b0 : decide (x4_1 < (l0_0.length : Int)) = true := decide_eq_true c4; clear c4; have H' := Aside0.mk H; clear H; obtain ⟨z5_0, z5_1, z5_2, z5_3, z5_4, y5_0, y5_1, y5_2, y5_3, y5_4⟩ := blkA5 BK247.out; go_wp2
    go_loopg [3, 5] k1 (fun kq v3 v5 w' => ∃ (x3_2 : Int) (x5_2 : Int), v3 = .int .i64 x3_2 ∧ v5 = .int .i64 x5_2 ∧ Aside0 (weirref09_Events.l1 kq x3_2 x4_1 x5_2 l0_0 l0_1 l0_2 l0_3 l0_4 = some r) ∧ Aside0 (kq ≤ k1) ∧ Aside0 (w'.heap[gb247]? = some (.cells #[(.slice A0_0 l0_0.length c0_0), (.slice A0_1 l0_1.length c0_1), (.slice A0_2 l0_2.length c0_2), (.slice A0_3 l0_3.length c0_3), (.slice A0_4 l0_4.length c0_4)] 28 (0, 0))) ∧ Aside0 (Below w.heap.size w w'))
    case atStart => exact ⟨(x3_1), (0), ff_, ff_, H', ⟨Nat.le_refl _⟩, ⟨bk_ BK247⟩, ⟨bel_⟩⟩
    case round =>
     clear H'; (try clear c4b0); (try clear z5_0 z5_1 z5_2 z5_3 z5_4 y5_0 y5_1 y5_2 y5_3 y5_4); obtain ⟨x3_2, x5_2, rfl, rfl, HA, HK2, BK247, HB⟩ := hrel
     cases gk with
     | zero => exact absurd HA.out (by simp [weirref09_Events.l1])
     | succ k2 =>
      have H := HA.out; clear HA; simp only [weirref09_Events.l1] at H
      by_cases c6 : 0 ≤ x4_1
      ·
       rw [if_pos c6] at H; have c6b0 : decide (0 ≤ x4_1) = true := decide_eq_true c6; clear c6
       by_cases c7 : x4_1 < (l0_0.length : Int)
       ·
        rw [if_pos c7] at H; have c7b0 : decide (x4_1 < (l0_0.length : Int)) = true := decide_eq_true c7; clear c7
        by_cases c8 : x5_2 < ((rd_L3 l0_0 x4_1).length : Int)
        ·
         rw [if_pos c8] at H; have c8b0 : decide (x5_2 < ((rd_L3 l0_0 x4_1).length : Int)) = true := decide_eq_true c8; clear c8
         by_cases c9 : 0 ≤ x5_2
         ·
          rw [if_pos c9] at H; have c9b0 : decide (0 ≤ x5_2) = true := decide_eq_true c9; clear c9; replace H := Option.bind_eq_some_iff.mp H; obtain ⟨t251, A100, H⟩ := H; replace H : (weirref09_Events.l1 k2 (wrap64 (x3_2 + t251)) x4_1 (wrap64 (x5_2 + 1)) l0_0 l0_1 l0_2 l0_3 l0_4) = some r := H; have A10 := Aside0.mk A100; clear A100; have H' := Aside0.mk H; clear H; obtain ⟨z11_0, z11_1, z11_2, z11_3, z11_4, y11_0, y11_1, y11_2, y11_3, y11_4⟩ := blkA5 BK247.out; have p248 : 0 ≤ (x4_1 : Int) := dt_; have q248 : x4_1 < (l0_0.length : Int) := dt_; obtain ⟨ad248, A248_0, c248_0, e248, hx248_0, hl248_0, hi248_0⟩ := at_L3 HR0_0.out x4_1 p248 q248; cases e248; replace hx248_0 := hx_ HB hx248_0; have HR248_0 := Aside0.mk hi248_0; have HC248_0 := Aside0.mk hl248_0; clear hi248_0 hl248_0; replace p248 := eq_true p248; replace q248 := eq_true q248; have p249 : 0 ≤ (x4_1 : Int) := dt_; have q249 : x4_1 < (l0_0.length : Int) := dt_; obtain ⟨ad249, A249_0, c249_0, e249, hx249_0, hl249_0, hi249_0⟩ := at_L3 HR0_0.out x4_1 p249 q249; obtain rfl : ad248 = ad249 := (by injection e249); replace hx249_0 := hx_ HB hx249_0; have HR249_0 := Aside0.mk hi249_0; have HC249_0 := Aside0.mk hl249_0; clear hi249_0 hl249_0; replace p249 := eq_true p249; replace q249 := eq_true q249; have ea_ := Option.some.inj (hx248_0.symm.trans hx249_0)
          injection ea_ with ea_ en_ ec_
          subst ea_; subst ec_; clear en_; have p250 : 0 ≤ (x5_2 : Int) := dt_; have q250 : x5_2 < ((rd_L3 l0_0 x4_1).length : Int) := dt_; obtain ⟨ad250, e250, hx250_0, hx250_1, hx250_2, hx250_3, hx250_4⟩ := at_T87 HR249_0.out x5_2 p250 q250; cases e250; replace hx250_0 := hx_ HB hx250_0; replace hx250_1 := hx_ HB hx250_1; replace hx250_2 := hx_ HB hx250_2; replace hx250_3 := hx_ HB hx250_3; replace hx250_4 := hx_ HB hx250_4; replace p250 := eq_true p250; replace q250 := eq_true q250
          go_wp2_with (first | ((with_reducible refine gate_callee (f := 101) rfl ?_); refine goesL_ (some 36) rfl rfl Try.func101 (by kernel_rfl) rfl #[.int .i64 ((rd_T87 (rd_L3 l0_0 x4_1) x5_2).f0)] rfl ag_ ?_; (with_reducible refine (weirref09_weight.calls k2 ((rd_T87 (rd_L3 l0_0 x4_1) x5_2).f0) t251 _ A10.out).mono ?_); rintro e w' ⟨rfl, ⟨nd, rfl⟩⟩; refine ⟨_, rfl, ?_⟩))
          go_roundg k2
          case measure => have := HK1.out; have := HK2.out; omega
          case rel => exact ⟨(wrap64 (x3_2 + t251)), (wrap64 (x5_2 + 1)), ff_, ff_, H', ⟨by have := HK1.out; have := HK2.out; omega⟩, ⟨bk_ BK247⟩, ⟨bel_⟩⟩
         ·
          rw [if_neg c9] at H; exact absurd H (by simp)
        ·
         rw [if_neg c8] at H; have c8b0 : decide (x5_2 < ((rd_L3 l0_0 x4_1).length : Int)) = false := decide_eq_false c8; clear c8; have H' := Aside0.mk H; clear H; obtain ⟨z12_0, z12_1, z12_2, z12_3, z12_4, y12_0, y12_1, y12_2, y12_3, y12_4⟩ := blkA5 BK247.out; have p248 : 0 ≤ (x4_1 : Int) := dt_; have q248 : x4_1 < (l0_0.length : Int) := dt_; obtain ⟨ad248, A248_0, c248_0, e248, hx248_0, hl248_0, hi248_0⟩ := at_L3 HR0_0.out x4_1 p248 q248; cases e248; replace hx248_0 := hx_ HB hx248_0; have HR248_0 := Aside0.mk hi248_0; have HC248_0 := Aside0.mk hl248_0; clear hi248_0 hl248_0; replace p248 := eq_true p248; replace q248 := eq_true q248; go_wp2
         go_roundg k2
         case measure => have := HK1.out; have := HK2.out; omega
         case rel => exact ⟨(x3_2), (wrap64 (x4_1 + 1)), ff_, ff_, H', ⟨by have := HK1.out; have := HK2.out; omega⟩, ⟨bk_ BK247⟩, ⟨bel_⟩⟩
       ·
        rw [if_neg c7] at H; exact absurd H (by simp)
      ·
       rw [if_neg c6] at H; exact absurd H (by simp)
   ·
    rw [if_neg c4] at H; have c4b0 : decide (x4_1 < (l0_0.length : Int)) = false := decide_eq_false c4; clear c4; obtain rfl := Option.some.inj H; obtain ⟨z13_0, z13_1, z13_2, z13_3, z13_4, y13_0, y13_1, y13_2, y13_3, y13_4⟩ := blkA5 BK247.out; go_wp2
    go_ret
    exact ⟨ee_, bel_⟩

end Go.Proofs.Ytemhpbdlonfikaa.P
