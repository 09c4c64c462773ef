-- Printed by xprint.py, a program of this session over the kit's printer.
import Derived.Test.YtemhpbdlonfikaaP3
import Derived.Test.YtemhpbdlonfikaaHreg
namespace Go.Proofs.Ytemhpbdlonfikaa.P
open Go.RowKit Go.Proofs.YtemhpbdlonfikaaW.PrintWords Go.Proofs.YtemhpbdlonfikaaW.PrintLast Go.Proofs.YtemhpbdlonfikaaW.PrintMore
attribute [local go_sem] max2_int min2_int max_two min_two max_three min_three max_four min_four   -- for this text's walks alone

/-! ### weirref09_registers: function 59 -/
mutual
def weirref09_registers.j0 : Nat → Int → Bool → List (List (S87)) → List (List ByteArray) → List ByteArray → List (List Int) → List Int → Option (Int)
 | 0, _, _, _, _, _, _, _ => none
 | k + 1, x3, x21, x225000, x225001, x225002, x225003, x225004 => if x21 = true then (some 92) else (weirref09_registers.l0 k x3 0 x225000 x225001 x225002 x225003 x225004)
def weirref09_registers.l0 : Nat → Int → Int → List (List (S87)) → List (List ByteArray) → List ByteArray → List (List Int) → List Int → Option (Int)
 | 0, _, _, _, _, _, _, _ => none
 | k + 1, x3, x4, x225000, x225001, x225002, x225003, x225004 => if x4 < x3 then (if 0 ≤ x4 then (if x4 < (x225003.length : Int) then (if x4 < (x225001.length : Int) then (if ((rd_L5 x225003 x4).length : Int) = ((rd_L4 x225001 x4).length : Int) then ((weirref09_rises.f k (rd_L4 x225001 x4)).bind fun t228 => (weirref09_registers.j2 k x3 x4 (!t228) x225000 x225001 x225002 x225003 x225004)) else (weirref09_registers.j2 k x3 x4 true x225000 x225001 x225002 x225003 x225004)) else (none)) else (none)) else (none)) else (weirref09_registers.l2 k x3 0 x225000 x225001 x225002 x225003 x225004)
def weirref09_registers.j2 : Nat → Int → Int → Bool → List (List (S87)) → List (List ByteArray) → List ByteArray → List (List Int) → List Int → Option (Int)
 | 0, _, _, _, _, _, _, _, _ => none
 | k + 1, x3, x4, x48, x225000, x225001, x225002, x225003, x225004 => if x48 = true then (some 92) else (weirref09_registers.l1 k x3 x4 0 x225000 x225001 x225002 x225003 x225004)
def weirref09_registers.l1 : Nat → Int → Int → Int → List (List (S87)) → List (List ByteArray) → List ByteArray → List (List Int) → List Int → Option (Int)
 | 0, _, _, _, _, _, _, _, _ => none
 | k + 1, x3, x4, x5, x225000, x225001, x225002, x225003, x225004 => if 0 ≤ x4 then (if x4 < (x225001.length : Int) then (if x5 < ((rd_L4 x225001 x4).length : Int) then (if 0 ≤ x5 then ((weirref09_Register.f (rdOf ByteArray.empty (rd_L4 x225001 x4) x5)).bind fun t232 => (if t232 = true then (weirref09_registers.l1 k x3 x4 (wrap64 (x5 + 1)) x225000 x225001 x225002 x225003 x225004) else (some 92))) else (none)) else (weirref09_registers.l0 k x3 (wrap64 (x4 + 1)) x225000 x225001 x225002 x225003 x225004)) else (none)) else (none)
def weirref09_registers.l2 : Nat → Int → Int → List (List (S87)) → List (List ByteArray) → List ByteArray → List (List Int) → List Int → Option (Int)
 | 0, _, _, _, _, _, _, _ => none
 | k + 1, x3, x6, x225000, x225001, x225002, x225003, x225004 => if x6 < x3 then (if 0 ≤ x6 then (if x6 < (x225001.length : Int) then (if ((rd_L4 x225001 x6).length : Int) > 8 then (some 98) else (weirref09_registers.l2 k x3 (wrap64 (x6 + 1)) x225000 x225001 x225002 x225003 x225004)) else (none)) else (none)) else (some 0)
end
def weirref09_registers.f (k : Nat) (l0_0 : List (List (S87))) (l0_1 : List (List ByteArray)) (l0_2 : List ByteArray) (l0_3 : List (List Int)) (l0_4 : List Int) : Option (Int) := if (l0_1.length : Int) = (l0_0.length : Int) then (weirref09_registers.j0 k (l0_0.length : Int) ((l0_3.length : Int) != (l0_0.length : Int)) l0_0 l0_1 l0_2 l0_3 l0_4) else (weirref09_registers.j0 k (l0_0.length : Int) true l0_0 l0_1 l0_2 l0_3 l0_4)
theorem weirref09_registers.mono_l : ∀ k, (∀ y0 y1 y2 y3 y4 y5 y6, LeO (weirref09_registers.j0 k y0 y1 y2 y3 y4 y5 y6) (weirref09_registers.j0 (k + 1) y0 y1 y2 y3 y4 y5 y6)) ∧ (∀ y0 y1 y2 y3 y4 y5 y6, LeO (weirref09_registers.l0 k y0 y1 y2 y3 y4 y5 y6) (weirref09_registers.l0 (k + 1) y0 y1 y2 y3 y4 y5 y6)) ∧ (∀ y0 y1 y2 y3 y4 y5 y6 y7, LeO (weirref09_registers.j2 k y0 y1 y2 y3 y4 y5 y6 y7) (weirref09_registers.j2 (k + 1) y0 y1 y2 y3 y4 y5 y6 y7)) ∧ (∀ y0 y1 y2 y3 y4 y5 y6 y7, LeO (weirref09_registers.l1 k y0 y1 y2 y3 y4 y5 y6 y7) (weirref09_registers.l1 (k + 1) y0 y1 y2 y3 y4 y5 y6 y7)) ∧ (∀ y0 y1 y2 y3 y4 y5 y6, LeO (weirref09_registers.l2 k y0 y1 y2 y3 y4 y5 y6) (weirref09_registers.l2 (k + 1) y0 y1 y2 y3 y4 y5 y6))
 | 0 => ⟨fun _ _ _ _ _ _ _ r h => by simp [weirref09_registers.j0] at h, fun _ _ _ _ _ _ _ r h => by simp [weirref09_registers.l0] at h, fun _ _ _ _ _ _ _ _ r h => by simp [weirref09_registers.j2] at h, fun _ _ _ _ _ _ _ _ r h => by simp [weirref09_registers.l1] at h, fun _ _ _ _ _ _ _ r h => by simp [weirref09_registers.l2] at h⟩
 | k + 1 => by
  obtain ⟨ih0, ih1, ih2, ih3, ih4⟩ := weirref09_registers.mono_l k; refine ⟨?_, ?_, ?_, ?_, ?_⟩; intro y0 y1 y2 y3 y4 y5 y6; unfold weirref09_registers.j0; rotate_left; intro y0 y1 y2 y3 y4 y5 y6; unfold weirref09_registers.l0; rotate_left; intro y0 y1 y2 y3 y4 y5 y6 y7; unfold weirref09_registers.j2; rotate_left; intro y0 y1 y2 y3 y4 y5 y6 y7; unfold weirref09_registers.l1; rotate_left; intro y0 y1 y2 y3 y4 y5 y6; unfold weirref09_registers.l2; rotate_left
  all_goals (repeat' first
   | (with_reducible exact ih0 _ _ _ _ _ _ _)
   | (with_reducible exact ih1 _ _ _ _ _ _ _)
   | (with_reducible exact ih2 _ _ _ _ _ _ _ _)
   | (with_reducible exact ih3 _ _ _ _ _ _ _ _)
   | (with_reducible exact ih4 _ _ _ _ _ _ _)
   | (with_reducible exact weirref09_rises.mono _ _)
   | (with_reducible exact LeO.refl _)
   | (with_reducible exact LeO.none _)
   | (with_reducible refine LeO.ite ?_ ?_)
   | (with_reducible refine LeO.bind ?_ (fun _ => ?_))
   | exact ih0 _ _ _ _ _ _ _
   | exact ih1 _ _ _ _ _ _ _
   | exact ih2 _ _ _ _ _ _ _ _
   | exact ih3 _ _ _ _ _ _ _ _
   | exact ih4 _ _ _ _ _ _ _
   | exact weirref09_rises.mono _ _
   | exact LeO.none _
   | refine LeO.ite ?_ ?_
   | refine LeO.bind ?_ (fun _ => ?_))
theorem weirref09_registers.mono : ∀ a0 a1 a2 a3 a4 k, LeO (weirref09_registers.f k a0 a1 a2 a3 a4) (weirref09_registers.f (k + 1) a0 a1 a2 a3 a4) := by
 intro a0 a1 a2 a3 a4 k; obtain ⟨ih0, ih1, ih2, ih3, ih4⟩ := weirref09_registers.mono_l k; unfold weirref09_registers.f
 repeat' first
   | (with_reducible exact ih0 _ _ _ _ _ _ _)
   | (with_reducible exact ih1 _ _ _ _ _ _ _)
   | (with_reducible exact ih2 _ _ _ _ _ _ _ _)
   | (with_reducible exact ih3 _ _ _ _ _ _ _ _)
   | (with_reducible exact ih4 _ _ _ _ _ _ _)
   | (with_reducible exact weirref09_rises.mono _ _)
   | (with_reducible exact LeO.refl _)
   | (with_reducible exact LeO.none _)
   | (with_reducible refine LeO.ite ?_ ?_)
   | (with_reducible refine LeO.bind ?_ (fun _ => ?_))
   | exact ih0 _ _ _ _ _ _ _
   | exact ih1 _ _ _ _ _ _ _
   | exact ih2 _ _ _ _ _ _ _ _
   | exact ih3 _ _ _ _ _ _ _ _
   | exact ih4 _ _ _ _ _ _ _
   | exact weirref09_rises.mono _ _
   | exact LeO.none _
   | refine LeO.ite ?_ ?_
   | refine LeO.bind ?_ (fun _ => ?_)
set_option maxHeartbeats 8000000 in
set_option maxRecDepth 100000 in
theorem weirref09_registers.calls (k : Nat) (A0_0 : Option Addr) (c0_0 : Nat) (l0_0 : List (List (S87))) (A0_1 : Option Addr) (c0_1 : Nat) (l0_1 : List (List ByteArray)) (A0_2 : Option Addr) (c0_2 : Nat) (l0_2 : List ByteArray) (A0_3 : Option Addr) (c0_3 : Nat) (l0_3 : List (List Int)) (A0_4 : Option Addr) (c0_4 : Nat) (l0_4 : List Int) (r : Int) (w : World) (hr0_0 : Kd.C (Kd.slice 87 k87) w A0_0 l0_0.length l0_0) (hc0_0 : l0_0.length ≤ c0_0) (hr0_1 : Kd.C (Kd.slice 9 Kd.string) w A0_1 l0_1.length l0_1) (hc0_1 : l0_1.length ≤ c0_1) (hr0_2 : Kd.C Kd.string w A0_2 l0_2.length l0_2) (hc0_2 : l0_2.length ≤ c0_2) (hr0_3 : Kd.C (Kd.slice 2 (Kd.int .i64)) w A0_3 l0_3.length l0_3) (hc0_3 : l0_3.length ≤ c0_3) (hr0_4 : Kd.C (Kd.int .i64) w A0_4 l0_4.length l0_4) (hc0_4 : l0_4.length ≤ c0_4) (h : weirref09_registers.f k l0_0 l0_1 l0_2 l0_3 l0_4 = some r) :
  Calls Try.prog 59 #[.agg #[.slice A0_0 l0_0.length c0_0, .slice A0_1 l0_1.length c0_1, .slice A0_2 l0_2.length c0_2, .slice A0_3 l0_3.length c0_3, .slice A0_4 l0_4.length c0_4]] w fun e w' => e = .returned (.int .i64 r) ∧ Below w.heap.size w w' := by
 have hu28 := Try.underlying28; have HR0_0 := Aside0.mk hr0_0; have HC0_0 := Aside0.mk hc0_0; clear hr0_0 hc0_0; have HR0_1 := Aside0.mk hr0_1; have HC0_1 := Aside0.mk hc0_1; clear hr0_1 hc0_1; have HR0_2 := Aside0.mk hr0_2; have HC0_2 := Aside0.mk hc0_2; clear hr0_2 hc0_2; have HR0_3 := Aside0.mk hr0_3; have HC0_3 := Aside0.mk hc0_3; clear hr0_3 hc0_3; have HR0_4 := Aside0.mk hr0_4; have HC0_4 := Aside0.mk hc0_4; clear hr0_4 hc0_4; have HB := Aside0.mk (Below.refl w.heap.size w); have H : (if (l0_1.length : Int) = (l0_0.length : Int) then (weirref09_registers.j0 k (l0_0.length : Int) ((l0_3.length : Int) != (l0_0.length : Int)) l0_0 l0_1 l0_2 l0_3 l0_4) else (weirref09_registers.j0 k (l0_0.length : Int) true l0_0 l0_1 l0_2 l0_3 l0_4)) = some r := h; clear h; have HC2 := Aside0.mk H; clear H; go_enter Try.func59, Try.ntmps59
 go_upto_region 2 with (first | ((with_reducible refine gate_dst (N := 1) rfl ?_); (try (refine gate_guard (by rfl) ?_; dsimp only)); refine bx_ (N := 1) (cs := #[.slice A0_0 l0_0.length c0_0, .slice A0_1 l0_1.length c0_1, .slice A0_2 l0_2.length c0_2, .slice A0_3 l0_3.length c0_3, .slice A0_4 l0_4.length c0_4]) (t := 28) ?_; intro gb224 hg w3 hbox hb; have n0_ := bs_ w hb; have n1_ := Aside0.mk (hbox); have n2_ := gl_ w hg; have n3_ := n2_; clear HB; have HB := n0_; have BK224 := n1_; have GW224 := n2_; have GE224 := n3_; clear n0_ n1_ n2_ n3_; clear hb hbox hg; obtain ⟨z4_0, z4_1, z4_2, z4_3, z4_4, y4_0, y4_1, y4_2, y4_3, y4_4⟩ := blkA5 BK224.out))
 repeat (go_quiet (first | ((with_reducible refine gate_dst (N := 1) rfl ?_); (try (refine gate_guard (by rfl) ?_; dsimp only)); refine bx_ (N := 1) (cs := #[.slice A0_0 l0_0.length c0_0, .slice A0_1 l0_1.length c0_1, .slice A0_2 l0_2.length c0_2, .slice A0_3 l0_3.length c0_3, .slice A0_4 l0_4.length c0_4]) (t := 28) ?_; intro gb224 hg w3 hbox hb; have n0_ := bs_ w hb; have n1_ := Aside0.mk (hbox); have n2_ := gl_ w hg; have n3_ := n2_; clear HB; have HB := n0_; have BK224 := n1_; have GW224 := n2_; have GE224 := n3_; clear n0_ n1_ n2_ n3_; clear hb hbox hg; obtain ⟨z4_0, z4_1, z4_2, z4_3, z4_4, y4_0, y4_1, y4_2, y4_3, y4_4⟩ := blkA5 BK224.out)); go_upto_region 2 with (first | ((with_reducible refine gate_dst (N := 1) rfl ?_); (try (refine gate_guard (by rfl) ?_; dsimp only)); refine bx_ (N := 1) (cs := #[.slice A0_0 l0_0.length c0_0, .slice A0_1 l0_1.length c0_1, .slice A0_2 l0_2.length c0_2, .slice A0_3 l0_3.length c0_3, .slice A0_4 l0_4.length c0_4]) (t := 28) ?_; intro gb224 hg w3 hbox hb; have n0_ := bs_ w hb; have n1_ := Aside0.mk (hbox); have n2_ := gl_ w hg; have n3_ := n2_; clear HB; have HB := n0_; have BK224 := n1_; have GW224 := n2_; have GE224 := n3_; clear n0_ n1_ n2_ n3_; clear hb hbox hg; obtain ⟨z4_0, z4_1, z4_2, z4_3, z4_4, y4_0, y4_1, y4_2, y4_3, y4_4⟩ := blkA5 BK224.out)))
 (try simp only [Act.put, List.setIfInBounds_toArray, List.set_cons_zero, List.set_cons_succ])
 go_cut [21] (fun v21 wc => ∃ (kq : Nat) (x21_1 : Bool), v21 = .bool x21_1 ∧ Aside0 (weirref09_registers.j0 kq (l0_0.length : Int) x21_1 l0_0 l0_1 l0_2 l0_3 l0_4 = some r) ∧ Aside0 (kq ≤ k) ∧ Aside0 (wc.heap[gb224]? = some (.cells #[(.slice A0_0 l0_0.length c0_0), (.slice A0_1 l0_1.length c0_1), (.slice A0_2 l0_2.length c0_2), (.slice A0_3 l0_3.length c0_3), (.slice A0_4 l0_4.length c0_4)] 28 (0, 0))) ∧ Aside0 (Below w.heap.size w wc))
 case first =>
  have H := HC2.out; clear HC2
  by_cases c5 : (l0_1.length : Int) = (l0_0.length : Int)
  ·
   rw [if_pos c5] at H; have c5b0 : ((l0_1.length : Int) == (l0_0.length : Int)) = true := beq_iff_eq.mpr c5; have c5b1 : ((l0_1.length : Int) != (l0_0.length : Int)) = false := bne_eq_false_iff_eq.mpr c5; have c5b2 : (l0_1.length == l0_0.length) = true := by first | simpa using c5 | (simp at c5 ⊢; omega)
   clear c5
   (first | rw [c5b0] | (simp only [i64_w, i32_w]; rw [c5b0]) | skip)
   have H' := Aside0.mk H; clear H; obtain ⟨z6_0, z6_1, z6_2, z6_3, z6_4, y6_0, y6_1, y6_2, y6_3, y6_4⟩ := blkA5 BK224.out; go_wp2
   repeat (go_quiet (fail); try go_wp2)
   go_meet
   case rel => exact ⟨_, (((l0_3.length : Int) != (l0_0.length : Int))), ff_, H', ⟨by first | omega | exact Nat.le_refl _⟩, ⟨bk_ BK224⟩, ⟨bel_⟩⟩
  ·
   rw [if_neg c5] at H; have c5b0 : ((l0_1.length : Int) == (l0_0.length : Int)) = false := beq_eq_false_iff_ne.mpr c5; have c5b1 : ((l0_1.length : Int) != (l0_0.length : Int)) = true := bne_iff_ne.mpr c5; have c5b2 : (l0_1.length == l0_0.length) = false := by first | simpa using c5 | (simp at c5 ⊢; omega)
   (first | rw [c5b0] | (simp only [i64_w, i32_w]; rw [c5b0]) | skip)
   have H' := Aside0.mk H; clear H; obtain ⟨z7_0, z7_1, z7_2, z7_3, z7_4, y7_0, y7_1, y7_2, y7_3, y7_4⟩ := blkA5 BK224.out; go_wp2
   repeat (go_quiet (fail); try go_wp2)
   go_meet
   case rel => exact ⟨_, (true), ff_, H', ⟨by first | omega | exact Nat.le_refl _⟩, ⟨bk_ BK224⟩, ⟨bel_⟩⟩
 case rest =>
  clear HC2; (try clear z4_0 z4_1 z4_2 z4_3 z4_4 y4_0 y4_1 y4_2 y4_3 y4_4); obtain ⟨kq, x21_1, rfl, HA, HJ1, BK224, HB⟩ := hcut
  cases kq with
  | zero => exact absurd HA.out (by simp [weirref09_registers.j0])
  | succ kj1 =>
   have H := HA.out; clear HA; simp only [weirref09_registers.j0] at H
   by_cases c8 : x21_1 = true
   ·
    subst c8; have H1 : (some 92) = some r := by rw [if_pos rfl] at H; exact H
    clear H; have H := H1; clear H1; obtain rfl := Option.some.inj H; go_wp2
    repeat (go_quiet (fail); try go_wp2)
    go_ret
    exact ⟨ee_, bel_⟩
   ·
    replace c8 := Bool.eq_false_iff.mpr c8; subst c8; have H1 : (weirref09_registers.l0 kj1 (l0_0.length : Int) 0 l0_0 l0_1 l0_2 l0_3 l0_4) = some r := by rw [if_neg (show ¬ (false = true) by decide)] at H; exact H
    clear H; have H := H1; clear H1; have H' := Aside0.mk H; clear H; go_wp2
    repeat (go_quiet (fail); try go_wp2)
    go_loopg [4] kj1 (fun kq v4 w' => ∃ (x4_2 : Int), v4 = .int .i64 x4_2 ∧ Aside0 (weirref09_registers.l0 kq (l0_0.length : Int) x4_2 l0_0 l0_1 l0_2 l0_3 l0_4 = some r) ∧ Aside0 (kq ≤ kj1) ∧ Aside0 (w'.heap[gb224]? = some (.cells #[(.slice A0_0 l0_0.length c0_0), (.slice A0_1 l0_1.length c0_1), (.slice A0_2 l0_2.length c0_2), (.slice A0_3 l0_3.length c0_3), (.slice A0_4 l0_4.length c0_4)] 28 (0, 0))) ∧ Aside0 (Below w.heap.size w w'))
    case atStart => exact ⟨(0), ff_, H', ⟨Nat.le_refl _⟩, ⟨bk_ BK224⟩, ⟨bel_⟩⟩
    case round =>
     clear H'; (try clear c8); obtain ⟨x4_2, rfl, HA, HK2, BK224, HB⟩ := hrel
     cases gk with
     | zero => exact absurd HA.out (by simp [weirref09_registers.l0])
     | succ k2 =>
      have H := HA.out; clear HA; simp only [weirref09_registers.l0] at H
      by_cases c9 : x4_2 < (l0_0.length : Int)
      ·
       rw [if_pos c9] at H; have c9b0 : decide (x4_2 < (l0_0.length : Int)) = true := decide_eq_true c9; clear c9; have HC10 := Aside0.mk H; clear H
       go_upto_region 7 with (fail)
       repeat (go_quiet (fail); go_upto_region 7 with (fail))
       go_cut [48] (fun v48 wc => ∃ (kq : Nat) (x48_9 : Bool), v48 = .bool x48_9 ∧ Aside0 (weirref09_registers.j2 kq (l0_0.length : Int) x4_2 x48_9 l0_0 l0_1 l0_2 l0_3 l0_4 = some r) ∧ Aside0 (kq ≤ k2) ∧ Aside0 (wc.heap[gb224]? = some (.cells #[(.slice A0_0 l0_0.length c0_0), (.slice A0_1 l0_1.length c0_1), (.slice A0_2 l0_2.length c0_2), (.slice A0_3 l0_3.length c0_3), (.slice A0_4 l0_4.length c0_4)] 28 (0, 0))) ∧ Aside0 (Below w.heap.size w wc))
       case first =>
        have H := HC10.out; clear HC10
        by_cases c11 : 0 ≤ x4_2
        ·
         rw [if_pos c11] at H; have c11b0 : decide (0 ≤ x4_2) = true := decide_eq_true c11; clear c11
         (first | rw [c11b0] | (simp only [i64_w, i32_w]; rw [c11b0]) | skip)
         by_cases c12 : x4_2 < (l0_3.length : Int)
         ·
          rw [if_pos c12] at H; have c12b0 : decide (x4_2 < (l0_3.length : Int)) = true := decide_eq_true c12; clear c12
          by_cases c13 : x4_2 < (l0_1.length : Int)
          ·
           rw [if_pos c13] at H; have c13b0 : decide (x4_2 < (l0_1.length : Int)) = true := decide_eq_true c13; clear c13
           by_cases c14 : ((rd_L5 l0_3 x4_2).length : Int) = ((rd_L4 l0_1 x4_2).length : Int)
           ·
            rw [if_pos c14] at H; have c14b0 : (((rd_L5 l0_3 x4_2).length : Int) == ((rd_L4 l0_1 x4_2).length : Int)) = true := beq_iff_eq.mpr c14; have c14b1 : (((rd_L5 l0_3 x4_2).length : Int) != ((rd_L4 l0_1 x4_2).length : Int)) = false := bne_eq_false_iff_eq.mpr c14; have c14b2 : ((rd_L5 l0_3 x4_2).length == (rd_L4 l0_1 x4_2).length) = true := by first | simpa using c14 | (simp at c14 ⊢; omega)
            clear c14; replace H := Option.bind_eq_some_iff.mp H; obtain ⟨t228, A150, H⟩ := H; replace H : (weirref09_registers.j2 k2 (l0_0.length : Int) x4_2 (!t228) l0_0 l0_1 l0_2 l0_3 l0_4) = some r := H; have A15 := Aside0.mk A150; clear A150; have H' := Aside0.mk H; clear H; obtain ⟨z16_0, z16_1, z16_2, z16_3, z16_4, y16_0, y16_1, y16_2, y16_3, y16_4⟩ := blkA5 BK224.out; have p225 : 0 ≤ (x4_2 : Int) := dt_; have q225 : x4_2 < (l0_3.length : Int) := dt_; obtain ⟨ad225, A225_0, c225_0, e225, hx225_0, hl225_0, hi225_0⟩ := at_L5 HR0_3.out x4_2 p225 q225; cases e225; replace hx225_0 := hx_ HB hx225_0; have HR225_0 := Aside0.mk hi225_0; have HC225_0 := Aside0.mk hl225_0; clear hi225_0 hl225_0; replace p225 := eq_true p225; replace q225 := eq_true q225; have p226 : 0 ≤ (x4_2 : Int) := dt_; have q226 : x4_2 < (l0_1.length : Int) := dt_; obtain ⟨ad226, A226_0, c226_0, e226, hx226_0, hl226_0, hi226_0⟩ := at_L4 HR0_1.out x4_2 p226 q226; cases e226; replace hx226_0 := hx_ HB hx226_0; have HR226_0 := Aside0.mk hi226_0; have HC226_0 := Aside0.mk hl226_0; clear hi226_0 hl226_0; replace p226 := eq_true p226; replace q226 := eq_true q226; have p227 : 0 ≤ (x4_2 : Int) := dt_; have q227 : x4_2 < (l0_1.length : Int) := dt_; obtain ⟨ad227, A227_0, c227_0, e227, hx227_0, hl227_0, hi227_0⟩ := at_L4 HR0_1.out x4_2 p227 q227; obtain rfl : ad226 = ad227 := (by injection e227); replace hx227_0 := hx_ HB hx227_0; have HR227_0 := Aside0.mk hi227_0; have HC227_0 := Aside0.mk hl227_0; clear hi227_0 hl227_0; replace p227 := eq_true p227; replace q227 := eq_true q227; have ea_ := Option.some.inj (hx226_0.symm.trans hx227_0)
            injection ea_ with ea_ en_ ec_
            subst ea_; subst ec_; clear en_
            go_wp2_with (first | (go_at_call 60; (with_reducible refine (weirref09_rises.calls k2 _ _ (rd_L4 l0_1 x4_2) t228 _ ?side1 ?side2 A15.out).mono ?_); (case side1 => exact cb_ HR227_0); (case side2 => exact HC227_0.out); rintro e w' ⟨rfl, ⟨nd, rfl⟩⟩; (try first | exact ⟨rfl, _, World.drewN_drewN _ _ _⟩ | exact ⟨rfl, _, Eq.trans (World.drewN_drewN _ _ _) (congrArg (World.drewN _) (Nat.add_assoc _ _ _))⟩)))
            repeat (go_quiet (first | (go_at_call 60; (with_reducible refine (weirref09_rises.calls k2 _ _ (rd_L4 l0_1 x4_2) t228 _ ?side1 ?side2 A15.out).mono ?_); (case side1 => exact cb_ HR227_0); (case side2 => exact HC227_0.out); rintro e w' ⟨rfl, ⟨nd, rfl⟩⟩; (try first | exact ⟨rfl, _, World.drewN_drewN _ _ _⟩ | exact ⟨rfl, _, Eq.trans (World.drewN_drewN _ _ _) (congrArg (World.drewN _) (Nat.add_assoc _ _ _))⟩))); try go_wp2_with (first | (go_at_call 60; (with_reducible refine (weirref09_rises.calls k2 _ _ (rd_L4 l0_1 x4_2) t228 _ ?side1 ?side2 A15.out).mono ?_); (case side1 => exact cb_ HR227_0); (case side2 => exact HC227_0.out); rintro e w' ⟨rfl, ⟨nd, rfl⟩⟩; (try first | exact ⟨rfl, _, World.drewN_drewN _ _ _⟩ | exact ⟨rfl, _, Eq.trans (World.drewN_drewN _ _ _) (congrArg (World.drewN _) (Nat.add_assoc _ _ _))⟩))))
            go_meet
            case rel => exact ⟨_, (!t228), ff_, H', ⟨by have := HJ1.out; have := HK2.out; first | omega | exact Nat.le_refl _⟩, ⟨bk_ BK224⟩, ⟨bel_⟩⟩
           ·
            rw [if_neg c14] at H; have c14b0 : (((rd_L5 l0_3 x4_2).length : Int) == ((rd_L4 l0_1 x4_2).length : Int)) = false := beq_eq_false_iff_ne.mpr c14; have c14b1 : (((rd_L5 l0_3 x4_2).length : Int) != ((rd_L4 l0_1 x4_2).length : Int)) = true := bne_iff_ne.mpr c14; have c14b2 : ((rd_L5 l0_3 x4_2).length == (rd_L4 l0_1 x4_2).length) = false := by first | simpa using c14 | (simp at c14 ⊢; omega)
            have H' := Aside0.mk H; clear H; obtain ⟨z17_0, z17_1, z17_2, z17_3, z17_4, y17_0, y17_1, y17_2, y17_3, y17_4⟩ := blkA5 BK224.out; have p225 : 0 ≤ (x4_2 : Int) := dt_; have q225 : x4_2 < (l0_3.length : Int) := dt_; obtain ⟨ad225, A225_0, c225_0, e225, hx225_0, hl225_0, hi225_0⟩ := at_L5 HR0_3.out x4_2 p225 q225; cases e225; replace hx225_0 := hx_ HB hx225_0; have HR225_0 := Aside0.mk hi225_0; have HC225_0 := Aside0.mk hl225_0; clear hi225_0 hl225_0; replace p225 := eq_true p225; replace q225 := eq_true q225; have p226 : 0 ≤ (x4_2 : Int) := dt_; have q226 : x4_2 < (l0_1.length : Int) := dt_; obtain ⟨ad226, A226_0, c226_0, e226, hx226_0, hl226_0, hi226_0⟩ := at_L4 HR0_1.out x4_2 p226 q226; cases e226; replace hx226_0 := hx_ HB hx226_0; have HR226_0 := Aside0.mk hi226_0; have HC226_0 := Aside0.mk hl226_0; clear hi226_0 hl226_0; replace p226 := eq_true p226; replace q226 := eq_true q226; go_wp2
            repeat (go_quiet (fail); try go_wp2)
            go_meet
            case rel => exact ⟨_, (true), ff_, H', ⟨by have := HJ1.out; have := HK2.out; first | omega | exact Nat.le_refl _⟩, ⟨bk_ BK224⟩, ⟨bel_⟩⟩
          ·
           rw [if_neg c13] at H; exact absurd H (by simp)
         ·
          rw [if_neg c12] at H; exact absurd H (by simp)
        ·
         rw [if_neg c11] at H; exact absurd H (by simp)
       case rest =>
        clear HC10; (try clear c9b0); obtain ⟨kq, x48_9, rfl, HA, HJ9, BK224, HB⟩ := hcut
        cases kq with
        | zero => exact absurd HA.out (by simp [weirref09_registers.j2])
        | succ kj9 =>
         have H := HA.out; clear HA; simp only [weirref09_registers.j2] at H
         by_cases c18 : x48_9 = true
         ·
          subst c18; have H1 : (some 92) = some r := by rw [if_pos rfl] at H; exact H
          clear H; have H := H1; clear H1; obtain rfl := Option.some.inj H; go_wp2
          repeat (go_quiet (fail); try go_wp2)
          go_ret
          exact ⟨ee_, bel_⟩
         ·
          replace c18 := Bool.eq_false_iff.mpr c18; subst c18; have H1 : (weirref09_registers.l1 kj9 (l0_0.length : Int) x4_2 0 l0_0 l0_1 l0_2 l0_3 l0_4) = some r := by rw [if_neg (show ¬ (false = true) by decide)] at H; exact H
          clear H; have H := H1; clear H1; have H' := Aside0.mk H; clear H; go_wp2
          repeat (go_quiet (fail); try go_wp2)
          go_loopg [5] kj9 (fun kq v5 w' => ∃ (x5_4 : Int), v5 = .int .i64 x5_4 ∧ Aside0 (weirref09_registers.l1 kq (l0_0.length : Int) x4_2 x5_4 l0_0 l0_1 l0_2 l0_3 l0_4 = some r) ∧ Aside0 (kq ≤ kj9) ∧ Aside0 (w'.heap[gb224]? = some (.cells #[(.slice A0_0 l0_0.length c0_0), (.slice A0_1 l0_1.length c0_1), (.slice A0_2 l0_2.length c0_2), (.slice A0_3 l0_3.length c0_3), (.slice A0_4 l0_4.length c0_4)] 28 (0, 0))) ∧ Aside0 (Below w.heap.size w w'))
          case atStart => exact ⟨(0), ff_, H', ⟨Nat.le_refl _⟩, ⟨bk_ BK224⟩, ⟨bel_⟩⟩
          case round =>
           clear H'; (try clear c18); obtain ⟨x5_4, rfl, HA, HK4, BK224, HB⟩ := hrel
           cases gk with
           | zero => exact absurd HA.out (by simp [weirref09_registers.l1])
           | succ k4 =>
            have H := HA.out; clear HA; simp only [weirref09_registers.l1] at H
            by_cases c19 : 0 ≤ x4_2
            ·
             rw [if_pos c19] at H; have c19b0 : decide (0 ≤ x4_2) = true := decide_eq_true c19; clear c19
             by_cases c20 : x4_2 < (l0_1.length : Int)
             ·
              rw [if_pos c20] at H; have c20b0 : decide (x4_2 < (l0_1.length : Int)) = true := decide_eq_true c20; clear c20
              by_cases c21 : x5_4 < ((rd_L4 l0_1 x4_2).length : Int)
              ·
               rw [if_pos c21] at H; have c21b0 : decide (x5_4 < ((rd_L4 l0_1 x4_2).length : Int)) = true := decide_eq_true c21; clear c21
               by_cases c22 : 0 ≤ x5_4
               ·
                rw [if_pos c22] at H; have c22b0 : decide (0 ≤ x5_4) = true := decide_eq_true c22; clear c22; replace H := Option.bind_eq_some_iff.mp H; obtain ⟨t232, A230, H⟩ := H; replace H : (if t232 = true then (weirref09_registers.l1 k4 (l0_0.length : Int) x4_2 (wrap64 (x5_4 + 1)) l0_0 l0_1 l0_2 l0_3 l0_4) else (some 92)) = some r := H; have A23 := Aside0.mk A230; clear A230
                by_cases c24 : t232 = true
                ·
                 subst c24; have H1 : (weirref09_registers.l1 k4 (l0_0.length : Int) x4_2 (wrap64 (x5_4 + 1)) l0_0 l0_1 l0_2 l0_3 l0_4) = some r := by rw [if_pos rfl] at H; exact H
                 clear H; have H := H1; clear H1; have H' := Aside0.mk H; clear H; obtain ⟨z25_0, z25_1, z25_2, z25_3, z25_4, y25_0, y25_1, y25_2, y25_3, y25_4⟩ := blkA5 BK224.out; have p229 : 0 ≤ (x4_2 : Int) := dt_; have q229 : x4_2 < (l0_1.length : Int) := dt_; obtain ⟨ad229, A229_0, c229_0, e229, hx229_0, hl229_0, hi229_0⟩ := at_L4 HR0_1.out x4_2 p229 q229; cases e229; replace hx229_0 := hx_ HB hx229_0; have HR229_0 := Aside0.mk hi229_0; have HC229_0 := Aside0.mk hl229_0; clear hi229_0 hl229_0; replace p229 := eq_true p229; replace q229 := eq_true q229; have p230 : 0 ≤ (x4_2 : Int) := dt_; have q230 : x4_2 < (l0_1.length : Int) := dt_; obtain ⟨ad230, A230_0, c230_0, e230, hx230_0, hl230_0, hi230_0⟩ := at_L4 HR0_1.out x4_2 p230 q230; obtain rfl : ad229 = ad230 := (by injection e230); replace hx230_0 := hx_ HB hx230_0; have HR230_0 := Aside0.mk hi230_0; have HC230_0 := Aside0.mk hl230_0; clear hi230_0 hl230_0; replace p230 := eq_true p230; replace q230 := eq_true q230; have ea_ := Option.some.inj (hx229_0.symm.trans hx230_0)
                 injection ea_ with ea_ en_ ec_
                 subst ea_; subst ec_; clear en_; have p231 : 0 ≤ (x5_4 : Int) := dt_; have q231 : x5_4 < ((rd_L4 l0_1 x4_2).length : Int) := dt_; obtain ⟨ad231, e231, hx231_0⟩ := Kd.at_string HR230_0.out x5_4 p231 q231; cases e231; replace hx231_0 := hx_ HB hx231_0; replace p231 := eq_true p231; replace q231 := eq_true q231
                 go_wp2_with (first | (go_at_call 97; (with_reducible refine (weirref09_Register.calls (rdOf ByteArray.empty (rd_L4 l0_1 x4_2) x5_4) true _ A23.out).mono ?_); rintro e w26 ⟨rfl, hb⟩; replace BK224 := bb_ BK224 hb; replace HB := bs_ w hb; (try clear hb); (try clear hb2); (try clear hk); (try clear hi)))
                 repeat (go_quiet (first | (go_at_call 97; (with_reducible refine (weirref09_Register.calls (rdOf ByteArray.empty (rd_L4 l0_1 x4_2) x5_4) true _ A23.out).mono ?_); rintro e w26 ⟨rfl, hb⟩; replace BK224 := bb_ BK224 hb; replace HB := bs_ w hb; (try clear hb); (try clear hb2); (try clear hk); (try clear hi))); try go_wp2_with (first | (go_at_call 97; (with_reducible refine (weirref09_Register.calls (rdOf ByteArray.empty (rd_L4 l0_1 x4_2) x5_4) true _ A23.out).mono ?_); rintro e w26 ⟨rfl, hb⟩; replace BK224 := bb_ BK224 hb; replace HB := bs_ w hb; (try clear hb); (try clear hb2); (try clear hk); (try clear hi))))
                 go_roundg k4
                 case measure => have := HJ1.out; have := HK2.out; have := HJ9.out; have := HK4.out; omega
                 case rel => exact ⟨(wrap64 (x5_4 + 1)), ff_, H', ⟨by have := HJ1.out; have := HK2.out; have := HJ9.out; have := HK4.out; omega⟩, ⟨bk_ BK224⟩, ⟨bel_⟩⟩
                ·
                 replace c24 := Bool.eq_false_iff.mpr c24; subst c24; have H1 : (some 92) = some r := by rw [if_neg (show ¬ (false = true) by decide)] at H; exact H
                 clear H; have H := H1; clear H1; obtain rfl := Option.some.inj H; obtain ⟨z27_0, z27_1, z27_2, z27_3, z27_4, y27_0, y27_1, y27_2, y27_3, y27_4⟩ := blkA5 BK224.out; have p229 : 0 ≤ (x4_2 : Int) := dt_; have q229 : x4_2 < (l0_1.length : Int) := dt_; obtain ⟨ad229, A229_0, c229_0, e229, hx229_0, hl229_0, hi229_0⟩ := at_L4 HR0_1.out x4_2 p229 q229; cases e229; replace hx229_0 := hx_ HB hx229_0; have HR229_0 := Aside0.mk hi229_0; have HC229_0 := Aside0.mk hl229_0; clear hi229_0 hl229_0; replace p229 := eq_true p229; replace q229 := eq_true q229; have p230 : 0 ≤ (x4_2 : Int) := dt_; have q230 : x4_2 < (l0_1.length : Int) := dt_; obtain ⟨ad230, A230_0, c230_0, e230, hx230_0, hl230_0, hi230_0⟩ := at_L4 HR0_1.out x4_2 p230 q230; obtain rfl : ad229 = ad230 := (by injection e230); replace hx230_0 := hx_ HB hx230_0; have HR230_0 := Aside0.mk hi230_0; have HC230_0 := Aside0.mk hl230_0; clear hi230_0 hl230_0; replace p230 := eq_true p230; replace q230 := eq_true q230; have ea_ := Option.some.inj (hx229_0.symm.trans hx230_0)
                 injection ea_ with ea_ en_ ec_
                 subst ea_; subst ec_; clear en_; have p231 : 0 ≤ (x5_4 : Int) := dt_; have q231 : x5_4 < ((rd_L4 l0_1 x4_2).length : Int) := dt_; obtain ⟨ad231, e231, hx231_0⟩ := Kd.at_string HR230_0.out x5_4 p231 q231; cases e231; replace hx231_0 := hx_ HB hx231_0; replace p231 := eq_true p231; replace q231 := eq_true q231
                 go_wp2_with (first | (go_at_call 97; (with_reducible refine (weirref09_Register.calls (rdOf ByteArray.empty (rd_L4 l0_1 x4_2) x5_4) false _ A23.out).mono ?_); rintro e w28 ⟨rfl, hb⟩; replace BK224 := bb_ BK224 hb; replace HB := bs_ w hb; (try clear hb); (try clear hb2); (try clear hk); (try clear hi)))
                 repeat (go_quiet (first | (go_at_call 97; (with_reducible refine (weirref09_Register.calls (rdOf ByteArray.empty (rd_L4 l0_1 x4_2) x5_4) false _ A23.out).mono ?_); rintro e w28 ⟨rfl, hb⟩; replace BK224 := bb_ BK224 hb; replace HB := bs_ w hb; (try clear hb); (try clear hb2); (try clear hk); (try clear hi))); try go_wp2_with (first | (go_at_call 97; (with_reducible refine (weirref09_Register.calls (rdOf ByteArray.empty (rd_L4 l0_1 x4_2) x5_4) false _ A23.out).mono ?_); rintro e w28 ⟨rfl, hb⟩; replace BK224 := bb_ BK224 hb; replace HB := bs_ w hb; (try clear hb); (try clear hb2); (try clear hk); (try clear hi))))
                 go_ret
                 exact ⟨ee_, bel_⟩
               ·
                rw [if_neg c22] at H; exact absurd H (by simp)
              ·
               rw [if_neg c21] at H; have c21b0 : decide (x5_4 < ((rd_L4 l0_1 x4_2).length : Int)) = false := decide_eq_false c21; clear c21; have H' := Aside0.mk H; clear H; obtain ⟨z29_0, z29_1, z29_2, z29_3, z29_4, y29_0, y29_1, y29_2, y29_3, y29_4⟩ := blkA5 BK224.out; have p229 : 0 ≤ (x4_2 : Int) := dt_; have q229 : x4_2 < (l0_1.length : Int) := dt_; obtain ⟨ad229, A229_0, c229_0, e229, hx229_0, hl229_0, hi229_0⟩ := at_L4 HR0_1.out x4_2 p229 q229; cases e229; replace hx229_0 := hx_ HB hx229_0; have HR229_0 := Aside0.mk hi229_0; have HC229_0 := Aside0.mk hl229_0; clear hi229_0 hl229_0; replace p229 := eq_true p229; replace q229 := eq_true q229; go_wp2
               repeat (go_quiet (fail); try go_wp2)
               go_roundg k4
               case measure => have := HJ1.out; have := HK2.out; have := HJ9.out; have := HK4.out; omega
               case rel => exact ⟨(wrap64 (x4_2 + 1)), ff_, H', ⟨by have := HJ1.out; have := HK2.out; have := HJ9.out; have := HK4.out; omega⟩, ⟨bk_ BK224⟩, ⟨bel_⟩⟩
             ·
              rw [if_neg c20] at H; exact absurd H (by simp)
            ·
             rw [if_neg c19] at H; exact absurd H (by simp)
      ·
       rw [if_neg c9] at H; have c9b0 : decide (x4_2 < (l0_0.length : Int)) = false := decide_eq_false c9; clear c9; have H' := Aside0.mk H; clear H; go_wp2
       repeat (go_quiet (fail); try go_wp2)
       go_loopg [6] k2 (fun kq v6 w' => ∃ (x6_3 : Int), v6 = .int .i64 x6_3 ∧ Aside0 (weirref09_registers.l2 kq (l0_0.length : Int) x6_3 l0_0 l0_1 l0_2 l0_3 l0_4 = some r) ∧ Aside0 (kq ≤ k2) ∧ Aside0 (w'.heap[gb224]? = some (.cells #[(.slice A0_0 l0_0.length c0_0), (.slice A0_1 l0_1.length c0_1), (.slice A0_2 l0_2.length c0_2), (.slice A0_3 l0_3.length c0_3), (.slice A0_4 l0_4.length c0_4)] 28 (0, 0))) ∧ Aside0 (Below w.heap.size w w'))
       case atStart => exact ⟨(0), ff_, H', ⟨Nat.le_refl _⟩, ⟨bk_ BK224⟩, ⟨bel_⟩⟩
       case round =>
        clear H'; (try clear c9b0); obtain ⟨x6_3, rfl, HA, HK3, BK224, HB⟩ := hrel
        cases gk with
        | zero => exact absurd HA.out (by simp [weirref09_registers.l2])
        | succ k3 =>
         have H := HA.out; clear HA; simp only [weirref09_registers.l2] at H
         by_cases c30 : x6_3 < (l0_0.length : Int)
         ·
          rw [if_pos c30] at H; have c30b0 : decide (x6_3 < (l0_0.length : Int)) = true := decide_eq_true c30; clear c30
          by_cases c31 : 0 ≤ x6_3
          ·
           rw [if_pos c31] at H; have c31b0 : decide (0 ≤ x6_3) = true := decide_eq_true c31; clear c31
           by_cases c32 : x6_3 < (l0_1.length : Int)
           ·
            rw [if_pos c32] at H; have c32b0 : decide (x6_3 < (l0_1.length : Int)) = true := decide_eq_true c32; clear c32
            by_cases c33 : ((rd_L4 l0_1 x6_3).length : Int) > 8
            ·
             rw [if_pos c33] at H; have c33b0 : decide (8 < ((rd_L4 l0_1 x6_3).length : Int)) = true := decide_eq_true c33; have c33b1 : decide (8 < (rd_L4 l0_1 x6_3).length) = true := decide_eq_true (by omega); clear c33; obtain rfl := Option.some.inj H; obtain ⟨z34_0, z34_1, z34_2, z34_3, z34_4, y34_0, y34_1, y34_2, y34_3, y34_4⟩ := blkA5 BK224.out; have p233 : 0 ≤ (x6_3 : Int) := dt_; have q233 : x6_3 < (l0_1.length : Int) := dt_; obtain ⟨ad233, A233_0, c233_0, e233, hx233_0, hl233_0, hi233_0⟩ := at_L4 HR0_1.out x6_3 p233 q233; cases e233; replace hx233_0 := hx_ HB hx233_0; have HR233_0 := Aside0.mk hi233_0; have HC233_0 := Aside0.mk hl233_0; clear hi233_0 hl233_0; replace p233 := eq_true p233; replace q233 := eq_true q233; go_wp2
             repeat (go_quiet (fail); try go_wp2)
             go_ret
             exact ⟨ee_, bel_⟩
            ·
             rw [if_neg c33] at H; have c33b0 : decide (8 < ((rd_L4 l0_1 x6_3).length : Int)) = false := decide_eq_false c33; have c33b1 : decide (8 < (rd_L4 l0_1 x6_3).length) = false := decide_eq_false (by omega); clear c33; have H' := Aside0.mk H; clear H; obtain ⟨z35_0, z35_1, z35_2, z35_3, z35_4, y35_0, y35_1, y35_2, y35_3, y35_4⟩ := blkA5 BK224.out; have p233 : 0 ≤ (x6_3 : Int) := dt_; have q233 : x6_3 < (l0_1.length : Int) := dt_; obtain ⟨ad233, A233_0, c233_0, e233, hx233_0, hl233_0, hi233_0⟩ := at_L4 HR0_1.out x6_3 p233 q233; cases e233; replace hx233_0 := hx_ HB hx233_0; have HR233_0 := Aside0.mk hi233_0; have HC233_0 := Aside0.mk hl233_0; clear hi233_0 hl233_0; replace p233 := eq_true p233; replace q233 := eq_true q233; go_wp2
             repeat (go_quiet (fail); try go_wp2)
             go_roundg k3
             case measure => have := HJ1.out; have := HK2.out; have := HK3.out; omega
             case rel => exact ⟨(wrap64 (x6_3 + 1)), ff_, H', ⟨by have := HJ1.out; have := HK2.out; have := HK3.out; omega⟩, ⟨bk_ BK224⟩, ⟨bel_⟩⟩
           ·
            rw [if_neg c32] at H; exact absurd H (by simp)
          ·
           rw [if_neg c31] at H; exact absurd H (by simp)
         ·
          rw [if_neg c30] at H; have c30b0 : decide (x6_3 < (l0_0.length : Int)) = false := decide_eq_false c30; clear c30; obtain rfl := Option.some.inj H; go_wp2
          repeat (go_quiet (fail); try go_wp2)
          go_ret
          exact ⟨ee_, bel_⟩

end Go.Proofs.Ytemhpbdlonfikaa.P
