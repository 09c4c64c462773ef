-- Printed by xprint.py, a program of this session over the kit's printer.
import Derived.Test.YtemhpbdlonfikaaP3
import Derived.Test.YtemhpbdlonfikaaHreg
import Derived.Test.YtemhpbdlonfikaaP9
import Derived.Test.YtemhpbdlonfikaaP11
import Derived.Test.YtemhpbdlonfikaaP12
import Derived.Test.YtemhpbdlonfikaaP13
namespace Go.Proofs.Ytemhpbdlonfikaa.P
open Go.RowKit Go.Proofs.YtemhpbdlonfikaaW.PrintWords Go.Proofs.YtemhpbdlonfikaaW.PrintLast Go.Proofs.YtemhpbdlonfikaaW.PrintMore
attribute [local go_sem] max2_int min2_int max_two min_two max_three min_three max_four min_four   -- for this text's walks alone

/-! ### weirref09_Valid: function 26 -/
mutual
def weirref09_Valid.j0 : Nat → Bool → List (List (S87)) → List (List ByteArray) → List ByteArray → List (List Int) → List Int → Option (Int)
 | 0, _, _, _, _, _, _ => none
 | k + 1, x16, x253000, x253001, x253002, x253003, x253004 => if x16 = true then (some 95) else ((weirref09_registers.f k x253000 x253001 x253002 x253003 x253004).bind fun t253 => (if t253 = 0 then (if (x253004.length : Int) = (x253002.length : Int) then ((weirref09_rises.f k x253002).bind fun t254 => (weirref09_Valid.j1 k (!t254) x253000 x253001 x253002 x253003 x253004)) else (weirref09_Valid.j1 k true x253000 x253001 x253002 x253003 x253004)) else (some t253)))
def weirref09_Valid.j1 : Nat → Bool → List (List (S87)) → List (List ByteArray) → List ByteArray → List (List Int) → List Int → Option (Int)
 | 0, _, _, _, _, _, _ => none
 | k + 1, x34, x253000, x253001, x253002, x253003, x253004 => if x34 = true then (some 52) else (weirref09_Valid.l0 k 0 x253000 x253001 x253002 x253003 x253004)
def weirref09_Valid.l0 : Nat → Int → List (List (S87)) → List (List ByteArray) → List ByteArray → List (List Int) → List Int → Option (Int)
 | 0, _, _, _, _, _, _ => none
 | k + 1, x4, x253000, x253001, x253002, x253003, x253004 => if x4 < (x253002.length : Int) then (if 0 ≤ x4 then ((weirref05_Name.f k (rdOf ByteArray.empty x253002 x4)).bind fun t256 => (if t256 = true then (weirref09_Valid.l0 k (wrap64 (x4 + 1)) x253000 x253001 x253002 x253003 x253004) else (some 52))) else (none)) else (if (x253002.length : Int) > 16 then (some 97) else (weirref09_Valid.l1 k 0 x253000 x253001 x253002 x253003 x253004))
def weirref09_Valid.l1 : Nat → Int → List (List (S87)) → List (List ByteArray) → List ByteArray → List (List Int) → List Int → Option (Int)
 | 0, _, _, _, _, _, _ => none
 | k + 1, x5, x253000, x253001, x253002, x253003, x253004 => if x5 < (x253000.length : Int) then (weirref09_Valid.l2 k x5 0 x253000 x253001 x253002 x253003 x253004) else ((weirref09_Events.f k x253000 x253001 x253002 x253003 x253004).bind fun t257 => (if t257 > 64 then (some 96) else (some 0)))
def weirref09_Valid.l2 : Nat → Int → Int → List (List (S87)) → List (List ByteArray) → List ByteArray → List (List Int) → List Int → Option (Int)
 | 0, _, _, _, _, _, _, _ => none
 | k + 1, x5, x6, x253000, x253001, x253002, x253003, x253004 => if 0 ≤ x5 then (if x5 < (x253000.length : Int) then (if x6 < ((rd_L3 x253000 x5).length : Int) then (if 0 ≤ x6 then (if x5 < (x253001.length : Int) then ((weirref09_right.f k ((rd_T87 (rd_L3 x253000 x5) x6).f0) ((rd_T87 (rd_L3 x253000 x5) x6).f1) ((rd_T87 (rd_L3 x253000 x5) x6).f2) ((rd_T87 (rd_L3 x253000 x5) x6).f3) ((rd_T87 (rd_L3 x253000 x5) x6).f4) (rd_L4 x253001 x5) (x253002.length : Int)).bind fun t262 => (if t262 = true then (weirref09_Valid.l2 k x5 (wrap64 (x6 + 1)) x253000 x253001 x253002 x253003 x253004) else (some 93))) else (none)) else (none)) else (weirref09_Valid.l1 k (wrap64 (x5 + 1)) x253000 x253001 x253002 x253003 x253004)) else (none)) else (none)
end
def weirref09_Valid.f (k : Nat) (l0_0 : List (List (S87))) (l0_1 : List (List ByteArray)) (l0_2 : List ByteArray) (l0_3 : List (List Int)) (l0_4 : List Int) : Option (Int) := if (l0_0.length : Int) = 0 then (weirref09_Valid.j0 k true l0_0 l0_1 l0_2 l0_3 l0_4) else (weirref09_Valid.j0 k (decide ((l0_0.length : Int) > 4)) l0_0 l0_1 l0_2 l0_3 l0_4)
theorem weirref09_Valid.mono_l : ∀ k, (∀ y0 y1 y2 y3 y4 y5, LeO (weirref09_Valid.j0 k y0 y1 y2 y3 y4 y5) (weirref09_Valid.j0 (k + 1) y0 y1 y2 y3 y4 y5)) ∧ (∀ y0 y1 y2 y3 y4 y5, LeO (weirref09_Valid.j1 k y0 y1 y2 y3 y4 y5) (weirref09_Valid.j1 (k + 1) y0 y1 y2 y3 y4 y5)) ∧ (∀ y0 y1 y2 y3 y4 y5, LeO (weirref09_Valid.l0 k y0 y1 y2 y3 y4 y5) (weirref09_Valid.l0 (k + 1) y0 y1 y2 y3 y4 y5)) ∧ (∀ y0 y1 y2 y3 y4 y5, LeO (weirref09_Valid.l1 k y0 y1 y2 y3 y4 y5) (weirref09_Valid.l1 (k + 1) y0 y1 y2 y3 y4 y5)) ∧ (∀ y0 y1 y2 y3 y4 y5 y6, LeO (weirref09_Valid.l2 k y0 y1 y2 y3 y4 y5 y6) (weirref09_Valid.l2 (k + 1) y0 y1 y2 y3 y4 y5 y6))
 | 0 => ⟨fun _ _ _ _ _ _ r h => by simp [weirref09_Valid.j0] at h, fun _ _ _ _ _ _ r h => by simp [weirref09_Valid.j1] at h, fun _ _ _ _ _ _ r h => by simp [weirref09_Valid.l0] at h, fun _ _ _ _ _ _ r h => by simp [weirref09_Valid.l1] at h, fun _ _ _ _ _ _ _ r h => by simp [weirref09_Valid.l2] at h⟩
 | k + 1 => by
  obtain ⟨ih0, ih1, ih2, ih3, ih4⟩ := weirref09_Valid.mono_l k; refine ⟨?_, ?_, ?_, ?_, ?_⟩; intro y0 y1 y2 y3 y4 y5; unfold weirref09_Valid.j0; rotate_left; intro y0 y1 y2 y3 y4 y5; unfold weirref09_Valid.j1; rotate_left; intro y0 y1 y2 y3 y4 y5; unfold weirref09_Valid.l0; rotate_left; intro y0 y1 y2 y3 y4 y5; unfold weirref09_Valid.l1; rotate_left; intro y0 y1 y2 y3 y4 y5 y6; unfold weirref09_Valid.l2; rotate_left
  all_goals (repeat' first
   | (with_reducible exact ih0 _ _ _ _ _ _)
   | (with_reducible exact ih1 _ _ _ _ _ _)
   | (with_reducible exact ih2 _ _ _ _ _ _)
   | (with_reducible exact ih3 _ _ _ _ _ _)
   | (with_reducible exact ih4 _ _ _ _ _ _ _)
   | (with_reducible exact weirref05_Name.mono _ _)
   | (with_reducible exact weirref09_Events.mono _ _ _ _ _ _)
   | (with_reducible exact weirref09_registers.mono _ _ _ _ _ _)
   | (with_reducible exact weirref09_right.mono _ _ _ _ _ _ _ _)
   | (with_reducible exact weirref09_rises.mono _ _)
   | (with_reducible exact LeO.refl _)
   | (with_reducible exact LeO.none _)
   | (with_reducible refine LeO.ite ?_ ?_)
   | (with_reducible refine LeO.bind ?_ (fun _ => ?_))
   | exact ih0 _ _ _ _ _ _
   | exact ih1 _ _ _ _ _ _
   | exact ih2 _ _ _ _ _ _
   | exact ih3 _ _ _ _ _ _
   | exact ih4 _ _ _ _ _ _ _
   | exact weirref05_Name.mono _ _
   | exact weirref09_Events.mono _ _ _ _ _ _
   | exact weirref09_registers.mono _ _ _ _ _ _
   | exact weirref09_right.mono _ _ _ _ _ _ _ _
   | exact weirref09_rises.mono _ _
   | exact LeO.none _
   | refine LeO.ite ?_ ?_
   | refine LeO.bind ?_ (fun _ => ?_))
theorem weirref09_Valid.mono : ∀ a0 a1 a2 a3 a4 k, LeO (weirref09_Valid.f k a0 a1 a2 a3 a4) (weirref09_Valid.f (k + 1) a0 a1 a2 a3 a4) := by
 intro a0 a1 a2 a3 a4 k; obtain ⟨ih0, ih1, ih2, ih3, ih4⟩ := weirref09_Valid.mono_l k; unfold weirref09_Valid.f
 repeat' first
   | (with_reducible exact ih0 _ _ _ _ _ _)
   | (with_reducible exact ih1 _ _ _ _ _ _)
   | (with_reducible exact ih2 _ _ _ _ _ _)
   | (with_reducible exact ih3 _ _ _ _ _ _)
   | (with_reducible exact ih4 _ _ _ _ _ _ _)
   | (with_reducible exact weirref05_Name.mono _ _)
   | (with_reducible exact weirref09_Events.mono _ _ _ _ _ _)
   | (with_reducible exact weirref09_registers.mono _ _ _ _ _ _)
   | (with_reducible exact weirref09_right.mono _ _ _ _ _ _ _ _)
   | (with_reducible exact weirref09_rises.mono _ _)
   | (with_reducible exact LeO.refl _)
   | (with_reducible exact LeO.none _)
   | (with_reducible refine LeO.ite ?_ ?_)
   | (with_reducible refine LeO.bind ?_ (fun _ => ?_))
   | exact ih0 _ _ _ _ _ _
   | exact ih1 _ _ _ _ _ _
   | exact ih2 _ _ _ _ _ _
   | exact ih3 _ _ _ _ _ _
   | exact ih4 _ _ _ _ _ _ _
   | exact weirref05_Name.mono _ _
   | exact weirref09_Events.mono _ _ _ _ _ _
   | exact weirref09_registers.mono _ _ _ _ _ _
   | exact weirref09_right.mono _ _ _ _ _ _ _ _
   | exact weirref09_rises.mono _ _
   | exact LeO.none _
   | refine LeO.ite ?_ ?_
   | refine LeO.bind ?_ (fun _ => ?_)
def weirref09_Valid.T21 : Bool × List (List Nat × List Nat) := (true, [([], []), ([0], [0]), ([], []), ([1, 2], [1, 2]), ([3], [3]), ([], []), ([4, 5], [4, 5]), ([6], [6]), ([], []), ([8], [8]), ([], []), ([9, 10], [9, 10]), ([11], [11]), ([], []), ([13], [13]), ([14], [14]), ([7, 12, 15], [7, 12, 15]), ([16], [16])])
def weirref09_Valid.B21 : List Nat := [0, 1, 0, 7, 15, 0, 63, 127, 0, 256, 0, 1792, 3840, 0, 8192, 24576, 65535, 131071]
theorem weirref09_Valid.tab21 : rtab .any (opsOf Try.f26 21) = weirref09_Valid.T21 := by kernel_rfl
theorem weirref09_Valid.bits21 : waitsOk weirref09_Valid.T21.2 weirref09_Valid.B21 = true := by kernel_rfl
set_option maxHeartbeats 8000000 in
set_option maxRecDepth 100000 in
theorem weirref09_Valid.calls (k : Nat) (A0_0 : Option Addr) (c0_0 : Nat) (l0_0 : List (List (S87))) (A0_1 : Option Addr) (c0_1 : Nat) (l0_1 : List (List ByteArray)) (A0_2 : Option Addr) (c0_2 : Nat) (l0_2 : List ByteArray) (A0_3 : Option Addr) (c0_3 : Nat) (l0_3 : List (List Int)) (A0_4 : Option Addr) (c0_4 : Nat) (l0_4 : List Int) (r : Int) (w : World) (hr0_0 : Kd.C (Kd.slice 87 k87) w A0_0 l0_0.length l0_0) (hc0_0 : l0_0.length ≤ c0_0) (hr0_1 : Kd.C (Kd.slice 9 Kd.string) w A0_1 l0_1.length l0_1) (hc0_1 : l0_1.length ≤ c0_1) (hr0_2 : Kd.C Kd.string w A0_2 l0_2.length l0_2) (hc0_2 : l0_2.length ≤ c0_2) (hr0_3 : Kd.C (Kd.slice 2 (Kd.int .i64)) w A0_3 l0_3.length l0_3) (hc0_3 : l0_3.length ≤ c0_3) (hr0_4 : Kd.C (Kd.int .i64) w A0_4 l0_4.length l0_4) (hc0_4 : l0_4.length ≤ c0_4) (h : weirref09_Valid.f k l0_0 l0_1 l0_2 l0_3 l0_4 = some r) :
  Calls Try.prog 26 #[.agg #[.slice A0_0 l0_0.length c0_0, .slice A0_1 l0_1.length c0_1, .slice A0_2 l0_2.length c0_2, .slice A0_3 l0_3.length c0_3, .slice A0_4 l0_4.length c0_4]] w fun e w' => e = .returned (.int .i64 r) ∧ Below w.heap.size w w' := by
 have hu28 := Try.underlying28; have hu87 := Try.underlying87; have HR0_0 := Aside0.mk hr0_0; have HC0_0 := Aside0.mk hc0_0; clear hr0_0 hc0_0; have HR0_1 := Aside0.mk hr0_1; have HC0_1 := Aside0.mk hc0_1; clear hr0_1 hc0_1; have HR0_2 := Aside0.mk hr0_2; have HC0_2 := Aside0.mk hc0_2; clear hr0_2 hc0_2; have HR0_3 := Aside0.mk hr0_3; have HC0_3 := Aside0.mk hc0_3; clear hr0_3 hc0_3; have HR0_4 := Aside0.mk hr0_4; have HC0_4 := Aside0.mk hc0_4; clear hr0_4 hc0_4; have HB := Aside0.mk (Below.refl w.heap.size w); have H : (if (l0_0.length : Int) = 0 then (weirref09_Valid.j0 k true l0_0 l0_1 l0_2 l0_3 l0_4) else (weirref09_Valid.j0 k (decide ((l0_0.length : Int) > 4)) l0_0 l0_1 l0_2 l0_3 l0_4)) = some r := h; clear h; have HC2 := Aside0.mk H; clear H; go_enter Try.func26, Try.ntmps26
 go_upto_region 1 with (first | ((with_reducible refine gate_dst (N := 1) rfl ?_); (try (refine gate_guard (by rfl) ?_; dsimp only)); refine bx_ (N := 1) (cs := #[.slice A0_0 l0_0.length c0_0, .slice A0_1 l0_1.length c0_1, .slice A0_2 l0_2.length c0_2, .slice A0_3 l0_3.length c0_3, .slice A0_4 l0_4.length c0_4]) (t := 28) ?_; intro gb252 hg w3 hbox hb; have n0_ := bs_ w hb; have n1_ := Aside0.mk (hbox); have n2_ := gl_ w hg; have n3_ := n2_; clear HB; have HB := n0_; have BK252 := n1_; have GW252 := n2_; have GE252 := n3_; clear n0_ n1_ n2_ n3_; clear hb hbox hg))
 (try simp only [Act.put, List.setIfInBounds_toArray, List.set_cons_zero, List.set_cons_succ])
 go_cut [16] (fun v16 wc => ∃ (kq : Nat) (x16_1 : Bool), v16 = .bool x16_1 ∧ Aside0 (weirref09_Valid.j0 kq x16_1 l0_0 l0_1 l0_2 l0_3 l0_4 = some r) ∧ Aside0 (kq ≤ k) ∧ Aside0 (wc.heap[gb252]? = some (.cells #[(.slice A0_0 l0_0.length c0_0), (.slice A0_1 l0_1.length c0_1), (.slice A0_2 l0_2.length c0_2), (.slice A0_3 l0_3.length c0_3), (.slice A0_4 l0_4.length c0_4)] 28 (0, 0))) ∧ Aside0 (Below w.heap.size w wc))
 case first =>
  have H := HC2.out; clear HC2
  by_cases c4 : (l0_0.length : Int) = 0
  ·
   rw [if_pos c4] at H; have c4b0 : ((l0_0.length : Int) == 0) = true := beq_iff_eq.mpr c4; have c4b1 : ((l0_0.length : Int) != 0) = false := bne_eq_false_iff_eq.mpr c4; clear c4
   (first | rw [c4b0] | (simp only [i64_w, i32_w]; rw [c4b0]) | skip)
   have H' := Aside0.mk H; clear H; obtain ⟨z5_0, z5_1, z5_2, z5_3, z5_4, y5_0, y5_1, y5_2, y5_3, y5_4⟩ := blkA5 BK252.out; go_wp2; go_meet
   case rel => exact ⟨_, (true), ff_, H', ⟨by first | omega | exact Nat.le_refl _⟩, ⟨bk_ BK252⟩, ⟨bel_⟩⟩
  ·
   rw [if_neg c4] at H; have c4b0 : ((l0_0.length : Int) == 0) = false := beq_eq_false_iff_ne.mpr c4; have c4b1 : ((l0_0.length : Int) != 0) = true := bne_iff_ne.mpr c4; have c4b2 : ¬ (l0_0 = []) := fun h_ => c4 (by rw [h_]; rfl)
   (first | rw [c4b0] | (simp only [i64_w, i32_w]; rw [c4b0]) | skip)
   have H' := Aside0.mk H; clear H; obtain ⟨z6_0, z6_1, z6_2, z6_3, z6_4, y6_0, y6_1, y6_2, y6_3, y6_4⟩ := blkA5 BK252.out; go_wp2; go_meet
   case rel => exact ⟨_, (decide ((l0_0.length : Int) > 4)), ff_, H', ⟨by first | omega | exact Nat.le_refl _⟩, ⟨bk_ BK252⟩, ⟨bel_⟩⟩
 case rest =>
  clear HC2; obtain ⟨kq, x16_1, rfl, HA, HJ1, BK252, HB⟩ := hcut
  cases kq with
  | zero => exact absurd HA.out (by simp [weirref09_Valid.j0])
  | succ kj1 =>
   have H := HA.out; clear HA; simp only [weirref09_Valid.j0] at H
   by_cases c7 : x16_1 = true
   ·
    subst c7; have H1 : (some 95) = some r := by rw [if_pos rfl] at H; exact H
    clear H; have H := H1; clear H1; obtain rfl := Option.some.inj H; go_wp2
    go_ret
    exact ⟨ee_, bel_⟩
   ·
    replace c7 := Bool.eq_false_iff.mpr c7; subst c7; have H1 : ((weirref09_registers.f kj1 l0_0 l0_1 l0_2 l0_3 l0_4).bind fun t253 => (if t253 = 0 then (if (l0_4.length : Int) = (l0_2.length : Int) then ((weirref09_rises.f kj1 l0_2).bind fun t254 => (weirref09_Valid.j1 kj1 (!t254) l0_0 l0_1 l0_2 l0_3 l0_4)) else (weirref09_Valid.j1 kj1 true l0_0 l0_1 l0_2 l0_3 l0_4)) else (some t253))) = some r := by rw [if_neg (show ¬ (false = true) by decide)] at H; exact H
    clear H; have H := H1; clear H1; replace H := Option.bind_eq_some_iff.mp H; obtain ⟨t253, A80, H⟩ := H; replace H : (if t253 = 0 then (if (l0_4.length : Int) = (l0_2.length : Int) then ((weirref09_rises.f kj1 l0_2).bind fun t254 => (weirref09_Valid.j1 kj1 (!t254) l0_0 l0_1 l0_2 l0_3 l0_4)) else (weirref09_Valid.j1 kj1 true l0_0 l0_1 l0_2 l0_3 l0_4)) else (some t253)) = some r := H; have A8 := Aside0.mk A80; clear A80
    by_cases c9 : t253 = 0
    ·
     rw [if_pos c9] at H; have c9b0 : (t253 == 0) = true := beq_iff_eq.mpr c9; have c9b1 : (t253 != 0) = false := bne_eq_false_iff_eq.mpr c9; clear c9; have HC10 := Aside0.mk H; clear H; obtain ⟨z11_0, z11_1, z11_2, z11_3, z11_4, y11_0, y11_1, y11_2, y11_3, y11_4⟩ := blkA5 BK252.out
     go_upto_region 6 with (first | ((with_reducible refine gate_callee (f := 59) rfl ?_); refine goesL_ (some 18) rfl rfl Try.func59 (by kernel_rfl) rfl #[.agg #[.slice A0_0 l0_0.length c0_0, .slice A0_1 l0_1.length c0_1, .slice A0_2 l0_2.length c0_2, .slice A0_3 l0_3.length c0_3, .slice A0_4 l0_4.length c0_4]] rfl ag_ ?_; (with_reducible refine (weirref09_registers.calls kj1 _ _ l0_0 _ _ l0_1 _ _ l0_2 _ _ l0_3 _ _ l0_4 t253 _ ?side1 ?side2 ?side3 ?side4 ?side5 ?side6 ?side7 ?side8 ?side9 ?side10 A8.out).mono ?_); (case side1 | side3 | side5 | side7 | side9 => repeat (first | exact (Kd.C_below HR0_0.out HB.out) | exact (Kd.C_below HR0_1.out HB.out) | exact (Kd.C_below HR0_2.out HB.out) | exact (Kd.C_below HR0_3.out HB.out) | exact (Kd.C_below HR0_4.out HB.out) | (with_reducible refine Kd.C_alloc ?_ _) | (with_reducible refine Kd.C_drewN ?_ _) | (with_reducible refine Kd.C_drew ?_))); (case side2 | side4 | side6 | side8 | side10 => first | exact HC0_0.out | exact HC0_1.out | exact HC0_2.out | exact HC0_3.out | exact HC0_4.out); rintro e w12 ⟨rfl, hb⟩; refine ⟨_, rfl, ?_⟩; replace BK252 := bb_ BK252 hb; replace HB := bs_ w hb; (try clear hb); (try clear hb2); (try clear hk); (try clear hi)))
     (try simp only [Act.put, List.setIfInBounds_toArray, List.set_cons_zero, List.set_cons_succ])
     go_cut [34] (fun v34 wc => ∃ (kq : Nat) (x34_9 : Bool), v34 = .bool x34_9 ∧ Aside0 (weirref09_Valid.j1 kq x34_9 l0_0 l0_1 l0_2 l0_3 l0_4 = some r) ∧ Aside0 (kq ≤ kj1) ∧ Aside0 (wc.heap[gb252]? = some (.cells #[(.slice A0_0 l0_0.length c0_0), (.slice A0_1 l0_1.length c0_1), (.slice A0_2 l0_2.length c0_2), (.slice A0_3 l0_3.length c0_3), (.slice A0_4 l0_4.length c0_4)] 28 (0, 0))) ∧ Aside0 (Below w.heap.size w wc))
     case first =>
      have H := HC10.out; clear HC10
      by_cases c13 : (l0_4.length : Int) = (l0_2.length : Int)
      ·
       rw [if_pos c13] at H; have c13b0 : ((l0_4.length : Int) == (l0_2.length : Int)) = true := beq_iff_eq.mpr c13; have c13b1 : ((l0_4.length : Int) != (l0_2.length : Int)) = false := bne_eq_false_iff_eq.mpr c13; have c13b2 : (l0_4.length == l0_2.length) = true := by first | simpa using c13 | (simp at c13 ⊢; omega)
       clear c13
       (first | rw [c13b0] | (simp only [i64_w, i32_w]; rw [c13b0]) | skip)
       replace H := Option.bind_eq_some_iff.mp H; obtain ⟨t254, A140, H⟩ := H; replace H : (weirref09_Valid.j1 kj1 (!t254) l0_0 l0_1 l0_2 l0_3 l0_4) = some r := H; have A14 := Aside0.mk A140; clear A140; have H' := Aside0.mk H; clear H; obtain ⟨z15_0, z15_1, z15_2, z15_3, z15_4, y15_0, y15_1, y15_2, y15_3, y15_4⟩ := blkA5 BK252.out
       go_wp2_with (first | (go_at_call 60; (with_reducible refine (weirref09_rises.calls kj1 _ _ l0_2 t254 _ ?side1 ?side2 A14.out).mono ?_); (case side1 => exact cb_ HR0_2); (case side2 => exact HC0_2.out); rintro e w' ⟨rfl, ⟨nd, rfl⟩⟩))
       go_meet
       case rel => exact ⟨_, (!t254), ff_, H', ⟨by have := HJ1.out; first | omega | exact Nat.le_refl _⟩, ⟨bk_ BK252⟩, ⟨bel_⟩⟩
      ·
       rw [if_neg c13] at H; have c13b0 : ((l0_4.length : Int) == (l0_2.length : Int)) = false := beq_eq_false_iff_ne.mpr c13; have c13b1 : ((l0_4.length : Int) != (l0_2.length : Int)) = true := bne_iff_ne.mpr c13; have c13b2 : (l0_4.length == l0_2.length) = false := by first | simpa using c13 | (simp at c13 ⊢; omega)
       (first | rw [c13b0] | (simp only [i64_w, i32_w]; rw [c13b0]) | skip)
       have H' := Aside0.mk H; clear H; obtain ⟨z16_0, z16_1, z16_2, z16_3, z16_4, y16_0, y16_1, y16_2, y16_3, y16_4⟩ := blkA5 BK252.out; go_wp2; go_meet
       case rel => exact ⟨_, (true), ff_, H', ⟨by have := HJ1.out; first | omega | exact Nat.le_refl _⟩, ⟨bk_ BK252⟩, ⟨bel_⟩⟩
     case rest =>
      clear HC10; (try clear c7); (try clear c9b0); (try clear c9b1); (try clear z11_0 z11_1 z11_2 z11_3 z11_4 y11_0 y11_1 y11_2 y11_3 y11_4); obtain ⟨kq, x34_9, rfl, HA, HJ9, BK252, HB⟩ := hcut
      cases kq with
      | zero => exact absurd HA.out (by simp [weirref09_Valid.j1])
      | succ kj9 =>
       have H := HA.out; clear HA; simp only [weirref09_Valid.j1] at H
       by_cases c17 : x34_9 = true
       ·
        subst c17; have H1 : (some 52) = some r := by rw [if_pos rfl] at H; exact H
        clear H; have H := H1; clear H1; obtain rfl := Option.some.inj H; go_wp2
        go_ret
        exact ⟨ee_, bel_⟩
       ·
        replace c17 := Bool.eq_false_iff.mpr c17; subst c17; have H1 : (weirref09_Valid.l0 kj9 0 l0_0 l0_1 l0_2 l0_3 l0_4) = some r := by rw [if_neg (show ¬ (false = true) by decide)] at H; exact H
        clear H; have H := H1; clear H1; have H' := Aside0.mk H; clear H; go_wp2
        go_loopg [4] kj9 (fun kq v4 w' => ∃ (x4_3 : Int), v4 = .int .i64 x4_3 ∧ Aside0 (weirref09_Valid.l0 kq x4_3 l0_0 l0_1 l0_2 l0_3 l0_4 = some r) ∧ Aside0 (kq ≤ kj9) ∧ Aside0 (w'.heap[gb252]? = some (.cells #[(.slice A0_0 l0_0.length c0_0), (.slice A0_1 l0_1.length c0_1), (.slice A0_2 l0_2.length c0_2), (.slice A0_3 l0_3.length c0_3), (.slice A0_4 l0_4.length c0_4)] 28 (0, 0))) ∧ Aside0 (Below w.heap.size w w'))
        case atStart => exact ⟨(0), ff_, H', ⟨Nat.le_refl _⟩, ⟨bk_ BK252⟩, ⟨bel_⟩⟩
        case round =>
         clear H'; (try clear c17); obtain ⟨x4_3, rfl, HA, HK3, BK252, HB⟩ := hrel
         cases gk with
         | zero => exact absurd HA.out (by simp [weirref09_Valid.l0])
         | succ k3 =>
          have H := HA.out; clear HA; simp only [weirref09_Valid.l0] at H
          by_cases c18 : x4_3 < (l0_2.length : Int)
          ·
           rw [if_pos c18] at H; have c18b0 : decide (x4_3 < (l0_2.length : Int)) = true := decide_eq_true c18; clear c18
           by_cases c19 : 0 ≤ x4_3
           ·
            rw [if_pos c19] at H; have c19b0 : decide (0 ≤ x4_3) = true := decide_eq_true c19; clear c19; replace H := Option.bind_eq_some_iff.mp H; obtain ⟨t256, A200, H⟩ := H; replace H : (if t256 = true then (weirref09_Valid.l0 k3 (wrap64 (x4_3 + 1)) l0_0 l0_1 l0_2 l0_3 l0_4) else (some 52)) = some r := H; have A20 := Aside0.mk A200; clear A200
            by_cases c21 : t256 = true
            ·
             subst c21; have H1 : (weirref09_Valid.l0 k3 (wrap64 (x4_3 + 1)) l0_0 l0_1 l0_2 l0_3 l0_4) = some r := by rw [if_pos rfl] at H; exact H
             clear H; have H := H1; clear H1; have H' := Aside0.mk H; clear H; obtain ⟨z22_0, z22_1, z22_2, z22_3, z22_4, y22_0, y22_1, y22_2, y22_3, y22_4⟩ := blkA5 BK252.out; have p255 : 0 ≤ (x4_3 : Int) := dt_; have q255 : x4_3 < (l0_2.length : Int) := dt_; obtain ⟨ad255, e255, hx255_0⟩ := Kd.at_string HR0_2.out x4_3 p255 q255; cases e255; replace hx255_0 := hx_ HB hx255_0; replace p255 := eq_true p255; replace q255 := eq_true q255
             go_wp2_with (first | ((with_reducible refine gate_callee (f := 61) rfl ?_); refine goesL_ (some 47) rfl rfl Try.func61 (by kernel_rfl) rfl #[.string (rdOf ByteArray.empty l0_2 x4_3)] rfl ag_ ?_; (with_reducible refine (weirref05_Name.calls k3 (rdOf ByteArray.empty l0_2 x4_3) true _ A20.out).mono ?_); rintro e w' ⟨rfl, ⟨nd, rfl⟩⟩; refine ⟨_, rfl, ?_⟩))
             go_roundg k3
             case measure => have := HJ1.out; have := HJ9.out; have := HK3.out; omega
             case rel => exact ⟨(wrap64 (x4_3 + 1)), ff_, H', ⟨by have := HJ1.out; have := HJ9.out; have := HK3.out; omega⟩, ⟨bk_ BK252⟩, ⟨bel_⟩⟩
            ·
             replace c21 := Bool.eq_false_iff.mpr c21; subst c21; have H1 : (some 52) = some r := by rw [if_neg (show ¬ (false = true) by decide)] at H; exact H
             clear H; have H := H1; clear H1; obtain rfl := Option.some.inj H; obtain ⟨z23_0, z23_1, z23_2, z23_3, z23_4, y23_0, y23_1, y23_2, y23_3, y23_4⟩ := blkA5 BK252.out; have p255 : 0 ≤ (x4_3 : Int) := dt_; have q255 : x4_3 < (l0_2.length : Int) := dt_; obtain ⟨ad255, e255, hx255_0⟩ := Kd.at_string HR0_2.out x4_3 p255 q255; cases e255; replace hx255_0 := hx_ HB hx255_0; replace p255 := eq_true p255; replace q255 := eq_true q255
             go_wp2_with (first | ((with_reducible refine gate_callee (f := 61) rfl ?_); refine goesL_ (some 47) rfl rfl Try.func61 (by kernel_rfl) rfl #[.string (rdOf ByteArray.empty l0_2 x4_3)] rfl ag_ ?_; (with_reducible refine (weirref05_Name.calls k3 (rdOf ByteArray.empty l0_2 x4_3) false _ A20.out).mono ?_); rintro e w' ⟨rfl, ⟨nd, rfl⟩⟩; refine ⟨_, rfl, ?_⟩))
             go_ret
             exact ⟨ee_, bel_⟩
           ·
            rw [if_neg c19] at H; exact absurd H (by simp)
          ·
           rw [if_neg c18] at H; have c18b0 : decide (x4_3 < (l0_2.length : Int)) = false := decide_eq_false c18; clear c18
           by_cases c24 : (l0_2.length : Int) > 16
           ·
            rw [if_pos c24] at H; have c24b0 : decide (16 < (l0_2.length : Int)) = true := decide_eq_true c24; have c24b1 : decide (16 < l0_2.length) = true := decide_eq_true (by omega); clear c24; obtain rfl := Option.some.inj H; obtain ⟨z25_0, z25_1, z25_2, z25_3, z25_4, y25_0, y25_1, y25_2, y25_3, y25_4⟩ := blkA5 BK252.out; go_wp2
            go_ret
            exact ⟨ee_, bel_⟩
           ·
            rw [if_neg c24] at H; have c24b0 : decide (16 < (l0_2.length : Int)) = false := decide_eq_false c24; have c24b1 : decide (16 < l0_2.length) = false := decide_eq_false (by omega); clear c24; have H' := Aside0.mk H; clear H; obtain ⟨z26_0, z26_1, z26_2, z26_3, z26_4, y26_0, y26_1, y26_2, y26_3, y26_4⟩ := blkA5 BK252.out; go_wp2
            go_loopg [5] k3 (fun kq v5 w' => ∃ (x5_4 : Int), v5 = .int .i64 x5_4 ∧ Aside0 (weirref09_Valid.l1 kq x5_4 l0_0 l0_1 l0_2 l0_3 l0_4 = some r) ∧ Aside0 (kq ≤ k3) ∧ Aside0 (w'.heap[gb252]? = some (.cells #[(.slice A0_0 l0_0.length c0_0), (.slice A0_1 l0_1.length c0_1), (.slice A0_2 l0_2.length c0_2), (.slice A0_3 l0_3.length c0_3), (.slice A0_4 l0_4.length c0_4)] 28 (0, 0))) ∧ Aside0 (Below w.heap.size w w'))
            case atStart => exact ⟨(0), ff_, H', ⟨Nat.le_refl _⟩, ⟨bk_ BK252⟩, ⟨bel_⟩⟩
            case round =>
             clear H'; (try clear c18b0); (try clear c24b0); (try clear c24b1); (try clear z26_0 z26_1 z26_2 z26_3 z26_4 y26_0 y26_1 y26_2 y26_3 y26_4); obtain ⟨x5_4, rfl, HA, HK4, BK252, HB⟩ := hrel
             cases gk with
             | zero => exact absurd HA.out (by simp [weirref09_Valid.l1])
             | succ k4 =>
              have H := HA.out; clear HA; simp only [weirref09_Valid.l1] at H
              by_cases c27 : x5_4 < (l0_0.length : Int)
              ·
               rw [if_pos c27] at H; have c27b0 : decide (x5_4 < (l0_0.length : Int)) = true := decide_eq_true c27; clear c27; have H' := Aside0.mk H; clear H; obtain ⟨z28_0, z28_1, z28_2, z28_3, z28_4, y28_0, y28_1, y28_2, y28_3, y28_4⟩ := blkA5 BK252.out; go_wp2
               go_loopg [6] k4 (fun kq v6 w' => ∃ (x6_5 : Int), v6 = .int .i64 x6_5 ∧ Aside0 (weirref09_Valid.l2 kq x5_4 x6_5 l0_0 l0_1 l0_2 l0_3 l0_4 = some r) ∧ Aside0 (kq ≤ k4) ∧ Aside0 (w'.heap[gb252]? = some (.cells #[(.slice A0_0 l0_0.length c0_0), (.slice A0_1 l0_1.length c0_1), (.slice A0_2 l0_2.length c0_2), (.slice A0_3 l0_3.length c0_3), (.slice A0_4 l0_4.length c0_4)] 28 (0, 0))) ∧ Aside0 (Below w.heap.size w w'))
               case atStart => exact ⟨(0), ff_, H', ⟨Nat.le_refl _⟩, ⟨bk_ BK252⟩, ⟨bel_⟩⟩
               case round =>
                clear H'; (try clear c27b0); (try clear z28_0 z28_1 z28_2 z28_3 z28_4 y28_0 y28_1 y28_2 y28_3 y28_4); obtain ⟨x6_5, rfl, HA, HK5, BK252, HB⟩ := hrel
                cases gk with
                | zero => exact absurd HA.out (by simp [weirref09_Valid.l2])
                | succ k5 =>
                 have H := HA.out; clear HA; simp only [weirref09_Valid.l2] at H
                 by_cases c29 : 0 ≤ x5_4
                 ·
                  rw [if_pos c29] at H; have c29b0 : decide (0 ≤ x5_4) = true := decide_eq_true c29; clear c29
                  by_cases c30 : x5_4 < (l0_0.length : Int)
                  ·
                   rw [if_pos c30] at H; have c30b0 : decide (x5_4 < (l0_0.length : Int)) = true := decide_eq_true c30; clear c30
                   by_cases c31 : x6_5 < ((rd_L3 l0_0 x5_4).length : Int)
                   ·
                    rw [if_pos c31] at H; have c31b0 : decide (x6_5 < ((rd_L3 l0_0 x5_4).length : Int)) = true := decide_eq_true c31; clear c31
                    by_cases c32 : 0 ≤ x6_5
                    ·
                     rw [if_pos c32] at H; have c32b0 : decide (0 ≤ x6_5) = true := decide_eq_true c32; clear c32
                     by_cases c33 : x5_4 < (l0_1.length : Int)
                     ·
                      rw [if_pos c33] at H; have c33b0 : decide (x5_4 < (l0_1.length : Int)) = true := decide_eq_true c33; clear c33; replace H := Option.bind_eq_some_iff.mp H; obtain ⟨t262, A340, H⟩ := H; replace H : (if t262 = true then (weirref09_Valid.l2 k5 x5_4 (wrap64 (x6_5 + 1)) l0_0 l0_1 l0_2 l0_3 l0_4) else (some 93)) = some r := H; have A34 := Aside0.mk A340; clear A340
                      by_cases c35 : t262 = true
                      ·
                       subst c35; have H1 : (weirref09_Valid.l2 k5 x5_4 (wrap64 (x6_5 + 1)) l0_0 l0_1 l0_2 l0_3 l0_4) = some r := by rw [if_pos rfl] at H; exact H
                       clear H; have H := H1; clear H1; have H' := Aside0.mk H; clear H; obtain ⟨z36_0, z36_1, z36_2, z36_3, z36_4, y36_0, y36_1, y36_2, y36_3, y36_4⟩ := blkA5 BK252.out; have p258 : 0 ≤ (x5_4 : Int) := dt_; have q258 : x5_4 < (l0_0.length : Int) := dt_; obtain ⟨ad258, A258_0, c258_0, e258, hx258_0, hl258_0, hi258_0⟩ := at_L3 HR0_0.out x5_4 p258 q258; cases e258; replace hx258_0 := hx_ HB hx258_0; have HR258_0 := Aside0.mk hi258_0; have HC258_0 := Aside0.mk hl258_0; clear hi258_0 hl258_0; replace p258 := eq_true p258; replace q258 := eq_true q258
                       try go_wp2
                       replace BK252 := Aside0.mk (blk_drew BK252.out); replace HB := Aside0.mk (below_drew1 HB.out); have p259 : 0 ≤ (x5_4 : Int) := dt_; have q259 : x5_4 < (l0_0.length : Int) := dt_; obtain ⟨ad259, A259_0, c259_0, e259, hx259_0, hl259_0, hi259_0⟩ := at_L3 HR0_0.out x5_4 p259 q259; have hw259_0 := hx259_0; obtain rfl : ad258 = ad259 := (by injection e259); replace hx259_0 := hx_ HB hx259_0; have HR259_0 := Aside0.mk hi259_0; have HC259_0 := Aside0.mk hl259_0; clear hi259_0 hl259_0; replace p259 := eq_true p259; replace q259 := eq_true q259; have p260 : 0 ≤ (x6_5 : Int) := dt_; have q260 : x6_5 < ((rd_L3 l0_0 x5_4).length : Int) := dt_; obtain ⟨ad260, e260, hx260_0, hx260_1, hx260_2, hx260_3, hx260_4⟩ := at_T87 HR259_0.out x6_5 p260 q260; have hw260_4 := hx260_4; have hw260_3 := hx260_3; have hw260_2 := hx260_2; have hw260_1 := hx260_1; have hw260_0 := hx260_0; cases e260; replace hx260_0 := hx_ HB hx260_0; replace hx260_1 := hx_ HB hx260_1; replace hx260_2 := hx_ HB hx260_2; replace hx260_3 := hx_ HB hx260_3; replace hx260_4 := hx_ HB hx260_4; replace p260 := eq_true p260; replace q260 := eq_true q260; have p261 : 0 ≤ (x5_4 : Int) := dt_; have q261 : x5_4 < (l0_1.length : Int) := dt_; obtain ⟨ad261, A261_0, c261_0, e261, hx261_0, hl261_0, hi261_0⟩ := at_L4 HR0_1.out x5_4 p261 q261; have hw261_0 := hx261_0; cases e261; replace hx261_0 := hx_ HB hx261_0; have HR261_0 := Aside0.mk hi261_0; have HC261_0 := Aside0.mk hl261_0; clear hi261_0 hl261_0; replace p261 := eq_true p261; replace q261 := eq_true q261; refine start_ (n := 18) (S := fun w' => w'.cell? ⟨gb252, 0, none⟩ = some (.slice (some ad258) l0_0.length c0_0) ∧ w'.cell? ⟨gb252, 1, none⟩ = some (.slice (some ad261) l0_1.length c0_1) ∧ w'.cell? ⟨gb252, 2, none⟩ = some (.slice A0_2 l0_2.length c0_2) ∧ w'.cell? ⟨gb252, 3, none⟩ = some (.slice A0_3 l0_3.length c0_3) ∧ w'.cell? ⟨gb252, 4, none⟩ = some (.slice A0_4 l0_4.length c0_4) ∧ w'.cell? (ad258.add (x5_4).toNat) = some (.slice (some ad260) (rd_L3 l0_0 x5_4).length c259_0) ∧ w'.cell? (ad260.add ((x6_5).toNat * 5)) = some (.int .i64 ((rd_T87 (rd_L3 l0_0 x5_4) x6_5).f0)) ∧ w'.cell? ⟨(ad260.add ((x6_5).toNat * 5)).block, (ad260.add ((x6_5).toNat * 5)).off + 1, none⟩ = some (.int .i64 ((rd_T87 (rd_L3 l0_0 x5_4) x6_5).f1)) ∧ w'.cell? ⟨(ad260.add ((x6_5).toNat * 5)).block, (ad260.add ((x6_5).toNat * 5)).off + 2, none⟩ = some (.int .i64 ((rd_T87 (rd_L3 l0_0 x5_4) x6_5).f2)) ∧ w'.cell? ⟨(ad260.add ((x6_5).toNat * 5)).block, (ad260.add ((x6_5).toNat * 5)).off + 3, none⟩ = some (.int .i64 ((rd_T87 (rd_L3 l0_0 x5_4) x6_5).f3)) ∧ w'.cell? ⟨(ad260.add ((x6_5).toNat * 5)).block, (ad260.add ((x6_5).toNat * 5)).off + 4, none⟩ = some (.int .i64 ((rd_T87 (rd_L3 l0_0 x5_4) x6_5).f4)) ∧ w'.cell? (ad261.add (x5_4).toNat) = some (.slice A261_0 (rd_L4 l0_1 x5_4).length c261_0)) (ds := []) #[false, false, false, false, false, false, false, false, false, false, false, false, false, false, false, false, false, false] (by kernel_rfl) rfl rfl ⟨(blk_cell BK252.out 0).trans rfl, (blk_cell BK252.out 1).trans rfl, (blk_cell BK252.out 2).trans rfl, (blk_cell BK252.out 3).trans rfl, (blk_cell BK252.out 4).trans rfl, ((HB.out.cell (World.block_lt_of_cell? w _ hw259_0)).trans hw259_0), ((HB.out.cell (World.block_lt_of_cell? w _ hw260_0)).trans hw260_0), ((HB.out.cell (World.block_lt_of_cell? w _ hw260_1)).trans hw260_1), ((HB.out.cell (World.block_lt_of_cell? w _ hw260_2)).trans hw260_2), ((HB.out.cell (World.block_lt_of_cell? w _ hw260_3)).trans hw260_3), ((HB.out.cell (World.block_lt_of_cell? w _ hw260_4)).trans hw260_4), ((HB.out.cell (World.block_lt_of_cell? w _ hw261_0)).trans hw261_0)⟩ (fun hHeld => ?_); refine with_tabW weirref09_Valid.tab21 weirref09_Valid.bits21 (fun HT_ HW_ => ?_)
                       generalize wr.drew = w37 at BK252 HB HR259_0 HR261_0 hx259_0 hx260_0 hx260_1 hx260_2 hx260_3 hx260_4 hx261_0 hHeld ⊢
                       refine pure_ (i := 0) (N := some 70) (v := ?_) (a' := ?_) #[true, false, false, false, false, false, false, false, false, false, false, false, false, false, false, false, false, false] rfl rfl (any_of HT_.out (by kernel_rfl)) (fun _ _ _ h => h) (Or.inl ⟨by rfl, ?_⟩) ?_ ?_; rotate_left
                       ·
                        intro w'
                        go_simp
                        with_reducible rfl
                       rotate_left
                       ·
                        simp only [Act.put, put_, i64_w, i32_w]
                        rfl
                       refine pure_ (i := 2) (N := some 72) (v := ?_) (a' := ?_) #[true, false, true, false, false, false, false, false, false, false, false, false, false, false, false, false, false, false] rfl rfl (any_of HT_.out (by kernel_rfl)) (fun _ _ _ h => h) (Or.inl ⟨by rfl, ?_⟩) ?_ ?_; rotate_left
                       ·
                        intro w'
                        go_simp
                        with_reducible rfl
                       rotate_left
                       ·
                        simp only [Act.put, put_, i64_w, i32_w]
                        rfl
                       refine pure_ (i := 5) (N := some 75) (v := ?_) (a' := ?_) #[true, false, true, false, false, true, false, false, false, false, false, false, false, false, false, false, false, false] rfl rfl (any_of HT_.out (by kernel_rfl)) (fun _ _ _ h => h) (Or.inl ⟨by rfl, ?_⟩) ?_ ?_; rotate_left
                       ·
                        intro w'
                        go_simp
                        with_reducible rfl
                       rotate_left
                       ·
                        simp only [Act.put, put_, i64_w, i32_w]
                        rfl
                       refine pure_ (i := 8) (N := some 78) (v := ?_) (a' := ?_) #[true, false, true, false, false, true, false, false, true, false, false, false, false, false, false, false, false, false] rfl rfl (any_of HT_.out (by kernel_rfl)) (fun _ _ _ h => h) (Or.inl ⟨by rfl, ?_⟩) ?_ ?_; rotate_left
                       ·
                        intro w'
                        go_simp
                        with_reducible rfl
                       rotate_left
                       ·
                        simp only [Act.put, put_, i64_w, i32_w]
                        rfl
                       refine pure_ (i := 10) (N := some 80) (v := ?_) (a' := ?_) #[true, false, true, false, false, true, false, false, true, false, true, false, false, false, false, false, false, false] rfl rfl (any_of HT_.out (by kernel_rfl)) (fun _ _ _ h => h) (Or.inl ⟨by rfl, ?_⟩) ?_ ?_; rotate_left
                       ·
                        intro w'
                        go_simp
                        with_reducible rfl
                       rotate_left
                       ·
                        simp only [Act.put, put_, i64_w, i32_w]
                        rfl
                       refine pure_ (i := 13) (N := some 83) (v := ?_) (a' := ?_) #[true, false, true, false, false, true, false, false, true, false, true, false, false, true, false, false, false, false] rfl rfl (any_of HT_.out (by kernel_rfl)) (fun _ _ _ h => h) (Or.inl ⟨by rfl, ?_⟩) ?_ ?_; rotate_left
                       ·
                        intro w'
                        go_simp
                        with_reducible rfl
                       rotate_left
                       ·
                        simp only [Act.put, put_, i64_w, i32_w]
                        rfl
                       refine take_ (i := 1) (N := some 71) (v := ?_) (a' := ?_) #[true, true, true, false, false, true, false, false, true, false, true, false, false, true, false, false, false, false] rfl rfl (take_ofW HT_.out HW_.out (by kernel_rfl)) (fun _ _ _ h => h) (Or.inl ⟨by rfl, ?_⟩) hHeld ?_ ?_; rotate_left
                       ·
                        rintro w' ⟨s0, s1, s2, s3, s4, s5, s6, s7, s8, s9, s10, s11⟩
                        go_simp
                        with_reducible rfl
                       rotate_left
                       ·
                        simp only [Act.put, put_, i64_w, i32_w]
                        rfl
                       refine pure_ (i := 3) (N := some 73) (v := ?_) (a' := ?_) #[true, true, true, true, false, true, false, false, true, false, true, false, false, true, false, false, false, false] rfl rfl (any_of HT_.out (by kernel_rfl)) (fun _ _ _ h => h) (Or.inl ⟨by rfl, ?_⟩) ?_ ?_; rotate_left
                       ·
                        intro w'
                        go_simp
                        with_reducible rfl
                       rotate_left
                       ·
                        simp only [Act.put, put_, i64_w, i32_w]
                        rfl
                       refine take_ (i := 4) (N := some 74) (v := ?_) (a' := ?_) #[true, true, true, true, true, true, false, false, true, false, true, false, false, true, false, false, false, false] rfl rfl (take_ofW HT_.out HW_.out (by kernel_rfl)) (fun _ _ _ h => h) (Or.inl ⟨by rfl, ?_⟩) hHeld ?_ ?_; rotate_left
                       ·
                        rintro w' ⟨s0, s1, s2, s3, s4, s5, s6, s7, s8, s9, s10, s11⟩
                        go_simp
                        with_reducible rfl
                       rotate_left
                       ·
                        simp only [Act.put, put_, i64_w, i32_w]
                        rfl
                       refine pure_ (i := 6) (N := some 76) (v := ?_) (a' := ?_) #[true, true, true, true, true, true, true, false, true, false, true, false, false, true, false, false, false, false] rfl rfl (any_of HT_.out (by kernel_rfl)) (fun _ _ _ h => h) (Or.inl ⟨by rfl, ?_⟩) ?_ ?_; rotate_left
                       ·
                        intro w'
                        go_simp
                        with_reducible rfl
                       rotate_left
                       ·
                        simp only [Act.put, put_, i64_w, i32_w]
                        rfl
                       refine take_ (i := 7) (N := some 77) (v := ?_) (a' := ?_) #[true, true, true, true, true, true, true, true, true, false, true, false, false, true, false, false, false, false] rfl rfl (take_ofW HT_.out HW_.out (by kernel_rfl)) (fun _ _ _ h => h) (Or.inl ⟨by rfl, ?_⟩) hHeld ?_ ?_; rotate_left
                       ·
                        rintro w' ⟨s0, s1, s2, s3, s4, s5, s6, s7, s8, s9, s10, s11⟩
                        go_simp
                        with_reducible rfl
                       rotate_left
                       ·
                        simp only [Act.put, put_, i64_w, i32_w]
                        rfl
                       refine take_ (i := 9) (N := some 79) (v := ?_) (a' := ?_) #[true, true, true, true, true, true, true, true, true, true, true, false, false, true, false, false, false, false] rfl rfl (take_ofW HT_.out HW_.out (by kernel_rfl)) (fun _ _ _ h => h) (Or.inl ⟨by rfl, ?_⟩) hHeld ?_ ?_; rotate_left
                       ·
                        rintro w' ⟨s0, s1, s2, s3, s4, s5, s6, s7, s8, s9, s10, s11⟩
                        go_simp
                        with_reducible rfl
                       rotate_left
                       ·
                        simp only [Act.put, put_, i64_w, i32_w]
                        rfl
                       refine pure_ (i := 11) (N := some 81) (v := ?_) (a' := ?_) #[true, true, true, true, true, true, true, true, true, true, true, true, false, true, false, false, false, false] rfl rfl (any_of HT_.out (by kernel_rfl)) (fun _ _ _ h => h) (Or.inl ⟨by rfl, ?_⟩) ?_ ?_; rotate_left
                       ·
                        intro w'
                        go_simp
                        with_reducible rfl
                       rotate_left
                       ·
                        simp only [Act.put, put_, i64_w, i32_w]
                        rfl
                       refine take_ (i := 12) (N := some 82) (v := ?_) (a' := ?_) #[true, true, true, true, true, true, true, true, true, true, true, true, true, true, false, false, false, false] rfl rfl (take_ofW HT_.out HW_.out (by kernel_rfl)) (fun _ _ _ h => h) (Or.inl ⟨by rfl, ?_⟩) hHeld ?_ ?_; rotate_left
                       ·
                        rintro w' ⟨s0, s1, s2, s3, s4, s5, s6, s7, s8, s9, s10, s11⟩
                        go_simp
                        with_reducible rfl
                       rotate_left
                       ·
                        simp only [Act.put, put_, i64_w, i32_w]
                        rfl
                       refine take_ (i := 14) (N := some 84) (v := ?_) (a' := ?_) #[true, true, true, true, true, true, true, true, true, true, true, true, true, true, true, false, false, false] rfl rfl (take_ofW HT_.out HW_.out (by kernel_rfl)) (fun _ _ _ h => h) (Or.inl ⟨by rfl, ?_⟩) hHeld ?_ ?_; rotate_left
                       ·
                        rintro w' ⟨s0, s1, s2, s3, s4, s5, s6, s7, s8, s9, s10, s11⟩
                        go_simp
                        with_reducible rfl
                       rotate_left
                       ·
                        simp only [Act.put, put_, i64_w, i32_w]
                        rfl
                       refine pure_ (i := 15) (N := some 85) (v := ?_) (a' := ?_) #[true, true, true, true, true, true, true, true, true, true, true, true, true, true, true, true, false, false] rfl rfl (any_of HT_.out (by kernel_rfl)) (fun _ _ _ h => h) (Or.inl ⟨by rfl, ?_⟩) ?_ ?_; rotate_left
                       ·
                        intro w'
                        go_simp
                        with_reducible rfl
                       rotate_left
                       ·
                        simp only [Act.put, put_, i64_w, i32_w]
                        rfl
                       refine one_ (i := 16) (N := some 86) #[true, true, true, true, true, true, true, true, true, true, true, true, true, true, true, true, true, false] rfl rfl (one_of HT_.out (by kernel_rfl)) (by decide) (fun K hK => ?_); refine goes_ Try.func62 (by kernel_rfl) rfl #[.agg #[.int .i64 ((rd_T87 (rd_L3 l0_0 x5_4) x6_5).f0), .int .i64 ((rd_T87 (rd_L3 l0_0 x5_4) x6_5).f1), .int .i64 ((rd_T87 (rd_L3 l0_0 x5_4) x6_5).f2), .int .i64 ((rd_T87 (rd_L3 l0_0 x5_4) x6_5).f3), .int .i64 ((rd_T87 (rd_L3 l0_0 x5_4) x6_5).f4)], .slice A261_0 (rd_L4 l0_1 x5_4).length c261_0, .int .i64 (l0_2.length : Int)] (by rfl) rfl rfl ag_ ?_
                       with_reducible refine (weirref09_right.calls k5 ((rd_T87 (rd_L3 l0_0 x5_4) x6_5).f0) ((rd_T87 (rd_L3 l0_0 x5_4) x6_5).f1) ((rd_T87 (rd_L3 l0_0 x5_4) x6_5).f2) ((rd_T87 (rd_L3 l0_0 x5_4) x6_5).f3) ((rd_T87 (rd_L3 l0_0 x5_4) x6_5).f4) _ _ (rd_L4 l0_1 x5_4) (l0_2.length : Int) true _ ?side1 ?side2 A34.out).mono ?_
                       (case side1 => exact cb_ HR261_0)
                       (case side2 => exact HC261_0.out)
                       rintro e w38 ⟨rfl, hb⟩
                       refine ⟨_, rfl, ?_⟩; replace BK252 := bb_ BK252 hb; replace HB := bs_ w hb
                       (try clear hb)
                       (try clear hb2)
                       (try clear hk)
                       (try clear hi)
                       refine hK.out _ _ ⟨(blk_cell BK252.out 0).trans rfl, (blk_cell BK252.out 1).trans rfl, (blk_cell BK252.out 2).trans rfl, (blk_cell BK252.out 3).trans rfl, (blk_cell BK252.out 4).trans rfl, ((HB.out.cell (World.block_lt_of_cell? w _ hw259_0)).trans hw259_0), ((HB.out.cell (World.block_lt_of_cell? w _ hw260_0)).trans hw260_0), ((HB.out.cell (World.block_lt_of_cell? w _ hw260_1)).trans hw260_1), ((HB.out.cell (World.block_lt_of_cell? w _ hw260_2)).trans hw260_2), ((HB.out.cell (World.block_lt_of_cell? w _ hw260_3)).trans hw260_3), ((HB.out.cell (World.block_lt_of_cell? w _ hw260_4)).trans hw260_4), ((HB.out.cell (World.block_lt_of_cell? w _ hw261_0)).trans hw261_0)⟩ (fun hHeld => ?_); clear hK K; refine norm_ (a' := ?_) ?_ ?_; rotate_left
                       ·
                        show Act.put _ (some 86) _ = _
                        simp only [Act.put, put_, i64_w, i32_w]
                        rfl
                       refine pure_ (i := 17) (N := some 87) (v := ?_) (a' := ?_) #[true, true, true, true, true, true, true, true, true, true, true, true, true, true, true, true, true, true] rfl rfl (any_of HT_.out (by kernel_rfl)) (fun _ _ _ h => h) (Or.inl ⟨by rfl, ?_⟩) ?_ ?_; rotate_left
                       ·
                        intro w'
                        go_simp
                        with_reducible rfl
                       rotate_left
                       ·
                        simp only [Act.put, put_, i64_w, i32_w]
                        rfl
                       refine done_ (done_of HT_.out (by kernel_rfl)) ?_
                       try go_wp2
                       go_roundg k5
                       case measure => have := HJ1.out; have := HJ9.out; have := HK3.out; have := HK4.out; have := HK5.out; omega
                       case rel => exact ⟨(wrap64 (x6_5 + 1)), ff_, H', ⟨by have := HJ1.out; have := HJ9.out; have := HK3.out; have := HK4.out; have := HK5.out; omega⟩, ⟨bk_ BK252⟩, ⟨bel_⟩⟩
                      ·
                       replace c35 := Bool.eq_false_iff.mpr c35; subst c35; have H1 : (some 93) = some r := by rw [if_neg (show ¬ (false = true) by decide)] at H; exact H
                       clear H; have H := H1; clear H1; obtain rfl := Option.some.inj H; obtain ⟨z39_0, z39_1, z39_2, z39_3, z39_4, y39_0, y39_1, y39_2, y39_3, y39_4⟩ := blkA5 BK252.out; have p258 : 0 ≤ (x5_4 : Int) := dt_; have q258 : x5_4 < (l0_0.length : Int) := dt_; obtain ⟨ad258, A258_0, c258_0, e258, hx258_0, hl258_0, hi258_0⟩ := at_L3 HR0_0.out x5_4 p258 q258; cases e258; replace hx258_0 := hx_ HB hx258_0; have HR258_0 := Aside0.mk hi258_0; have HC258_0 := Aside0.mk hl258_0; clear hi258_0 hl258_0; replace p258 := eq_true p258; replace q258 := eq_true q258
                       try go_wp2
                       replace BK252 := Aside0.mk (blk_drew BK252.out); replace HB := Aside0.mk (below_drew1 HB.out); have p259 : 0 ≤ (x5_4 : Int) := dt_; have q259 : x5_4 < (l0_0.length : Int) := dt_; obtain ⟨ad259, A259_0, c259_0, e259, hx259_0, hl259_0, hi259_0⟩ := at_L3 HR0_0.out x5_4 p259 q259; have hw259_0 := hx259_0; obtain rfl : ad258 = ad259 := (by injection e259); replace hx259_0 := hx_ HB hx259_0; have HR259_0 := Aside0.mk hi259_0; have HC259_0 := Aside0.mk hl259_0; clear hi259_0 hl259_0; replace p259 := eq_true p259; replace q259 := eq_true q259; have p260 : 0 ≤ (x6_5 : Int) := dt_; have q260 : x6_5 < ((rd_L3 l0_0 x5_4).length : Int) := dt_; obtain ⟨ad260, e260, hx260_0, hx260_1, hx260_2, hx260_3, hx260_4⟩ := at_T87 HR259_0.out x6_5 p260 q260; have hw260_4 := hx260_4; have hw260_3 := hx260_3; have hw260_2 := hx260_2; have hw260_1 := hx260_1; have hw260_0 := hx260_0; cases e260; replace hx260_0 := hx_ HB hx260_0; replace hx260_1 := hx_ HB hx260_1; replace hx260_2 := hx_ HB hx260_2; replace hx260_3 := hx_ HB hx260_3; replace hx260_4 := hx_ HB hx260_4; replace p260 := eq_true p260; replace q260 := eq_true q260; have p261 : 0 ≤ (x5_4 : Int) := dt_; have q261 : x5_4 < (l0_1.length : Int) := dt_; obtain ⟨ad261, A261_0, c261_0, e261, hx261_0, hl261_0, hi261_0⟩ := at_L4 HR0_1.out x5_4 p261 q261; have hw261_0 := hx261_0; cases e261; replace hx261_0 := hx_ HB hx261_0; have HR261_0 := Aside0.mk hi261_0; have HC261_0 := Aside0.mk hl261_0; clear hi261_0 hl261_0; replace p261 := eq_true p261; replace q261 := eq_true q261; refine start_ (n := 18) (S := fun w' => w'.cell? ⟨gb252, 0, none⟩ = some (.slice (some ad258) l0_0.length c0_0) ∧ w'.cell? ⟨gb252, 1, none⟩ = some (.slice (some ad261) l0_1.length c0_1) ∧ w'.cell? ⟨gb252, 2, none⟩ = some (.slice A0_2 l0_2.length c0_2) ∧ w'.cell? ⟨gb252, 3, none⟩ = some (.slice A0_3 l0_3.length c0_3) ∧ w'.cell? ⟨gb252, 4, none⟩ = some (.slice A0_4 l0_4.length c0_4) ∧ w'.cell? (ad258.add (x5_4).toNat) = some (.slice (some ad260) (rd_L3 l0_0 x5_4).length c259_0) ∧ w'.cell? (ad260.add ((x6_5).toNat * 5)) = some (.int .i64 ((rd_T87 (rd_L3 l0_0 x5_4) x6_5).f0)) ∧ w'.cell? ⟨(ad260.add ((x6_5).toNat * 5)).block, (ad260.add ((x6_5).toNat * 5)).off + 1, none⟩ = some (.int .i64 ((rd_T87 (rd_L3 l0_0 x5_4) x6_5).f1)) ∧ w'.cell? ⟨(ad260.add ((x6_5).toNat * 5)).block, (ad260.add ((x6_5).toNat * 5)).off + 2, none⟩ = some (.int .i64 ((rd_T87 (rd_L3 l0_0 x5_4) x6_5).f2)) ∧ w'.cell? ⟨(ad260.add ((x6_5).toNat * 5)).block, (ad260.add ((x6_5).toNat * 5)).off + 3, none⟩ = some (.int .i64 ((rd_T87 (rd_L3 l0_0 x5_4) x6_5).f3)) ∧ w'.cell? ⟨(ad260.add ((x6_5).toNat * 5)).block, (ad260.add ((x6_5).toNat * 5)).off + 4, none⟩ = some (.int .i64 ((rd_T87 (rd_L3 l0_0 x5_4) x6_5).f4)) ∧ w'.cell? (ad261.add (x5_4).toNat) = some (.slice A261_0 (rd_L4 l0_1 x5_4).length c261_0)) (ds := []) #[false, false, false, false, false, false, false, false, false, false, false, false, false, false, false, false, false, false] (by kernel_rfl) rfl rfl ⟨(blk_cell BK252.out 0).trans rfl, (blk_cell BK252.out 1).trans rfl, (blk_cell BK252.out 2).trans rfl, (blk_cell BK252.out 3).trans rfl, (blk_cell BK252.out 4).trans rfl, ((HB.out.cell (World.block_lt_of_cell? w _ hw259_0)).trans hw259_0), ((HB.out.cell (World.block_lt_of_cell? w _ hw260_0)).trans hw260_0), ((HB.out.cell (World.block_lt_of_cell? w _ hw260_1)).trans hw260_1), ((HB.out.cell (World.block_lt_of_cell? w _ hw260_2)).trans hw260_2), ((HB.out.cell (World.block_lt_of_cell? w _ hw260_3)).trans hw260_3), ((HB.out.cell (World.block_lt_of_cell? w _ hw260_4)).trans hw260_4), ((HB.out.cell (World.block_lt_of_cell? w _ hw261_0)).trans hw261_0)⟩ (fun hHeld => ?_); refine with_tabW weirref09_Valid.tab21 weirref09_Valid.bits21 (fun HT_ HW_ => ?_)
                       generalize wr.drew = w40 at BK252 HB HR259_0 HR261_0 hx259_0 hx260_0 hx260_1 hx260_2 hx260_3 hx260_4 hx261_0 hHeld ⊢
                       refine pure_ (i := 0) (N := some 70) (v := ?_) (a' := ?_) #[true, false, false, false, false, false, false, false, false, false, false, false, false, false, false, false, false, false] rfl rfl (any_of HT_.out (by kernel_rfl)) (fun _ _ _ h => h) (Or.inl ⟨by rfl, ?_⟩) ?_ ?_; rotate_left
                       ·
                        intro w'
                        go_simp
                        with_reducible rfl
                       rotate_left
                       ·
                        simp only [Act.put, put_, i64_w, i32_w]
                        rfl
                       refine pure_ (i := 2) (N := some 72) (v := ?_) (a' := ?_) #[true, false, true, false, false, false, false, false, false, false, false, false, false, false, false, false, false, false] rfl rfl (any_of HT_.out (by kernel_rfl)) (fun _ _ _ h => h) (Or.inl ⟨by rfl, ?_⟩) ?_ ?_; rotate_left
                       ·
                        intro w'
                        go_simp
                        with_reducible rfl
                       rotate_left
                       ·
                        simp only [Act.put, put_, i64_w, i32_w]
                        rfl
                       refine pure_ (i := 5) (N := some 75) (v := ?_) (a' := ?_) #[true, false, true, false, false, true, false, false, false, false, false, false, false, false, false, false, false, false] rfl rfl (any_of HT_.out (by kernel_rfl)) (fun _ _ _ h => h) (Or.inl ⟨by rfl, ?_⟩) ?_ ?_; rotate_left
                       ·
                        intro w'
                        go_simp
                        with_reducible rfl
                       rotate_left
                       ·
                        simp only [Act.put, put_, i64_w, i32_w]
                        rfl
                       refine pure_ (i := 8) (N := some 78) (v := ?_) (a' := ?_) #[true, false, true, false, false, true, false, false, true, false, false, false, false, false, false, false, false, false] rfl rfl (any_of HT_.out (by kernel_rfl)) (fun _ _ _ h => h) (Or.inl ⟨by rfl, ?_⟩) ?_ ?_; rotate_left
                       ·
                        intro w'
                        go_simp
                        with_reducible rfl
                       rotate_left
                       ·
                        simp only [Act.put, put_, i64_w, i32_w]
                        rfl
                       refine pure_ (i := 10) (N := some 80) (v := ?_) (a' := ?_) #[true, false, true, false, false, true, false, false, true, false, true, false, false, false, false, false, false, false] rfl rfl (any_of HT_.out (by kernel_rfl)) (fun _ _ _ h => h) (Or.inl ⟨by rfl, ?_⟩) ?_ ?_; rotate_left
                       ·
                        intro w'
                        go_simp
                        with_reducible rfl
                       rotate_left
                       ·
                        simp only [Act.put, put_, i64_w, i32_w]
                        rfl
                       refine pure_ (i := 13) (N := some 83) (v := ?_) (a' := ?_) #[true, false, true, false, false, true, false, false, true, false, true, false, false, true, false, false, false, false] rfl rfl (any_of HT_.out (by kernel_rfl)) (fun _ _ _ h => h) (Or.inl ⟨by rfl, ?_⟩) ?_ ?_; rotate_left
                       ·
                        intro w'
                        go_simp
                        with_reducible rfl
                       rotate_left
                       ·
                        simp only [Act.put, put_, i64_w, i32_w]
                        rfl
                       refine take_ (i := 1) (N := some 71) (v := ?_) (a' := ?_) #[true, true, true, false, false, true, false, false, true, false, true, false, false, true, false, false, false, false] rfl rfl (take_ofW HT_.out HW_.out (by kernel_rfl)) (fun _ _ _ h => h) (Or.inl ⟨by rfl, ?_⟩) hHeld ?_ ?_; rotate_left
                       ·
                        rintro w' ⟨s0, s1, s2, s3, s4, s5, s6, s7, s8, s9, s10, s11⟩
                        go_simp
                        with_reducible rfl
                       rotate_left
                       ·
                        simp only [Act.put, put_, i64_w, i32_w]
                        rfl
                       refine pure_ (i := 3) (N := some 73) (v := ?_) (a' := ?_) #[true, true, true, true, false, true, false, false, true, false, true, false, false, true, false, false, false, false] rfl rfl (any_of HT_.out (by kernel_rfl)) (fun _ _ _ h => h) (Or.inl ⟨by rfl, ?_⟩) ?_ ?_; rotate_left
                       ·
                        intro w'
                        go_simp
                        with_reducible rfl
                       rotate_left
                       ·
                        simp only [Act.put, put_, i64_w, i32_w]
                        rfl
                       refine take_ (i := 4) (N := some 74) (v := ?_) (a' := ?_) #[true, true, true, true, true, true, false, false, true, false, true, false, false, true, false, false, false, false] rfl rfl (take_ofW HT_.out HW_.out (by kernel_rfl)) (fun _ _ _ h => h) (Or.inl ⟨by rfl, ?_⟩) hHeld ?_ ?_; rotate_left
                       ·
                        rintro w' ⟨s0, s1, s2, s3, s4, s5, s6, s7, s8, s9, s10, s11⟩
                        go_simp
                        with_reducible rfl
                       rotate_left
                       ·
                        simp only [Act.put, put_, i64_w, i32_w]
                        rfl
                       refine pure_ (i := 6) (N := some 76) (v := ?_) (a' := ?_) #[true, true, true, true, true, true, true, false, true, false, true, false, false, true, false, false, false, false] rfl rfl (any_of HT_.out (by kernel_rfl)) (fun _ _ _ h => h) (Or.inl ⟨by rfl, ?_⟩) ?_ ?_; rotate_left
                       ·
                        intro w'
                        go_simp
                        with_reducible rfl
                       rotate_left
                       ·
                        simp only [Act.put, put_, i64_w, i32_w]
                        rfl
                       refine take_ (i := 7) (N := some 77) (v := ?_) (a' := ?_) #[true, true, true, true, true, true, true, true, true, false, true, false, false, true, false, false, false, false] rfl rfl (take_ofW HT_.out HW_.out (by kernel_rfl)) (fun _ _ _ h => h) (Or.inl ⟨by rfl, ?_⟩) hHeld ?_ ?_; rotate_left
                       ·
                        rintro w' ⟨s0, s1, s2, s3, s4, s5, s6, s7, s8, s9, s10, s11⟩
                        go_simp
                        with_reducible rfl
                       rotate_left
                       ·
                        simp only [Act.put, put_, i64_w, i32_w]
                        rfl
                       refine take_ (i := 9) (N := some 79) (v := ?_) (a' := ?_) #[true, true, true, true, true, true, true, true, true, true, true, false, false, true, false, false, false, false] rfl rfl (take_ofW HT_.out HW_.out (by kernel_rfl)) (fun _ _ _ h => h) (Or.inl ⟨by rfl, ?_⟩) hHeld ?_ ?_; rotate_left
                       ·
                        rintro w' ⟨s0, s1, s2, s3, s4, s5, s6, s7, s8, s9, s10, s11⟩
                        go_simp
                        with_reducible rfl
                       rotate_left
                       ·
                        simp only [Act.put, put_, i64_w, i32_w]
                        rfl
                       refine pure_ (i := 11) (N := some 81) (v := ?_) (a' := ?_) #[true, true, true, true, true, true, true, true, true, true, true, true, false, true, false, false, false, false] rfl rfl (any_of HT_.out (by kernel_rfl)) (fun _ _ _ h => h) (Or.inl ⟨by rfl, ?_⟩) ?_ ?_; rotate_left
                       ·
                        intro w'
                        go_simp
                        with_reducible rfl
                       rotate_left
                       ·
                        simp only [Act.put, put_, i64_w, i32_w]
                        rfl
                       refine take_ (i := 12) (N := some 82) (v := ?_) (a' := ?_) #[true, true, true, true, true, true, true, true, true, true, true, true, true, true, false, false, false, false] rfl rfl (take_ofW HT_.out HW_.out (by kernel_rfl)) (fun _ _ _ h => h) (Or.inl ⟨by rfl, ?_⟩) hHeld ?_ ?_; rotate_left
                       ·
                        rintro w' ⟨s0, s1, s2, s3, s4, s5, s6, s7, s8, s9, s10, s11⟩
                        go_simp
                        with_reducible rfl
                       rotate_left
                       ·
                        simp only [Act.put, put_, i64_w, i32_w]
                        rfl
                       refine take_ (i := 14) (N := some 84) (v := ?_) (a' := ?_) #[true, true, true, true, true, true, true, true, true, true, true, true, true, true, true, false, false, false] rfl rfl (take_ofW HT_.out HW_.out (by kernel_rfl)) (fun _ _ _ h => h) (Or.inl ⟨by rfl, ?_⟩) hHeld ?_ ?_; rotate_left
                       ·
                        rintro w' ⟨s0, s1, s2, s3, s4, s5, s6, s7, s8, s9, s10, s11⟩
                        go_simp
                        with_reducible rfl
                       rotate_left
                       ·
                        simp only [Act.put, put_, i64_w, i32_w]
                        rfl
                       refine pure_ (i := 15) (N := some 85) (v := ?_) (a' := ?_) #[true, true, true, true, true, true, true, true, true, true, true, true, true, true, true, true, false, false] rfl rfl (any_of HT_.out (by kernel_rfl)) (fun _ _ _ h => h) (Or.inl ⟨by rfl, ?_⟩) ?_ ?_; rotate_left
                       ·
                        intro w'
                        go_simp
                        with_reducible rfl
                       rotate_left
                       ·
                        simp only [Act.put, put_, i64_w, i32_w]
                        rfl
                       refine one_ (i := 16) (N := some 86) #[true, true, true, true, true, true, true, true, true, true, true, true, true, true, true, true, true, false] rfl rfl (one_of HT_.out (by kernel_rfl)) (by decide) (fun K hK => ?_); refine goes_ Try.func62 (by kernel_rfl) rfl #[.agg #[.int .i64 ((rd_T87 (rd_L3 l0_0 x5_4) x6_5).f0), .int .i64 ((rd_T87 (rd_L3 l0_0 x5_4) x6_5).f1), .int .i64 ((rd_T87 (rd_L3 l0_0 x5_4) x6_5).f2), .int .i64 ((rd_T87 (rd_L3 l0_0 x5_4) x6_5).f3), .int .i64 ((rd_T87 (rd_L3 l0_0 x5_4) x6_5).f4)], .slice A261_0 (rd_L4 l0_1 x5_4).length c261_0, .int .i64 (l0_2.length : Int)] (by rfl) rfl rfl ag_ ?_
                       with_reducible refine (weirref09_right.calls k5 ((rd_T87 (rd_L3 l0_0 x5_4) x6_5).f0) ((rd_T87 (rd_L3 l0_0 x5_4) x6_5).f1) ((rd_T87 (rd_L3 l0_0 x5_4) x6_5).f2) ((rd_T87 (rd_L3 l0_0 x5_4) x6_5).f3) ((rd_T87 (rd_L3 l0_0 x5_4) x6_5).f4) _ _ (rd_L4 l0_1 x5_4) (l0_2.length : Int) false _ ?side1 ?side2 A34.out).mono ?_
                       (case side1 => exact cb_ HR261_0)
                       (case side2 => exact HC261_0.out)
                       rintro e w41 ⟨rfl, hb⟩
                       refine ⟨_, rfl, ?_⟩; replace BK252 := bb_ BK252 hb; replace HB := bs_ w hb
                       (try clear hb)
                       (try clear hb2)
                       (try clear hk)
                       (try clear hi)
                       refine hK.out _ _ ⟨(blk_cell BK252.out 0).trans rfl, (blk_cell BK252.out 1).trans rfl, (blk_cell BK252.out 2).trans rfl, (blk_cell BK252.out 3).trans rfl, (blk_cell BK252.out 4).trans rfl, ((HB.out.cell (World.block_lt_of_cell? w _ hw259_0)).trans hw259_0), ((HB.out.cell (World.block_lt_of_cell? w _ hw260_0)).trans hw260_0), ((HB.out.cell (World.block_lt_of_cell? w _ hw260_1)).trans hw260_1), ((HB.out.cell (World.block_lt_of_cell? w _ hw260_2)).trans hw260_2), ((HB.out.cell (World.block_lt_of_cell? w _ hw260_3)).trans hw260_3), ((HB.out.cell (World.block_lt_of_cell? w _ hw260_4)).trans hw260_4), ((HB.out.cell (World.block_lt_of_cell? w _ hw261_0)).trans hw261_0)⟩ (fun hHeld => ?_); clear hK K; refine norm_ (a' := ?_) ?_ ?_; rotate_left
                       ·
                        show Act.put _ (some 86) _ = _
                        simp only [Act.put, put_, i64_w, i32_w]
                        rfl
                       refine pure_ (i := 17) (N := some 87) (v := ?_) (a' := ?_) #[true, true, true, true, true, true, true, true, true, true, true, true, true, true, true, true, true, true] rfl rfl (any_of HT_.out (by kernel_rfl)) (fun _ _ _ h => h) (Or.inl ⟨by rfl, ?_⟩) ?_ ?_; rotate_left
                       ·
                        intro w'
                        go_simp
                        with_reducible rfl
                       rotate_left
                       ·
                        simp only [Act.put, put_, i64_w, i32_w]
                        rfl
                       refine done_ (done_of HT_.out (by kernel_rfl)) ?_
                       try go_wp2
                       go_ret
                       exact ⟨ee_, bel_⟩
                     ·
                      rw [if_neg c33] at H; exact absurd H (by simp)
                    ·
                     rw [if_neg c32] at H; exact absurd H (by simp)
                   ·
                    rw [if_neg c31] at H; have c31b0 : decide (x6_5 < ((rd_L3 l0_0 x5_4).length : Int)) = false := decide_eq_false c31; clear c31; have H' := Aside0.mk H; clear H; obtain ⟨z42_0, z42_1, z42_2, z42_3, z42_4, y42_0, y42_1, y42_2, y42_3, y42_4⟩ := blkA5 BK252.out; have p258 : 0 ≤ (x5_4 : Int) := dt_; have q258 : x5_4 < (l0_0.length : Int) := dt_; obtain ⟨ad258, A258_0, c258_0, e258, hx258_0, hl258_0, hi258_0⟩ := at_L3 HR0_0.out x5_4 p258 q258; cases e258; replace hx258_0 := hx_ HB hx258_0; have HR258_0 := Aside0.mk hi258_0; have HC258_0 := Aside0.mk hl258_0; clear hi258_0 hl258_0; replace p258 := eq_true p258; replace q258 := eq_true q258; go_wp2
                    go_roundg k5
                    case measure => have := HJ1.out; have := HJ9.out; have := HK3.out; have := HK4.out; have := HK5.out; omega
                    case rel => exact ⟨(wrap64 (x5_4 + 1)), ff_, H', ⟨by have := HJ1.out; have := HJ9.out; have := HK3.out; have := HK4.out; have := HK5.out; omega⟩, ⟨bk_ BK252⟩, ⟨bel_⟩⟩
                  ·
                   rw [if_neg c30] at H; exact absurd H (by simp)
                 ·
                  rw [if_neg c29] at H; exact absurd H (by simp)
              ·
               rw [if_neg c27] at H; have c27b0 : decide (x5_4 < (l0_0.length : Int)) = false := decide_eq_false c27; clear c27; replace H := Option.bind_eq_some_iff.mp H; obtain ⟨t257, A430, H⟩ := H; replace H : (if t257 > 64 then (some 96) else (some 0)) = some r := H; have A43 := Aside0.mk A430; clear A430
               by_cases c44 : t257 > 64
               ·
                rw [if_pos c44] at H; have c44b0 : decide (64 < t257) = true := decide_eq_true c44; clear c44; obtain rfl := Option.some.inj H; obtain ⟨z45_0, z45_1, z45_2, z45_3, z45_4, y45_0, y45_1, y45_2, y45_3, y45_4⟩ := blkA5 BK252.out
                go_wp2_with (first | ((with_reducible refine gate_callee (f := 63) rfl ?_); refine goesL_ (some 89) rfl rfl Try.func63 (by kernel_rfl) rfl #[.agg #[.slice A0_0 l0_0.length c0_0, .slice A0_1 l0_1.length c0_1, .slice A0_2 l0_2.length c0_2, .slice A0_3 l0_3.length c0_3, .slice A0_4 l0_4.length c0_4]] rfl ag_ ?_; (with_reducible refine (weirref09_Events.calls k4 _ _ l0_0 _ _ l0_1 _ _ l0_2 _ _ l0_3 _ _ l0_4 t257 _ ?side1 ?side2 ?side3 ?side4 ?side5 ?side6 ?side7 ?side8 ?side9 ?side10 A43.out).mono ?_); (case side1 | side3 | side5 | side7 | side9 => repeat (first | exact (Kd.C_below HR0_0.out HB.out) | exact (Kd.C_below HR0_1.out HB.out) | exact (Kd.C_below HR0_2.out HB.out) | exact (Kd.C_below HR0_3.out HB.out) | exact (Kd.C_below HR0_4.out HB.out) | (with_reducible refine Kd.C_alloc ?_ _) | (with_reducible refine Kd.C_drewN ?_ _) | (with_reducible refine Kd.C_drew ?_))); (case side2 | side4 | side6 | side8 | side10 => first | exact HC0_0.out | exact HC0_1.out | exact HC0_2.out | exact HC0_3.out | exact HC0_4.out); rintro e w46 ⟨rfl, hb⟩; refine ⟨_, rfl, ?_⟩; replace BK252 := bb_ BK252 hb; replace HB := bs_ w hb; (try clear hb); (try clear hb2); (try clear hk); (try clear hi)))
                go_ret
                exact ⟨ee_, bel_⟩
               ·
                rw [if_neg c44] at H; have c44b0 : decide (64 < t257) = false := decide_eq_false c44; clear c44; obtain rfl := Option.some.inj H; obtain ⟨z47_0, z47_1, z47_2, z47_3, z47_4, y47_0, y47_1, y47_2, y47_3, y47_4⟩ := blkA5 BK252.out
                go_wp2_with (first | ((with_reducible refine gate_callee (f := 63) rfl ?_); refine goesL_ (some 89) rfl rfl Try.func63 (by kernel_rfl) rfl #[.agg #[.slice A0_0 l0_0.length c0_0, .slice A0_1 l0_1.length c0_1, .slice A0_2 l0_2.length c0_2, .slice A0_3 l0_3.length c0_3, .slice A0_4 l0_4.length c0_4]] rfl ag_ ?_; (with_reducible refine (weirref09_Events.calls k4 _ _ l0_0 _ _ l0_1 _ _ l0_2 _ _ l0_3 _ _ l0_4 t257 _ ?side1 ?side2 ?side3 ?side4 ?side5 ?side6 ?side7 ?side8 ?side9 ?side10 A43.out).mono ?_); (case side1 | side3 | side5 | side7 | side9 => repeat (first | exact (Kd.C_below HR0_0.out HB.out) | exact (Kd.C_below HR0_1.out HB.out) | exact (Kd.C_below HR0_2.out HB.out) | exact (Kd.C_below HR0_3.out HB.out) | exact (Kd.C_below HR0_4.out HB.out) | (with_reducible refine Kd.C_alloc ?_ _) | (with_reducible refine Kd.C_drewN ?_ _) | (with_reducible refine Kd.C_drew ?_))); (case side2 | side4 | side6 | side8 | side10 => first | exact HC0_0.out | exact HC0_1.out | exact HC0_2.out | exact HC0_3.out | exact HC0_4.out); rintro e w48 ⟨rfl, hb⟩; refine ⟨_, rfl, ?_⟩; replace BK252 := bb_ BK252 hb; replace HB := bs_ w hb; (try clear hb); (try clear hb2); (try clear hk); (try clear hi)))
                go_ret
                exact ⟨ee_, bel_⟩
    ·
     rw [if_neg c9] at H; have c9b0 : (t253 == 0) = false := beq_eq_false_iff_ne.mpr c9; have c9b1 : (t253 != 0) = true := bne_iff_ne.mpr c9; obtain rfl := Option.some.inj H; obtain ⟨z49_0, z49_1, z49_2, z49_3, z49_4, y49_0, y49_1, y49_2, y49_3, y49_4⟩ := blkA5 BK252.out
     go_wp2_with (first | ((with_reducible refine gate_callee (f := 59) rfl ?_); refine goesL_ (some 18) rfl rfl Try.func59 (by kernel_rfl) rfl #[.agg #[.slice A0_0 l0_0.length c0_0, .slice A0_1 l0_1.length c0_1, .slice A0_2 l0_2.length c0_2, .slice A0_3 l0_3.length c0_3, .slice A0_4 l0_4.length c0_4]] rfl ag_ ?_; (with_reducible refine (weirref09_registers.calls kj1 _ _ l0_0 _ _ l0_1 _ _ l0_2 _ _ l0_3 _ _ l0_4 t253 _ ?side1 ?side2 ?side3 ?side4 ?side5 ?side6 ?side7 ?side8 ?side9 ?side10 A8.out).mono ?_); (case side1 | side3 | side5 | side7 | side9 => repeat (first | exact (Kd.C_below HR0_0.out HB.out) | exact (Kd.C_below HR0_1.out HB.out) | exact (Kd.C_below HR0_2.out HB.out) | exact (Kd.C_below HR0_3.out HB.out) | exact (Kd.C_below HR0_4.out HB.out) | (with_reducible refine Kd.C_alloc ?_ _) | (with_reducible refine Kd.C_drewN ?_ _) | (with_reducible refine Kd.C_drew ?_))); (case side2 | side4 | side6 | side8 | side10 => first | exact HC0_0.out | exact HC0_1.out | exact HC0_2.out | exact HC0_3.out | exact HC0_4.out); rintro e w50 ⟨rfl, hb⟩; refine ⟨_, rfl, ?_⟩; replace BK252 := bb_ BK252 hb; replace HB := bs_ w hb; (try clear hb); (try clear hb2); (try clear hk); (try clear hi)))
     go_ret
     exact ⟨ee_, bel_⟩

end Go.Proofs.Ytemhpbdlonfikaa.P
