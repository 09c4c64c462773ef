-- Printed by xprint.py, a program of this session over the kit's printer.
import Derived.Test.YtemhpbdlonfikaaP3
import Derived.Test.YtemhpbdlonfikaaP11
namespace Go.Proofs.Ytemhpbdlonfikaa.P
open Go.RowKit Go.Proofs.YtemhpbdlonfikaaW.PrintWords Go.Proofs.YtemhpbdlonfikaaW.PrintLast Go.Proofs.YtemhpbdlonfikaaW.PrintMore
attribute [local go_sem] max2_int min2_int max_two min_two max_three min_three max_four min_four   -- for this text's walks alone

/-! ### weirref09_right: function 62 -/
mutual
def weirref09_right.j0 : Nat → List ByteArray → Int → Bool → Bool → Bool → Bool → Bool → Int → Int → Int → Int → Int → Option (Bool)
 | 0, _, _, _, _, _, _, _, _, _, _, _, _ => none
 | k + 1, x1, x2, x7, x8, x9, x10, x27, x242000, x242001, x242002, x242003, x242004 => if x27 = true then (some false) else (if x242000 = 8 then ((weirref09_number.f k x1 (⟨#[69, 65, 88]⟩ : ByteArray)).bind fun t246 => (if t246 < 0 then (weirref09_right.j1 k x1 x2 x8 x9 x10 true x242000 x242001 x242002 x242003 x242004) else (weirref09_right.j1 k x1 x2 x8 x9 x10 (x242001 != t246) x242000 x242001 x242002 x242003 x242004))) else (if x7 = true then (if x242001 < 0 then (weirref09_right.j2 k x1 x2 x8 x9 x10 true x242000 x242001 x242002 x242003 x242004) else (if x242001 ≥ (x1.length : Int) then (weirref09_right.j2 k x1 x2 x8 x9 x10 true x242000 x242001 x242002 x242003 x242004) else (weirref09_right.j2 k x1 x2 x8 x9 x10 false x242000 x242001 x242002 x242003 x242004))) else (weirref09_right.j2 k x1 x2 x8 x9 x10 (x242001 != 0) x242000 x242001 x242002 x242003 x242004)))
def weirref09_right.j1 : Nat → List ByteArray → Int → Bool → Bool → Bool → Bool → Int → Int → Int → Int → Int → Option (Bool)
 | 0, _, _, _, _, _, _, _, _, _, _, _ => none
 | _ + 1, x1, x2, x8, x9, x10, x40, _, _, x242002, x242003, x242004 => if x40 = true then (some false) else (if x8 = true then (if x242002 < 0 then (some false) else (if x242002 ≥ (x1.length : Int) then (some false) else (if x9 = true then (if x242003 < 0 then (some (!true)) else (if x242003 ≥ x2 then (some (!true)) else (if x10 = true then (some (!false)) else (some (!(x242004 != 0)))))) else (if x242003 = 0 then (if x10 = true then (some (!false)) else (some (!(x242004 != 0)))) else (some (!true)))))) else (if x242002 = 0 then (if x9 = true then (if x242003 < 0 then (some (!true)) else (if x242003 ≥ x2 then (some (!true)) else (if x10 = true then (some (!false)) else (some (!(x242004 != 0)))))) else (if x242003 = 0 then (if x10 = true then (some (!false)) else (some (!(x242004 != 0)))) else (some (!true)))) else (some false)))
def weirref09_right.j2 : Nat → List ByteArray → Int → Bool → Bool → Bool → Bool → Int → Int → Int → Int → Int → Option (Bool)
 | 0, _, _, _, _, _, _, _, _, _, _, _ => none
 | _ + 1, x1, x2, x8, x9, x10, x62, _, _, x242002, x242003, x242004 => if x62 = true then (some false) else (if x8 = true then (if x242002 < 0 then (some false) else (if x242002 ≥ (x1.length : Int) then (some false) else (if x9 = true then (if x242003 < 0 then (some (!true)) else (if x242003 ≥ x2 then (some (!true)) else (if x10 = true then (some (!false)) else (some (!(x242004 != 0)))))) else (if x242003 = 0 then (if x10 = true then (some (!false)) else (some (!(x242004 != 0)))) else (some (!true)))))) else (if x242002 = 0 then (if x9 = true then (if x242003 < 0 then (some (!true)) else (if x242003 ≥ x2 then (some (!true)) else (if x10 = true then (some (!false)) else (some (!(x242004 != 0)))))) else (if x242003 = 0 then (if x10 = true then (some (!false)) else (some (!(x242004 != 0)))) else (some (!true)))) else (some false)))
end
def weirref09_right.f (k : Nat) (a0_0 : Int) (a0_1 : Int) (a0_2 : Int) (a0_3 : Int) (a0_4 : Int) (l1 : List ByteArray) (a2 : Int) : Option (Bool) := (weirref09_uses.f k a0_0).bind fun bt242 => (if a0_0 < 1 then (weirref09_right.j0 k l1 a2 bt242.1 bt242.2.1 bt242.2.2.1 bt242.2.2.2 true a0_0 a0_1 a0_2 a0_3 a0_4) else (weirref09_right.j0 k l1 a2 bt242.1 bt242.2.1 bt242.2.2.1 bt242.2.2.2 (decide (a0_0 > 9)) a0_0 a0_1 a0_2 a0_3 a0_4))
theorem weirref09_right.mono_l : ∀ k, (∀ y0 y1 y2 y3 y4 y5 y6 y7 y8 y9 y10 y11, LeO (weirref09_right.j0 k y0 y1 y2 y3 y4 y5 y6 y7 y8 y9 y10 y11) (weirref09_right.j0 (k + 1) y0 y1 y2 y3 y4 y5 y6 y7 y8 y9 y10 y11)) ∧ (∀ y0 y1 y2 y3 y4 y5 y6 y7 y8 y9 y10, LeO (weirref09_right.j1 k y0 y1 y2 y3 y4 y5 y6 y7 y8 y9 y10) (weirref09_right.j1 (k + 1) y0 y1 y2 y3 y4 y5 y6 y7 y8 y9 y10)) ∧ (∀ y0 y1 y2 y3 y4 y5 y6 y7 y8 y9 y10, LeO (weirref09_right.j2 k y0 y1 y2 y3 y4 y5 y6 y7 y8 y9 y10) (weirref09_right.j2 (k + 1) y0 y1 y2 y3 y4 y5 y6 y7 y8 y9 y10))
 | 0 => ⟨fun _ _ _ _ _ _ _ _ _ _ _ _ r h => by simp [weirref09_right.j0] at h, fun _ _ _ _ _ _ _ _ _ _ _ r h => by simp [weirref09_right.j1] at h, fun _ _ _ _ _ _ _ _ _ _ _ r h => by simp [weirref09_right.j2] at h⟩
 | k + 1 => by
  obtain ⟨ih0, ih1, ih2⟩ := weirref09_right.mono_l k; refine ⟨?_, ?_, ?_⟩; intro y0 y1 y2 y3 y4 y5 y6 y7 y8 y9 y10 y11; unfold weirref09_right.j0; rotate_left; intro y0 y1 y2 y3 y4 y5 y6 y7 y8 y9 y10; unfold weirref09_right.j1; rotate_left; intro y0 y1 y2 y3 y4 y5 y6 y7 y8 y9 y10; unfold weirref09_right.j2; rotate_left
  all_goals (repeat' first
   | (with_reducible exact ih0 _ _ _ _ _ _ _ _ _ _ _ _)
   | (with_reducible exact ih1 _ _ _ _ _ _ _ _ _ _ _)
   | (with_reducible exact ih2 _ _ _ _ _ _ _ _ _ _ _)
   | (with_reducible exact weirref09_number.mono _ _ _)
   | (with_reducible exact weirref09_uses.mono _ _)
   | (with_reducible exact LeO.refl _)
   | (with_reducible exact LeO.none _)
   | (with_reducible refine LeO.ite ?_ ?_)
   | (with_reducible refine LeO.bind ?_ (fun _ => ?_))
   | exact ih0 _ _ _ _ _ _ _ _ _ _ _ _
   | exact ih1 _ _ _ _ _ _ _ _ _ _ _
   | exact ih2 _ _ _ _ _ _ _ _ _ _ _
   | exact weirref09_number.mono _ _ _
   | exact weirref09_uses.mono _ _
   | exact LeO.none _
   | refine LeO.ite ?_ ?_
   | refine LeO.bind ?_ (fun _ => ?_))
theorem weirref09_right.mono : ∀ a0 a1 a2 a3 a4 a5 a6 k, LeO (weirref09_right.f k a0 a1 a2 a3 a4 a5 a6) (weirref09_right.f (k + 1) a0 a1 a2 a3 a4 a5 a6) := by
 intro a0 a1 a2 a3 a4 a5 a6 k; obtain ⟨ih0, ih1, ih2⟩ := weirref09_right.mono_l k; unfold weirref09_right.f
 repeat' first
   | (with_reducible exact ih0 _ _ _ _ _ _ _ _ _ _ _ _)
   | (with_reducible exact ih1 _ _ _ _ _ _ _ _ _ _ _)
   | (with_reducible exact ih2 _ _ _ _ _ _ _ _ _ _ _)
   | (with_reducible exact weirref09_number.mono _ _ _)
   | (with_reducible exact weirref09_uses.mono _ _)
   | (with_reducible exact LeO.refl _)
   | (with_reducible exact LeO.none _)
   | (with_reducible refine LeO.ite ?_ ?_)
   | (with_reducible refine LeO.bind ?_ (fun _ => ?_))
   | exact ih0 _ _ _ _ _ _ _ _ _ _ _ _
   | exact ih1 _ _ _ _ _ _ _ _ _ _ _
   | exact ih2 _ _ _ _ _ _ _ _ _ _ _
   | exact weirref09_number.mono _ _ _
   | exact weirref09_uses.mono _ _
   | exact LeO.none _
   | refine LeO.ite ?_ ?_
   | refine LeO.bind ?_ (fun _ => ?_)
set_option maxHeartbeats 8000000 in
set_option maxRecDepth 100000 in
theorem weirref09_right.calls (k : Nat) (a0_0 : Int) (a0_1 : Int) (a0_2 : Int) (a0_3 : Int) (a0_4 : Int) (A1 : Option Addr) (c1 : Nat) (l1 : List ByteArray) (a2 : Int) (r : Bool) (w : World) (hr1 : Kd.C Kd.string w A1 l1.length l1) (hc1 : l1.length ≤ c1) (h : weirref09_right.f k a0_0 a0_1 a0_2 a0_3 a0_4 l1 a2 = some r) :
  Calls Try.prog 62 #[.agg #[.int .i64 a0_0, .int .i64 a0_1, .int .i64 a0_2, .int .i64 a0_3, .int .i64 a0_4], .slice A1 l1.length c1, .int .i64 a2] w fun e w' => e = .returned (.bool r) ∧ Below w.heap.size w w' := by
 have hu87 := Try.underlying87; have HR1 := Aside0.mk hr1; have HC1 := Aside0.mk hc1; clear hr1 hc1; have HB := Aside0.mk (Below.refl w.heap.size w); have H : ((weirref09_uses.f k a0_0).bind fun bt242 => (if a0_0 < 1 then (weirref09_right.j0 k l1 a2 bt242.1 bt242.2.1 bt242.2.2.1 bt242.2.2.2 true a0_0 a0_1 a0_2 a0_3 a0_4) else (weirref09_right.j0 k l1 a2 bt242.1 bt242.2.1 bt242.2.2.1 bt242.2.2.2 (decide (a0_0 > 9)) a0_0 a0_1 a0_2 a0_3 a0_4))) = some r := h; clear h; replace H := Option.bind_eq_some_iff.mp H; obtain ⟨⟨t242, t243, t244, t245⟩, A40, H⟩ := H; replace H : (if a0_0 < 1 then (weirref09_right.j0 k l1 a2 t242 t243 t244 t245 true a0_0 a0_1 a0_2 a0_3 a0_4) else (weirref09_right.j0 k l1 a2 t242 t243 t244 t245 (decide (a0_0 > 9)) a0_0 a0_1 a0_2 a0_3 a0_4)) = some r := H; have A4 := Aside0.mk A40; clear A40; have HC5 := Aside0.mk H; clear H; go_enter Try.func62, Try.ntmps62
 go_upto_region 2 with (first | ((with_reducible refine gate_dst (N := 3) rfl ?_); (try (refine gate_guard (by rfl) ?_; dsimp only)); refine bx_ (N := 3) (cs := #[.int .i64 a0_0, .int .i64 a0_1, .int .i64 a0_2, .int .i64 a0_3, .int .i64 a0_4]) (t := 87) ?_; intro gb241 hg w6 hbox hb; have n0_ := bs_ w hb; have n1_ := Aside0.mk (hbox); have n2_ := gl_ w hg; have n3_ := n2_; clear HB; have HB := n0_; have BK241 := n1_; have GW241 := n2_; have GE241 := n3_; clear n0_ n1_ n2_ n3_; clear hb hbox hg; obtain ⟨z7_0, z7_1, z7_2, z7_3, z7_4, y7_0, y7_1, y7_2, y7_3, y7_4⟩ := blkA5 BK241.out) | ((with_reducible refine gate_callee (f := 99) rfl ?_); refine goesL_ (some 15) rfl rfl Try.func99 (by kernel_rfl) rfl #[.int .i64 a0_0] rfl ag_ ?_; (with_reducible refine (weirref09_uses.calls k a0_0 t242 t243 t244 t245 _ A4.out).mono ?_); rintro e w' ⟨rfl, ⟨nd, rfl⟩⟩; refine ⟨_, rfl, ?_⟩))
 (try simp only [Act.put, List.setIfInBounds_toArray, List.set_cons_zero, List.set_cons_succ])
 go_cut [27] (fun v27 wc => ∃ (kq : Nat) (x27_4 : Bool), v27 = .bool x27_4 ∧ Aside0 (weirref09_right.j0 kq l1 a2 t242 t243 t244 t245 x27_4 a0_0 a0_1 a0_2 a0_3 a0_4 = some r) ∧ Aside0 (kq ≤ k) ∧ Aside0 (wc.heap[gb241]? = some (.cells #[.int .i64 a0_0, .int .i64 a0_1, .int .i64 a0_2, .int .i64 a0_3, .int .i64 a0_4] 87 (0, 0))) ∧ Aside0 (Below w.heap.size w wc))
 case first =>
  have H := HC5.out; clear HC5
  by_cases c8 : a0_0 < 1
  ·
   rw [if_pos c8] at H; have c8b0 : decide (a0_0 < 1) = true := decide_eq_true c8; clear c8
   (first | rw [c8b0] | (simp only [i64_w, i32_w]; rw [c8b0]) | skip)
   have H' := Aside0.mk H; clear H; obtain ⟨z9_0, z9_1, z9_2, z9_3, z9_4, y9_0, y9_1, y9_2, y9_3, y9_4⟩ := blkA5 BK241.out; go_wp2; go_meet
   case rel => exact ⟨_, (true), ff_, H', ⟨by first | omega | exact Nat.le_refl _⟩, ⟨bk_ BK241⟩, ⟨bel_⟩⟩
  ·
   rw [if_neg c8] at H; have c8b0 : decide (a0_0 < 1) = false := decide_eq_false c8; clear c8
   (first | rw [c8b0] | (simp only [i64_w, i32_w]; rw [c8b0]) | skip)
   have H' := Aside0.mk H; clear H; obtain ⟨z10_0, z10_1, z10_2, z10_3, z10_4, y10_0, y10_1, y10_2, y10_3, y10_4⟩ := blkA5 BK241.out; go_wp2; go_meet
   case rel => exact ⟨_, (decide (a0_0 > 9)), ff_, H', ⟨by first | omega | exact Nat.le_refl _⟩, ⟨bk_ BK241⟩, ⟨bel_⟩⟩
 case rest =>
  clear HC5; (try clear c1); (try clear z7_0 z7_1 z7_2 z7_3 z7_4 y7_0 y7_1 y7_2 y7_3 y7_4); obtain ⟨kq, x27_4, rfl, HA, HJ4, BK241, HB⟩ := hcut
  cases kq with
  | zero => exact absurd HA.out (by simp [weirref09_right.j0])
  | succ kj4 =>
   have H := HA.out; clear HA; simp only [weirref09_right.j0] at H
   by_cases c11 : x27_4 = true
   ·
    subst c11; have H1 : (some false) = some r := by rw [if_pos rfl] at H; exact H
    clear H; have H := H1; clear H1; obtain rfl := Option.some.inj H; go_wp2
    go_ret
    exact ⟨ee_, bel_⟩
   ·
    replace c11 := Bool.eq_false_iff.mpr c11; subst c11; have H1 : (if a0_0 = 8 then ((weirref09_number.f kj4 l1 (⟨#[69, 65, 88]⟩ : ByteArray)).bind fun t246 => (if t246 < 0 then (weirref09_right.j1 kj4 l1 a2 t243 t244 t245 true a0_0 a0_1 a0_2 a0_3 a0_4) else (weirref09_right.j1 kj4 l1 a2 t243 t244 t245 (a0_1 != t246) a0_0 a0_1 a0_2 a0_3 a0_4))) else (if t242 = true then (if a0_1 < 0 then (weirref09_right.j2 kj4 l1 a2 t243 t244 t245 true a0_0 a0_1 a0_2 a0_3 a0_4) else (if a0_1 ≥ (l1.length : Int) then (weirref09_right.j2 kj4 l1 a2 t243 t244 t245 true a0_0 a0_1 a0_2 a0_3 a0_4) else (weirref09_right.j2 kj4 l1 a2 t243 t244 t245 false a0_0 a0_1 a0_2 a0_3 a0_4))) else (weirref09_right.j2 kj4 l1 a2 t243 t244 t245 (a0_1 != 0) a0_0 a0_1 a0_2 a0_3 a0_4))) = some r := by rw [if_neg (show ¬ (false = true) by decide)] at H; exact H
    clear H; have H := H1; clear H1
    by_cases c12 : a0_0 = 8
    ·
     rw [if_pos c12] at H; have c12b0 : (a0_0 == 8) = true := beq_iff_eq.mpr c12; have c12b1 : (a0_0 != 8) = false := bne_eq_false_iff_eq.mpr c12; clear c12; replace H := Option.bind_eq_some_iff.mp H; obtain ⟨t246, A130, H⟩ := H; replace H : (if t246 < 0 then (weirref09_right.j1 kj4 l1 a2 t243 t244 t245 true a0_0 a0_1 a0_2 a0_3 a0_4) else (weirref09_right.j1 kj4 l1 a2 t243 t244 t245 (a0_1 != t246) a0_0 a0_1 a0_2 a0_3 a0_4)) = some r := H; have A13 := Aside0.mk A130; clear A130; have HC14 := Aside0.mk H; clear H; obtain ⟨z15_0, z15_1, z15_2, z15_3, z15_4, y15_0, y15_1, y15_2, y15_3, y15_4⟩ := blkA5 BK241.out
     go_upto_region 6 with (first | ((with_reducible refine gate_callee (f := 100) rfl ?_); refine goesL_ (some 32) rfl rfl Try.func100 (by kernel_rfl) rfl #[.slice A1 l1.length c1, .string (⟨#[69, 65, 88]⟩ : ByteArray)] rfl ag_ ?_; (with_reducible refine (weirref09_number.calls kj4 _ _ l1 (⟨#[69, 65, 88]⟩ : ByteArray) t246 _ ?side1 ?side2 A13.out).mono ?_); (case side1 => exact cb_ HR1); (case side2 => exact HC1.out); rintro e w' ⟨rfl, ⟨nd, rfl⟩⟩; refine ⟨_, rfl, ?_⟩))
     (try simp only [Act.put, List.setIfInBounds_toArray, List.set_cons_zero, List.set_cons_succ])
     go_cut [40] (fun v40 wc => ∃ (kq : Nat) (x40_13 : Bool), v40 = .bool x40_13 ∧ Aside0 (weirref09_right.j1 kq l1 a2 t243 t244 t245 x40_13 a0_0 a0_1 a0_2 a0_3 a0_4 = some r) ∧ Aside0 (kq ≤ kj4) ∧ Aside0 (wc.heap[gb241]? = some (.cells #[.int .i64 a0_0, .int .i64 a0_1, .int .i64 a0_2, .int .i64 a0_3, .int .i64 a0_4] 87 (0, 0))) ∧ Aside0 (Below w.heap.size w wc))
     case first =>
      have H := HC14.out; clear HC14
      by_cases c16 : t246 < 0
      ·
       rw [if_pos c16] at H; have c16b0 : decide (t246 < 0) = true := decide_eq_true c16; clear c16
       (first | rw [c16b0] | (simp only [i64_w, i32_w]; rw [c16b0]) | skip)
       have H' := Aside0.mk H; clear H; go_wp2; go_meet
       case rel => exact ⟨_, (true), ff_, H', ⟨by have := HJ4.out; first | omega | exact Nat.le_refl _⟩, ⟨bk_ BK241⟩, ⟨bel_⟩⟩
      ·
       rw [if_neg c16] at H; have c16b0 : decide (t246 < 0) = false := decide_eq_false c16; clear c16
       (first | rw [c16b0] | (simp only [i64_w, i32_w]; rw [c16b0]) | skip)
       have H' := Aside0.mk H; clear H; obtain ⟨z17_0, z17_1, z17_2, z17_3, z17_4, y17_0, y17_1, y17_2, y17_3, y17_4⟩ := blkA5 BK241.out; go_wp2; go_meet
       case rel => exact ⟨_, ((a0_1 != t246)), ff_, H', ⟨by have := HJ4.out; first | omega | exact Nat.le_refl _⟩, ⟨bk_ BK241⟩, ⟨bel_⟩⟩
     case rest =>
      clear HC14; (try clear c1); (try clear c11); (try clear c12b0); (try clear c12b1); (try clear z15_0 z15_1 z15_2 z15_3 z15_4 y15_0 y15_1 y15_2 y15_3 y15_4); obtain ⟨kq, x40_13, rfl, HA, HJ13, BK241, HB⟩ := hcut
      cases kq with
      | zero => exact absurd HA.out (by simp [weirref09_right.j1])
      | succ kj13 =>
       have H := HA.out; clear HA; simp only [weirref09_right.j1] at H
       by_cases c18 : x40_13 = true
       ·
        subst c18; have H1 : (some false) = some r := by rw [if_pos rfl] at H; exact H
        clear H; have H := H1; clear H1; obtain rfl := Option.some.inj H; go_wp2
        go_ret
        exact ⟨ee_, bel_⟩
       ·
        replace c18 := Bool.eq_false_iff.mpr c18; subst c18; have H1 : (if t243 = true then (if a0_2 < 0 then (some false) else (if a0_2 ≥ (l1.length : Int) then (some false) else (if t244 = true then (if a0_3 < 0 then (some (!true)) else (if a0_3 ≥ a2 then (some (!true)) else (if t245 = true then (some (!false)) else (some (!(a0_4 != 0)))))) else (if a0_3 = 0 then (if t245 = true then (some (!false)) else (some (!(a0_4 != 0)))) else (some (!true)))))) else (if a0_2 = 0 then (if t244 = true then (if a0_3 < 0 then (some (!true)) else (if a0_3 ≥ a2 then (some (!true)) else (if t245 = true then (some (!false)) else (some (!(a0_4 != 0)))))) else (if a0_3 = 0 then (if t245 = true then (some (!false)) else (some (!(a0_4 != 0)))) else (some (!true)))) else (some false))) = some r := by rw [if_neg (show ¬ (false = true) by decide)] at H; exact H
        clear H; have H := H1; clear H1
        by_cases c19 : t243 = true
        ·
         subst c19; have H1 : (if a0_2 < 0 then (some false) else (if a0_2 ≥ (l1.length : Int) then (some false) else (if t244 = true then (if a0_3 < 0 then (some (!true)) else (if a0_3 ≥ a2 then (some (!true)) else (if t245 = true then (some (!false)) else (some (!(a0_4 != 0)))))) else (if a0_3 = 0 then (if t245 = true then (some (!false)) else (some (!(a0_4 != 0)))) else (some (!true)))))) = some r := by rw [if_pos rfl] at H; exact H
         clear H; have H := H1; clear H1
         by_cases c20 : a0_2 < 0
         ·
          rw [if_pos c20] at H; have c20b0 : decide (a0_2 < 0) = true := decide_eq_true c20; clear c20; obtain rfl := Option.some.inj H; obtain ⟨z21_0, z21_1, z21_2, z21_3, z21_4, y21_0, y21_1, y21_2, y21_3, y21_4⟩ := blkA5 BK241.out; go_wp2
          go_ret
          exact ⟨ee_, bel_⟩
         ·
          rw [if_neg c20] at H; have c20b0 : decide (a0_2 < 0) = false := decide_eq_false c20; clear c20
          by_cases c22 : a0_2 ≥ (l1.length : Int)
          ·
           rw [if_pos c22] at H; have c22b0 : decide ((l1.length : Int) ≤ a0_2) = true := decide_eq_true c22; clear c22; obtain rfl := Option.some.inj H; obtain ⟨z23_0, z23_1, z23_2, z23_3, z23_4, y23_0, y23_1, y23_2, y23_3, y23_4⟩ := blkA5 BK241.out; go_wp2
           go_ret
           exact ⟨ee_, bel_⟩
          ·
           rw [if_neg c22] at H; have c22b0 : decide ((l1.length : Int) ≤ a0_2) = false := decide_eq_false c22; clear c22
           by_cases c24 : t244 = true
           ·
            subst c24; have H1 : (if a0_3 < 0 then (some (!true)) else (if a0_3 ≥ a2 then (some (!true)) else (if t245 = true then (some (!false)) else (some (!(a0_4 != 0)))))) = some r := by rw [if_pos rfl] at H; exact H
            clear H; have H := H1; clear H1
            by_cases c25 : a0_3 < 0
            ·
             rw [if_pos c25] at H; have c25b0 : decide (a0_3 < 0) = true := decide_eq_true c25; clear c25; obtain rfl := Option.some.inj H; obtain ⟨z26_0, z26_1, z26_2, z26_3, z26_4, y26_0, y26_1, y26_2, y26_3, y26_4⟩ := blkA5 BK241.out; go_wp2
             go_ret
             exact ⟨ee_, bel_⟩
            ·
             rw [if_neg c25] at H; have c25b0 : decide (a0_3 < 0) = false := decide_eq_false c25; clear c25
             by_cases c27 : a0_3 ≥ a2
             ·
              rw [if_pos c27] at H; have c27b0 : decide (a2 ≤ a0_3) = true := decide_eq_true c27; clear c27; obtain rfl := Option.some.inj H; obtain ⟨z28_0, z28_1, z28_2, z28_3, z28_4, y28_0, y28_1, y28_2, y28_3, y28_4⟩ := blkA5 BK241.out; go_wp2
              go_ret
              exact ⟨ee_, bel_⟩
             ·
              rw [if_neg c27] at H; have c27b0 : decide (a2 ≤ a0_3) = false := decide_eq_false c27; clear c27
              by_cases c29 : t245 = true
              ·
               subst c29; have H1 : (some (!false)) = some r := by rw [if_pos rfl] at H; exact H
               clear H; have H := H1; clear H1; obtain rfl := Option.some.inj H; obtain ⟨z30_0, z30_1, z30_2, z30_3, z30_4, y30_0, y30_1, y30_2, y30_3, y30_4⟩ := blkA5 BK241.out; go_wp2
               go_ret
               exact ⟨ee_, bel_⟩
              ·
               replace c29 := Bool.eq_false_iff.mpr c29; subst c29; have H1 : (some (!(a0_4 != 0))) = some r := by rw [if_neg (show ¬ (false = true) by decide)] at H; exact H
               clear H; have H := H1; clear H1; obtain rfl := Option.some.inj H; obtain ⟨z31_0, z31_1, z31_2, z31_3, z31_4, y31_0, y31_1, y31_2, y31_3, y31_4⟩ := blkA5 BK241.out; go_wp2
               go_ret
               exact ⟨ee_, bel_⟩
           ·
            replace c24 := Bool.eq_false_iff.mpr c24; subst c24; have H1 : (if a0_3 = 0 then (if t245 = true then (some (!false)) else (some (!(a0_4 != 0)))) else (some (!true))) = some r := by rw [if_neg (show ¬ (false = true) by decide)] at H; exact H
            clear H; have H := H1; clear H1
            by_cases c32 : a0_3 = 0
            ·
             rw [if_pos c32] at H; have c32b0 : (a0_3 == 0) = true := beq_iff_eq.mpr c32; have c32b1 : (a0_3 != 0) = false := bne_eq_false_iff_eq.mpr c32; clear c32
             by_cases c33 : t245 = true
             ·
              subst c33; have H1 : (some (!false)) = some r := by rw [if_pos rfl] at H; exact H
              clear H; have H := H1; clear H1; obtain rfl := Option.some.inj H; obtain ⟨z34_0, z34_1, z34_2, z34_3, z34_4, y34_0, y34_1, y34_2, y34_3, y34_4⟩ := blkA5 BK241.out; go_wp2
              go_ret
              exact ⟨ee_, bel_⟩
             ·
              replace c33 := Bool.eq_false_iff.mpr c33; subst c33; have H1 : (some (!(a0_4 != 0))) = some r := by rw [if_neg (show ¬ (false = true) by decide)] at H; exact H
              clear H; have H := H1; clear H1; obtain rfl := Option.some.inj H; obtain ⟨z35_0, z35_1, z35_2, z35_3, z35_4, y35_0, y35_1, y35_2, y35_3, y35_4⟩ := blkA5 BK241.out; go_wp2
              go_ret
              exact ⟨ee_, bel_⟩
            ·
             rw [if_neg c32] at H; have c32b0 : (a0_3 == 0) = false := beq_eq_false_iff_ne.mpr c32; have c32b1 : (a0_3 != 0) = true := bne_iff_ne.mpr c32; obtain rfl := Option.some.inj H; obtain ⟨z36_0, z36_1, z36_2, z36_3, z36_4, y36_0, y36_1, y36_2, y36_3, y36_4⟩ := blkA5 BK241.out; go_wp2
             go_ret
             exact ⟨ee_, bel_⟩
        ·
         replace c19 := Bool.eq_false_iff.mpr c19; subst c19; have H1 : (if a0_2 = 0 then (if t244 = true then (if a0_3 < 0 then (some (!true)) else (if a0_3 ≥ a2 then (some (!true)) else (if t245 = true then (some (!false)) else (some (!(a0_4 != 0)))))) else (if a0_3 = 0 then (if t245 = true then (some (!false)) else (some (!(a0_4 != 0)))) else (some (!true)))) else (some false)) = some r := by rw [if_neg (show ¬ (false = true) by decide)] at H; exact H
         clear H; have H := H1; clear H1
         by_cases c37 : a0_2 = 0
         ·
          rw [if_pos c37] at H; have c37b0 : (a0_2 == 0) = true := beq_iff_eq.mpr c37; have c37b1 : (a0_2 != 0) = false := bne_eq_false_iff_eq.mpr c37; clear c37
          by_cases c38 : t244 = true
          ·
           subst c38; have H1 : (if a0_3 < 0 then (some (!true)) else (if a0_3 ≥ a2 then (some (!true)) else (if t245 = true then (some (!false)) else (some (!(a0_4 != 0)))))) = some r := by rw [if_pos rfl] at H; exact H
           clear H; have H := H1; clear H1
           by_cases c39 : a0_3 < 0
           ·
            rw [if_pos c39] at H; have c39b0 : decide (a0_3 < 0) = true := decide_eq_true c39; clear c39; obtain rfl := Option.some.inj H; obtain ⟨z40_0, z40_1, z40_2, z40_3, z40_4, y40_0, y40_1, y40_2, y40_3, y40_4⟩ := blkA5 BK241.out; go_wp2
            go_ret
            exact ⟨ee_, bel_⟩
           ·
            rw [if_neg c39] at H; have c39b0 : decide (a0_3 < 0) = false := decide_eq_false c39; clear c39
            by_cases c41 : a0_3 ≥ a2
            ·
             rw [if_pos c41] at H; have c41b0 : decide (a2 ≤ a0_3) = true := decide_eq_true c41; clear c41; obtain rfl := Option.some.inj H; obtain ⟨z42_0, z42_1, z42_2, z42_3, z42_4, y42_0, y42_1, y42_2, y42_3, y42_4⟩ := blkA5 BK241.out; go_wp2
             go_ret
             exact ⟨ee_, bel_⟩
            ·
             rw [if_neg c41] at H; have c41b0 : decide (a2 ≤ a0_3) = false := decide_eq_false c41; clear c41
             by_cases c43 : t245 = true
             ·
              subst c43; have H1 : (some (!false)) = some r := by rw [if_pos rfl] at H; exact H
              clear H; have H := H1; clear H1; obtain rfl := Option.some.inj H; obtain ⟨z44_0, z44_1, z44_2, z44_3, z44_4, y44_0, y44_1, y44_2, y44_3, y44_4⟩ := blkA5 BK241.out; go_wp2
              go_ret
              exact ⟨ee_, bel_⟩
             ·
              replace c43 := Bool.eq_false_iff.mpr c43; subst c43; have H1 : (some (!(a0_4 != 0))) = some r := by rw [if_neg (show ¬ (false = true) by decide)] at H; exact H
              clear H; have H := H1; clear H1; obtain rfl := Option.some.inj H; obtain ⟨z45_0, z45_1, z45_2, z45_3, z45_4, y45_0, y45_1, y45_2, y45_3, y45_4⟩ := blkA5 BK241.out; go_wp2
              go_ret
              exact ⟨ee_, bel_⟩
          ·
           replace c38 := Bool.eq_false_iff.mpr c38; subst c38; have H1 : (if a0_3 = 0 then (if t245 = true then (some (!false)) else (some (!(a0_4 != 0)))) else (some (!true))) = some r := by rw [if_neg (show ¬ (false = true) by decide)] at H; exact H
           clear H; have H := H1; clear H1
           by_cases c46 : a0_3 = 0
           ·
            rw [if_pos c46] at H; have c46b0 : (a0_3 == 0) = true := beq_iff_eq.mpr c46; have c46b1 : (a0_3 != 0) = false := bne_eq_false_iff_eq.mpr c46; clear c46
            by_cases c47 : t245 = true
            ·
             subst c47; have H1 : (some (!false)) = some r := by rw [if_pos rfl] at H; exact H
             clear H; have H := H1; clear H1; obtain rfl := Option.some.inj H; obtain ⟨z48_0, z48_1, z48_2, z48_3, z48_4, y48_0, y48_1, y48_2, y48_3, y48_4⟩ := blkA5 BK241.out; go_wp2
             go_ret
             exact ⟨ee_, bel_⟩
            ·
             replace c47 := Bool.eq_false_iff.mpr c47; subst c47; have H1 : (some (!(a0_4 != 0))) = some r := by rw [if_neg (show ¬ (false = true) by decide)] at H; exact H
             clear H; have H := H1; clear H1; obtain rfl := Option.some.inj H; obtain ⟨z49_0, z49_1, z49_2, z49_3, z49_4, y49_0, y49_1, y49_2, y49_3, y49_4⟩ := blkA5 BK241.out; go_wp2
             go_ret
             exact ⟨ee_, bel_⟩
           ·
            rw [if_neg c46] at H; have c46b0 : (a0_3 == 0) = false := beq_eq_false_iff_ne.mpr c46; have c46b1 : (a0_3 != 0) = true := bne_iff_ne.mpr c46; obtain rfl := Option.some.inj H; obtain ⟨z50_0, z50_1, z50_2, z50_3, z50_4, y50_0, y50_1, y50_2, y50_3, y50_4⟩ := blkA5 BK241.out; go_wp2
            go_ret
            exact ⟨ee_, bel_⟩
         ·
          rw [if_neg c37] at H; have c37b0 : (a0_2 == 0) = false := beq_eq_false_iff_ne.mpr c37; have c37b1 : (a0_2 != 0) = true := bne_iff_ne.mpr c37; obtain rfl := Option.some.inj H; obtain ⟨z51_0, z51_1, z51_2, z51_3, z51_4, y51_0, y51_1, y51_2, y51_3, y51_4⟩ := blkA5 BK241.out; go_wp2
          go_ret
          exact ⟨ee_, bel_⟩
    ·
     rw [if_neg c12] at H; have c12b0 : (a0_0 == 8) = false := beq_eq_false_iff_ne.mpr c12; have c12b1 : (a0_0 != 8) = true := bne_iff_ne.mpr c12; have HC52 := Aside0.mk H; clear H; obtain ⟨z53_0, z53_1, z53_2, z53_3, z53_4, y53_0, y53_1, y53_2, y53_3, y53_4⟩ := blkA5 BK241.out
     go_upto_region 8 with (fail)
     go_cut [62] (fun v62 wc => ∃ (kq : Nat) (x62_51 : Bool), v62 = .bool x62_51 ∧ Aside0 (weirref09_right.j2 kq l1 a2 t243 t244 t245 x62_51 a0_0 a0_1 a0_2 a0_3 a0_4 = some r) ∧ Aside0 (kq ≤ kj4) ∧ Aside0 (wc.heap[gb241]? = some (.cells #[.int .i64 a0_0, .int .i64 a0_1, .int .i64 a0_2, .int .i64 a0_3, .int .i64 a0_4] 87 (0, 0))) ∧ Aside0 (Below w.heap.size w wc))
     case first =>
      have H := HC52.out; clear HC52
      by_cases c54 : t242 = true
      ·
       subst c54; have H1 : (if a0_1 < 0 then (weirref09_right.j2 kj4 l1 a2 t243 t244 t245 true a0_0 a0_1 a0_2 a0_3 a0_4) else (if a0_1 ≥ (l1.length : Int) then (weirref09_right.j2 kj4 l1 a2 t243 t244 t245 true a0_0 a0_1 a0_2 a0_3 a0_4) else (weirref09_right.j2 kj4 l1 a2 t243 t244 t245 false a0_0 a0_1 a0_2 a0_3 a0_4))) = some r := by rw [if_pos rfl] at H; exact H
       clear H; have H := H1; clear H1
       by_cases c55 : a0_1 < 0
       ·
        rw [if_pos c55] at H; have c55b0 : decide (a0_1 < 0) = true := decide_eq_true c55; clear c55
        (first | rw [c55b0] | (simp only [i64_w, i32_w]; rw [c55b0]) | skip)
        have H' := Aside0.mk H; clear H; obtain ⟨z56_0, z56_1, z56_2, z56_3, z56_4, y56_0, y56_1, y56_2, y56_3, y56_4⟩ := blkA5 BK241.out; go_wp2; go_meet
        case rel => exact ⟨_, (true), ff_, H', ⟨by have := HJ4.out; first | omega | exact Nat.le_refl _⟩, ⟨bk_ BK241⟩, ⟨bel_⟩⟩
       ·
        rw [if_neg c55] at H; have c55b0 : decide (a0_1 < 0) = false := decide_eq_false c55; clear c55
        (first | rw [c55b0] | (simp only [i64_w, i32_w]; rw [c55b0]) | skip)
        by_cases c57 : a0_1 ≥ (l1.length : Int)
        ·
         rw [if_pos c57] at H; have c57b0 : decide ((l1.length : Int) ≤ a0_1) = true := decide_eq_true c57; clear c57; have H' := Aside0.mk H; clear H; obtain ⟨z58_0, z58_1, z58_2, z58_3, z58_4, y58_0, y58_1, y58_2, y58_3, y58_4⟩ := blkA5 BK241.out; go_wp2; go_meet
         case rel => exact ⟨_, (true), ff_, H', ⟨by have := HJ4.out; first | omega | exact Nat.le_refl _⟩, ⟨bk_ BK241⟩, ⟨bel_⟩⟩
        ·
         rw [if_neg c57] at H; have c57b0 : decide ((l1.length : Int) ≤ a0_1) = false := decide_eq_false c57; clear c57; have H' := Aside0.mk H; clear H; obtain ⟨z59_0, z59_1, z59_2, z59_3, z59_4, y59_0, y59_1, y59_2, y59_3, y59_4⟩ := blkA5 BK241.out; go_wp2; go_meet
         case rel => exact ⟨_, (false), ff_, H', ⟨by have := HJ4.out; first | omega | exact Nat.le_refl _⟩, ⟨bk_ BK241⟩, ⟨bel_⟩⟩
      ·
       replace c54 := Bool.eq_false_iff.mpr c54; subst c54; have H1 : (weirref09_right.j2 kj4 l1 a2 t243 t244 t245 (a0_1 != 0) a0_0 a0_1 a0_2 a0_3 a0_4) = some r := by rw [if_neg (show ¬ (false = true) by decide)] at H; exact H
       clear H; have H := H1; clear H1; have H' := Aside0.mk H; clear H; obtain ⟨z60_0, z60_1, z60_2, z60_3, z60_4, y60_0, y60_1, y60_2, y60_3, y60_4⟩ := blkA5 BK241.out; go_wp2; go_meet
       case rel => exact ⟨_, ((a0_1 != 0)), ff_, H', ⟨by have := HJ4.out; first | omega | exact Nat.le_refl _⟩, ⟨bk_ BK241⟩, ⟨bel_⟩⟩
     case rest =>
      clear HC52; (try clear c11); (try clear c12); (try clear c12b0); (try clear c12b1); (try clear z53_0 z53_1 z53_2 z53_3 z53_4 y53_0 y53_1 y53_2 y53_3 y53_4); obtain ⟨kq, x62_51, rfl, HA, HJ51, BK241, HB⟩ := hcut
      cases kq with
      | zero => exact absurd HA.out (by simp [weirref09_right.j2])
      | succ kj51 =>
       have H := HA.out; clear HA; simp only [weirref09_right.j2] at H
       by_cases c61 : x62_51 = true
       ·
        subst c61; have H1 : (some false) = some r := by rw [if_pos rfl] at H; exact H
        clear H; have H := H1; clear H1; obtain rfl := Option.some.inj H; go_wp2
        go_ret
        exact ⟨ee_, bel_⟩
       ·
        replace c61 := Bool.eq_false_iff.mpr c61; subst c61; have H1 : (if t243 = true then (if a0_2 < 0 then (some false) else (if a0_2 ≥ (l1.length : Int) then (some false) else (if t244 = true then (if a0_3 < 0 then (some (!true)) else (if a0_3 ≥ a2 then (some (!true)) else (if t245 = true then (some (!false)) else (some (!(a0_4 != 0)))))) else (if a0_3 = 0 then (if t245 = true then (some (!false)) else (some (!(a0_4 != 0)))) else (some (!true)))))) else (if a0_2 = 0 then (if t244 = true then (if a0_3 < 0 then (some (!true)) else (if a0_3 ≥ a2 then (some (!true)) else (if t245 = true then (some (!false)) else (some (!(a0_4 != 0)))))) else (if a0_3 = 0 then (if t245 = true then (some (!false)) else (some (!(a0_4 != 0)))) else (some (!true)))) else (some false))) = some r := by rw [if_neg (show ¬ (false = true) by decide)] at H; exact H
        clear H; have H := H1; clear H1
        by_cases c62 : t243 = true
        ·
         subst c62; have H1 : (if a0_2 < 0 then (some false) else (if a0_2 ≥ (l1.length : Int) then (some false) else (if t244 = true then (if a0_3 < 0 then (some (!true)) else (if a0_3 ≥ a2 then (some (!true)) else (if t245 = true then (some (!false)) else (some (!(a0_4 != 0)))))) else (if a0_3 = 0 then (if t245 = true then (some (!false)) else (some (!(a0_4 != 0)))) else (some (!true)))))) = some r := by rw [if_pos rfl] at H; exact H
         clear H; have H := H1; clear H1
         by_cases c63 : a0_2 < 0
         ·
          rw [if_pos c63] at H; have c63b0 : decide (a0_2 < 0) = true := decide_eq_true c63; clear c63; obtain rfl := Option.some.inj H; obtain ⟨z64_0, z64_1, z64_2, z64_3, z64_4, y64_0, y64_1, y64_2, y64_3, y64_4⟩ := blkA5 BK241.out; go_wp2
          go_ret
          exact ⟨ee_, bel_⟩
         ·
          rw [if_neg c63] at H; have c63b0 : decide (a0_2 < 0) = false := decide_eq_false c63; clear c63
          by_cases c65 : a0_2 ≥ (l1.length : Int)
          ·
           rw [if_pos c65] at H; have c65b0 : decide ((l1.length : Int) ≤ a0_2) = true := decide_eq_true c65; clear c65; obtain rfl := Option.some.inj H; obtain ⟨z66_0, z66_1, z66_2, z66_3, z66_4, y66_0, y66_1, y66_2, y66_3, y66_4⟩ := blkA5 BK241.out; go_wp2
           go_ret
           exact ⟨ee_, bel_⟩
          ·
           rw [if_neg c65] at H; have c65b0 : decide ((l1.length : Int) ≤ a0_2) = false := decide_eq_false c65; clear c65
           by_cases c67 : t244 = true
           ·
            subst c67; have H1 : (if a0_3 < 0 then (some (!true)) else (if a0_3 ≥ a2 then (some (!true)) else (if t245 = true then (some (!false)) else (some (!(a0_4 != 0)))))) = some r := by rw [if_pos rfl] at H; exact H
            clear H; have H := H1; clear H1
            by_cases c68 : a0_3 < 0
            ·
             rw [if_pos c68] at H; have c68b0 : decide (a0_3 < 0) = true := decide_eq_true c68; clear c68; obtain rfl := Option.some.inj H; obtain ⟨z69_0, z69_1, z69_2, z69_3, z69_4, y69_0, y69_1, y69_2, y69_3, y69_4⟩ := blkA5 BK241.out; go_wp2
             go_ret
             exact ⟨ee_, bel_⟩
            ·
             rw [if_neg c68] at H; have c68b0 : decide (a0_3 < 0) = false := decide_eq_false c68; clear c68
             by_cases c70 : a0_3 ≥ a2
             ·
              rw [if_pos c70] at H; have c70b0 : decide (a2 ≤ a0_3) = true := decide_eq_true c70; clear c70; obtain rfl := Option.some.inj H; obtain ⟨z71_0, z71_1, z71_2, z71_3, z71_4, y71_0, y71_1, y71_2, y71_3, y71_4⟩ := blkA5 BK241.out; go_wp2
              go_ret
              exact ⟨ee_, bel_⟩
             ·
              rw [if_neg c70] at H; have c70b0 : decide (a2 ≤ a0_3) = false := decide_eq_false c70; clear c70
              by_cases c72 : t245 = true
              ·
               subst c72; have H1 : (some (!false)) = some r := by rw [if_pos rfl] at H; exact H
               clear H; have H := H1; clear H1; obtain rfl := Option.some.inj H; obtain ⟨z73_0, z73_1, z73_2, z73_3, z73_4, y73_0, y73_1, y73_2, y73_3, y73_4⟩ := blkA5 BK241.out; go_wp2
               go_ret
               exact ⟨ee_, bel_⟩
              ·
               replace c72 := Bool.eq_false_iff.mpr c72; subst c72; have H1 : (some (!(a0_4 != 0))) = some r := by rw [if_neg (show ¬ (false = true) by decide)] at H; exact H
               clear H; have H := H1; clear H1; obtain rfl := Option.some.inj H; obtain ⟨z74_0, z74_1, z74_2, z74_3, z74_4, y74_0, y74_1, y74_2, y74_3, y74_4⟩ := blkA5 BK241.out; go_wp2
               go_ret
               exact ⟨ee_, bel_⟩
           ·
            replace c67 := Bool.eq_false_iff.mpr c67; subst c67; have H1 : (if a0_3 = 0 then (if t245 = true then (some (!false)) else (some (!(a0_4 != 0)))) else (some (!true))) = some r := by rw [if_neg (show ¬ (false = true) by decide)] at H; exact H
            clear H; have H := H1; clear H1
            by_cases c75 : a0_3 = 0
            ·
             rw [if_pos c75] at H; have c75b0 : (a0_3 == 0) = true := beq_iff_eq.mpr c75; have c75b1 : (a0_3 != 0) = false := bne_eq_false_iff_eq.mpr c75; clear c75
             by_cases c76 : t245 = true
             ·
              subst c76; have H1 : (some (!false)) = some r := by rw [if_pos rfl] at H; exact H
              clear H; have H := H1; clear H1; obtain rfl := Option.some.inj H; obtain ⟨z77_0, z77_1, z77_2, z77_3, z77_4, y77_0, y77_1, y77_2, y77_3, y77_4⟩ := blkA5 BK241.out; go_wp2
              go_ret
              exact ⟨ee_, bel_⟩
             ·
              replace c76 := Bool.eq_false_iff.mpr c76; subst c76; have H1 : (some (!(a0_4 != 0))) = some r := by rw [if_neg (show ¬ (false = true) by decide)] at H; exact H
              clear H; have H := H1; clear H1; obtain rfl := Option.some.inj H; obtain ⟨z78_0, z78_1, z78_2, z78_3, z78_4, y78_0, y78_1, y78_2, y78_3, y78_4⟩ := blkA5 BK241.out; go_wp2
              go_ret
              exact ⟨ee_, bel_⟩
            ·
             rw [if_neg c75] at H; have c75b0 : (a0_3 == 0) = false := beq_eq_false_iff_ne.mpr c75; have c75b1 : (a0_3 != 0) = true := bne_iff_ne.mpr c75; obtain rfl := Option.some.inj H; obtain ⟨z79_0, z79_1, z79_2, z79_3, z79_4, y79_0, y79_1, y79_2, y79_3, y79_4⟩ := blkA5 BK241.out; go_wp2
             go_ret
             exact ⟨ee_, bel_⟩
        ·
         replace c62 := Bool.eq_false_iff.mpr c62; subst c62; have H1 : (if a0_2 = 0 then (if t244 = true then (if a0_3 < 0 then (some (!true)) else (if a0_3 ≥ a2 then (some (!true)) else (if t245 = true then (some (!false)) else (some (!(a0_4 != 0)))))) else (if a0_3 = 0 then (if t245 = true then (some (!false)) else (some (!(a0_4 != 0)))) else (some (!true)))) else (some false)) = some r := by rw [if_neg (show ¬ (false = true) by decide)] at H; exact H
         clear H; have H := H1; clear H1
         by_cases c80 : a0_2 = 0
         ·
          rw [if_pos c80] at H; have c80b0 : (a0_2 == 0) = true := beq_iff_eq.mpr c80; have c80b1 : (a0_2 != 0) = false := bne_eq_false_iff_eq.mpr c80; clear c80
          by_cases c81 : t244 = true
          ·
           subst c81; have H1 : (if a0_3 < 0 then (some (!true)) else (if a0_3 ≥ a2 then (some (!true)) else (if t245 = true then (some (!false)) else (some (!(a0_4 != 0)))))) = some r := by rw [if_pos rfl] at H; exact H
           clear H; have H := H1; clear H1
           by_cases c82 : a0_3 < 0
           ·
            rw [if_pos c82] at H; have c82b0 : decide (a0_3 < 0) = true := decide_eq_true c82; clear c82; obtain rfl := Option.some.inj H; obtain ⟨z83_0, z83_1, z83_2, z83_3, z83_4, y83_0, y83_1, y83_2, y83_3, y83_4⟩ := blkA5 BK241.out; go_wp2
            go_ret
            exact ⟨ee_, bel_⟩
           ·
            rw [if_neg c82] at H; have c82b0 : decide (a0_3 < 0) = false := decide_eq_false c82; clear c82
            by_cases c84 : a0_3 ≥ a2
            ·
             rw [if_pos c84] at H; have c84b0 : decide (a2 ≤ a0_3) = true := decide_eq_true c84; clear c84; obtain rfl := Option.some.inj H; obtain ⟨z85_0, z85_1, z85_2, z85_3, z85_4, y85_0, y85_1, y85_2, y85_3, y85_4⟩ := blkA5 BK241.out; go_wp2
             go_ret
             exact ⟨ee_, bel_⟩
            ·
             rw [if_neg c84] at H; have c84b0 : decide (a2 ≤ a0_3) = false := decide_eq_false c84; clear c84
             by_cases c86 : t245 = true
             ·
              subst c86; have H1 : (some (!false)) = some r := by rw [if_pos rfl] at H; exact H
              clear H; have H := H1; clear H1; obtain rfl := Option.some.inj H; obtain ⟨z87_0, z87_1, z87_2, z87_3, z87_4, y87_0, y87_1, y87_2, y87_3, y87_4⟩ := blkA5 BK241.out; go_wp2
              go_ret
              exact ⟨ee_, bel_⟩
             ·
              replace c86 := Bool.eq_false_iff.mpr c86; subst c86; have H1 : (some (!(a0_4 != 0))) = some r := by rw [if_neg (show ¬ (false = true) by decide)] at H; exact H
              clear H; have H := H1; clear H1; obtain rfl := Option.some.inj H; obtain ⟨z88_0, z88_1, z88_2, z88_3, z88_4, y88_0, y88_1, y88_2, y88_3, y88_4⟩ := blkA5 BK241.out; go_wp2
              go_ret
              exact ⟨ee_, bel_⟩
          ·
           replace c81 := Bool.eq_false_iff.mpr c81; subst c81; have H1 : (if a0_3 = 0 then (if t245 = true then (some (!false)) else (some (!(a0_4 != 0)))) else (some (!true))) = some r := by rw [if_neg (show ¬ (false = true) by decide)] at H; exact H
           clear H; have H := H1; clear H1
           by_cases c89 : a0_3 = 0
           ·
            rw [if_pos c89] at H; have c89b0 : (a0_3 == 0) = true := beq_iff_eq.mpr c89; have c89b1 : (a0_3 != 0) = false := bne_eq_false_iff_eq.mpr c89; clear c89
            by_cases c90 : t245 = true
            ·
             subst c90; have H1 : (some (!false)) = some r := by rw [if_pos rfl] at H; exact H
             clear H; have H := H1; clear H1; obtain rfl := Option.some.inj H; obtain ⟨z91_0, z91_1, z91_2, z91_3, z91_4, y91_0, y91_1, y91_2, y91_3, y91_4⟩ := blkA5 BK241.out; go_wp2
             go_ret
             exact ⟨ee_, bel_⟩
            ·
             replace c90 := Bool.eq_false_iff.mpr c90; subst c90; have H1 : (some (!(a0_4 != 0))) = some r := by rw [if_neg (show ¬ (false = true) by decide)] at H; exact H
             clear H; have H := H1; clear H1; obtain rfl := Option.some.inj H; obtain ⟨z92_0, z92_1, z92_2, z92_3, z92_4, y92_0, y92_1, y92_2, y92_3, y92_4⟩ := blkA5 BK241.out; go_wp2
             go_ret
             exact ⟨ee_, bel_⟩
           ·
            rw [if_neg c89] at H; have c89b0 : (a0_3 == 0) = false := beq_eq_false_iff_ne.mpr c89; have c89b1 : (a0_3 != 0) = true := bne_iff_ne.mpr c89; obtain rfl := Option.some.inj H; obtain ⟨z93_0, z93_1, z93_2, z93_3, z93_4, y93_0, y93_1, y93_2, y93_3, y93_4⟩ := blkA5 BK241.out; go_wp2
            go_ret
            exact ⟨ee_, bel_⟩
         ·
          rw [if_neg c80] at H; have c80b0 : (a0_2 == 0) = false := beq_eq_false_iff_ne.mpr c80; have c80b1 : (a0_2 != 0) = true := bne_iff_ne.mpr c80; obtain rfl := Option.some.inj H; obtain ⟨z94_0, z94_1, z94_2, z94_3, z94_4, y94_0, y94_1, y94_2, y94_3, y94_4⟩ := blkA5 BK241.out; go_wp2
          go_ret
          exact ⟨ee_, bel_⟩

end Go.Proofs.Ytemhpbdlonfikaa.P
