-- Printed by xprint.py, a program of this session over the kit's printer.
import Derived.Test.YtemhpbdlonfikaaP3
import Derived.Test.YtemhpbdlonfikaaP4
import Derived.Test.YtemhpbdlonfikaaP5
import Derived.Test.YtemhpbdlonfikaaP6
namespace Go.Proofs.Ytemhpbdlonfikaa.P
open Go.RowKit Go.Proofs.YtemhpbdlonfikaaW.PrintWords Go.Proofs.YtemhpbdlonfikaaW.PrintLast Go.Proofs.YtemhpbdlonfikaaW.PrintMore
attribute [local go_sem] max2_int min2_int max_two min_two max_three min_three max_four min_four   -- for this text's walks alone

/-! ### prog_Valid: function 36 -/
mutual
def prog_Valid.j0 : Nat → Bool → List (List (S87)) → List (List ByteArray) → List ByteArray → List (List Int) → List Int → Option (Int)
 | 0, _, _, _, _, _, _ => none
 | k + 1, x20, x144000, x144001, x144002, x144003, x144004 => if x20 = true then (some 95) else (if (x144001.length : Int) = (x144000.length : Int) then (prog_Valid.j1 k ((x144003.length : Int) != (x144000.length : Int)) x144000 x144001 x144002 x144003 x144004) else (prog_Valid.j1 k true x144000 x144001 x144002 x144003 x144004))
def prog_Valid.j1 : Nat → Bool → List (List (S87)) → List (List ByteArray) → List ByteArray → List (List Int) → List Int → Option (Int)
 | 0, _, _, _, _, _, _ => none
 | k + 1, x36, x144000, x144001, x144002, x144003, x144004 => if x36 = true then (some 92) else (prog_Valid.l0 k x144001 (x144001.length : Int) 0 x144000 x144001 x144002 x144003 x144004)
def prog_Valid.l0 : Nat → List (List ByteArray) → Int → Int → List (List (S87)) → List (List ByteArray) → List ByteArray → List (List Int) → List Int → Option (Int)
 | 0, _, _, _, _, _, _, _, _ => none
 | k + 1, x38, x39, x40, x144000, x144001, x144002, x144003, x144004 => if x40 < x39 then (if 0 ≤ x40 then (if x40 < (x38.length : Int) then (if x40 < (x144003.length : Int) then (if ((rd_L5 x144003 x40).length : Int) = ((rd_L4 x38 x40).length : Int) then ((prog_rises__prog_Register.f k (rd_L4 x38 x40)).bind fun t146 => (if t146 = true then (prog_Valid.l0 k x38 x39 (wrap64 (x40 + 1)) x144000 x144001 x144002 x144003 x144004) else (some 92))) else (some 92)) else (none)) else (none)) else (none)) else (prog_Valid.l1 k x144001 (x144001.length : Int) 0 x144000 x144001 x144002 x144003 x144004)
def prog_Valid.l1 : Nat → List (List ByteArray) → Int → Int → List (List (S87)) → List (List ByteArray) → List ByteArray → List (List Int) → List Int → Option (Int)
 | 0, _, _, _, _, _, _, _, _ => none
 | k + 1, x61, x62, x63, x144000, x144001, x144002, x144003, x144004 => if x63 < x62 then (if 0 ≤ x63 then (if x63 < (x61.length : Int) then (if ((rd_L4 x61 x63).length : Int) > 8 then (some 98) else (prog_Valid.l1 k x61 x62 (wrap64 (x63 + 1)) x144000 x144001 x144002 x144003 x144004)) else (none)) else (none)) else (if (x144004.length : Int) = (x144002.length : Int) then ((prog_rises__lexis_Name.f k x144002).bind fun t148 => (prog_Valid.j4 k (!t148) x144000 x144001 x144002 x144003 x144004)) else (prog_Valid.j4 k true x144000 x144001 x144002 x144003 x144004))
def prog_Valid.j4 : Nat → Bool → List (List (S87)) → List (List ByteArray) → List ByteArray → List (List Int) → List Int → Option (Int)
 | 0, _, _, _, _, _, _ => none
 | k + 1, x83, x144000, x144001, x144002, x144003, x144004 => if x83 = true then (some 52) else (if (x144002.length : Int) > 16 then (some 97) else (prog_Valid.l2 k x144000 (x144000.length : Int) 0 x144000 x144001 x144002 x144003 x144004))
def prog_Valid.l2 : Nat → List (List (S87)) → Int → Int → List (List (S87)) → List (List ByteArray) → List ByteArray → List (List Int) → List Int → Option (Int)
 | 0, _, _, _, _, _, _, _, _ => none
 | k + 1, x89, x90, x91, x144000, x144001, x144002, x144003, x144004 => if x91 < x90 then (if 0 ≤ x91 then (if x91 < (x89.length : Int) then (prog_Valid.l3 k x91 x89 x90 x91 (rd_L3 x89 x91) ((rd_L3 x89 x91).length : Int) 0 x144000 x144001 x144002 x144003 x144004) else (none)) else (none)) else ((prog_Events.f k x144000 x144001 x144002 x144003 x144004).bind fun t149 => (if t149 > 64 then (some 96) else (some 0)))
def prog_Valid.l3 : Nat → Int → List (List (S87)) → Int → Int → List (S87) → Int → Int → List (List (S87)) → List (List ByteArray) → List ByteArray → List (List Int) → List Int → Option (Int)
 | 0, _, _, _, _, _, _, _, _, _, _, _, _ => none
 | k + 1, x7, x89, x90, x91, x96, x97, x98, x144000, x144001, x144002, x144003, x144004 => if x98 < x97 then (if 0 ≤ x98 then (if x98 < (x96.length : Int) then (if 0 ≤ x7 then (if x7 < (x144001.length : Int) then ((prog_fits.f k ((rd_T87 x96 x98).f0) ((rd_T87 x96 x98).f1) ((rd_T87 x96 x98).f2) ((rd_T87 x96 x98).f3) ((rd_T87 x96 x98).f4) (rd_L4 x144001 x7) x144002).bind fun t154 => (if t154 = true then (prog_Valid.l3 k x7 x89 x90 x91 x96 x97 (wrap64 (x98 + 1)) x144000 x144001 x144002 x144003 x144004) else (some 93))) else (none)) else (none)) else (none)) else (none)) else (prog_Valid.l2 k x89 x90 (wrap64 (x91 + 1)) x144000 x144001 x144002 x144003 x144004)
end
def prog_Valid.f (k : Nat) (l0_0 : List (List (S87))) (l0_1 : List (List ByteArray)) (l0_2 : List ByteArray) (l0_3 : List (List Int)) (l0_4 : List Int) : Option (Int) := if (l0_0.length : Int) = 0 then (prog_Valid.j0 k true l0_0 l0_1 l0_2 l0_3 l0_4) else (prog_Valid.j0 k (decide ((l0_0.length : Int) > 4)) l0_0 l0_1 l0_2 l0_3 l0_4)
theorem prog_Valid.mono_l : ∀ k, (∀ y0 y1 y2 y3 y4 y5, LeO (prog_Valid.j0 k y0 y1 y2 y3 y4 y5) (prog_Valid.j0 (k + 1) y0 y1 y2 y3 y4 y5)) ∧ (∀ y0 y1 y2 y3 y4 y5, LeO (prog_Valid.j1 k y0 y1 y2 y3 y4 y5) (prog_Valid.j1 (k + 1) y0 y1 y2 y3 y4 y5)) ∧ (∀ y0 y1 y2 y3 y4 y5 y6 y7, LeO (prog_Valid.l0 k y0 y1 y2 y3 y4 y5 y6 y7) (prog_Valid.l0 (k + 1) y0 y1 y2 y3 y4 y5 y6 y7)) ∧ (∀ y0 y1 y2 y3 y4 y5 y6 y7, LeO (prog_Valid.l1 k y0 y1 y2 y3 y4 y5 y6 y7) (prog_Valid.l1 (k + 1) y0 y1 y2 y3 y4 y5 y6 y7)) ∧ (∀ y0 y1 y2 y3 y4 y5, LeO (prog_Valid.j4 k y0 y1 y2 y3 y4 y5) (prog_Valid.j4 (k + 1) y0 y1 y2 y3 y4 y5)) ∧ (∀ y0 y1 y2 y3 y4 y5 y6 y7, LeO (prog_Valid.l2 k y0 y1 y2 y3 y4 y5 y6 y7) (prog_Valid.l2 (k + 1) y0 y1 y2 y3 y4 y5 y6 y7)) ∧ (∀ y0 y1 y2 y3 y4 y5 y6 y7 y8 y9 y10 y11, LeO (prog_Valid.l3 k y0 y1 y2 y3 y4 y5 y6 y7 y8 y9 y10 y11) (prog_Valid.l3 (k + 1) y0 y1 y2 y3 y4 y5 y6 y7 y8 y9 y10 y11))
 | 0 => ⟨fun _ _ _ _ _ _ r h => by simp [prog_Valid.j0] at h, fun _ _ _ _ _ _ r h => by simp [prog_Valid.j1] at h, fun _ _ _ _ _ _ _ _ r h => by simp [prog_Valid.l0] at h, fun _ _ _ _ _ _ _ _ r h => by simp [prog_Valid.l1] at h, fun _ _ _ _ _ _ r h => by simp [prog_Valid.j4] at h, fun _ _ _ _ _ _ _ _ r h => by simp [prog_Valid.l2] at h, fun _ _ _ _ _ _ _ _ _ _ _ _ r h => by simp [prog_Valid.l3] at h⟩
 | k + 1 => by
  obtain ⟨ih0, ih1, ih2, ih3, ih4, ih5, ih6⟩ := prog_Valid.mono_l k; refine ⟨?_, ?_, ?_, ?_, ?_, ?_, ?_⟩; intro y0 y1 y2 y3 y4 y5; unfold prog_Valid.j0; rotate_left; intro y0 y1 y2 y3 y4 y5; unfold prog_Valid.j1; rotate_left; intro y0 y1 y2 y3 y4 y5 y6 y7; unfold prog_Valid.l0; rotate_left; intro y0 y1 y2 y3 y4 y5 y6 y7; unfold prog_Valid.l1; rotate_left; intro y0 y1 y2 y3 y4 y5; unfold prog_Valid.j4; rotate_left; intro y0 y1 y2 y3 y4 y5 y6 y7; unfold prog_Valid.l2; rotate_left; intro y0 y1 y2 y3 y4 y5 y6 y7 y8 y9 y10 y11; unfold prog_Valid.l3; rotate_left
  all_goals (repeat' first
   | (with_reducible exact ih0 _ _ _ _ _ _)
   | (with_reducible exact ih1 _ _ _ _ _ _)
   | (with_reducible exact ih2 _ _ _ _ _ _ _ _)
   | (with_reducible exact ih3 _ _ _ _ _ _ _ _)
   | (with_reducible exact ih4 _ _ _ _ _ _)
   | (with_reducible exact ih5 _ _ _ _ _ _ _ _)
   | (with_reducible exact ih6 _ _ _ _ _ _ _ _ _ _ _ _)
   | (with_reducible exact prog_Events.mono _ _ _ _ _ _)
   | (with_reducible exact prog_fits.mono _ _ _ _ _ _ _ _)
   | (with_reducible exact prog_rises__lexis_Name.mono _ _)
   | (with_reducible exact prog_rises__prog_Register.mono _ _)
   | (with_reducible exact LeO.refl _)
   | (with_reducible exact LeO.none _)
   | (with_reducible refine LeO.ite ?_ ?_)
   | (with_reducible refine LeO.bind ?_ (fun _ => ?_))
   | exact ih0 _ _ _ _ _ _
   | exact ih1 _ _ _ _ _ _
   | exact ih2 _ _ _ _ _ _ _ _
   | exact ih3 _ _ _ _ _ _ _ _
   | exact ih4 _ _ _ _ _ _
   | exact ih5 _ _ _ _ _ _ _ _
   | exact ih6 _ _ _ _ _ _ _ _ _ _ _ _
   | exact prog_Events.mono _ _ _ _ _ _
   | exact prog_fits.mono _ _ _ _ _ _ _ _
   | exact prog_rises__lexis_Name.mono _ _
   | exact prog_rises__prog_Register.mono _ _
   | exact LeO.none _
   | refine LeO.ite ?_ ?_
   | refine LeO.bind ?_ (fun _ => ?_))
theorem prog_Valid.mono : ∀ a0 a1 a2 a3 a4 k, LeO (prog_Valid.f k a0 a1 a2 a3 a4) (prog_Valid.f (k + 1) a0 a1 a2 a3 a4) := by
 intro a0 a1 a2 a3 a4 k; obtain ⟨ih0, ih1, ih2, ih3, ih4, ih5, ih6⟩ := prog_Valid.mono_l k; unfold prog_Valid.f
 repeat' first
   | (with_reducible exact ih0 _ _ _ _ _ _)
   | (with_reducible exact ih1 _ _ _ _ _ _)
   | (with_reducible exact ih2 _ _ _ _ _ _ _ _)
   | (with_reducible exact ih3 _ _ _ _ _ _ _ _)
   | (with_reducible exact ih4 _ _ _ _ _ _)
   | (with_reducible exact ih5 _ _ _ _ _ _ _ _)
   | (with_reducible exact ih6 _ _ _ _ _ _ _ _ _ _ _ _)
   | (with_reducible exact prog_Events.mono _ _ _ _ _ _)
   | (with_reducible exact prog_fits.mono _ _ _ _ _ _ _ _)
   | (with_reducible exact prog_rises__lexis_Name.mono _ _)
   | (with_reducible exact prog_rises__prog_Register.mono _ _)
   | (with_reducible exact LeO.refl _)
   | (with_reducible exact LeO.none _)
   | (with_reducible refine LeO.ite ?_ ?_)
   | (with_reducible refine LeO.bind ?_ (fun _ => ?_))
   | exact ih0 _ _ _ _ _ _
   | exact ih1 _ _ _ _ _ _
   | exact ih2 _ _ _ _ _ _ _ _
   | exact ih3 _ _ _ _ _ _ _ _
   | exact ih4 _ _ _ _ _ _
   | exact ih5 _ _ _ _ _ _ _ _
   | exact ih6 _ _ _ _ _ _ _ _ _ _ _ _
   | exact prog_Events.mono _ _ _ _ _ _
   | exact prog_fits.mono _ _ _ _ _ _ _ _
   | exact prog_rises__lexis_Name.mono _ _
   | exact prog_rises__prog_Register.mono _ _
   | exact LeO.none _
   | refine LeO.ite ?_ ?_
   | refine LeO.bind ?_ (fun _ => ?_)
def prog_Valid.T27 : Bool × List (List Nat × List Nat) := (true, [([], []), ([], []), ([1], [1]), ([], []), ([2, 3], [2, 3]), ([4], [4]), ([], []), ([6], [6]), ([0, 5, 7], [0, 5, 7]), ([8], [8])])
def prog_Valid.B27 : List Nat := [0, 0, 2, 0, 14, 30, 0, 64, 255, 511]
theorem prog_Valid.tab27 : rtab .any (opsOf Try.f36 27) = prog_Valid.T27 := by kernel_rfl
theorem prog_Valid.bits27 : waitsOk prog_Valid.T27.2 prog_Valid.B27 = true := by kernel_rfl
set_option maxHeartbeats 8000000 in
set_option maxRecDepth 100000 in
theorem prog_Valid.calls (k : Nat) (A0_0 : Option Addr) (c0_0 : Nat) (l0_0 : List (List (S87))) (A0_1 : Option Addr) (c0_1 : Nat) (l0_1 : List (List ByteArray)) (A0_2 : Option Addr) (c0_2 : Nat) (l0_2 : List ByteArray) (A0_3 : Option Addr) (c0_3 : Nat) (l0_3 : List (List Int)) (A0_4 : Option Addr) (c0_4 : Nat) (l0_4 : List Int) (r : Int) (w : World) (hr0_0 : Kd.C (Kd.slice 87 k87) w A0_0 l0_0.length l0_0) (hc0_0 : l0_0.length ≤ c0_0) (hr0_1 : Kd.C (Kd.slice 9 Kd.string) w A0_1 l0_1.length l0_1) (hc0_1 : l0_1.length ≤ c0_1) (hr0_2 : Kd.C Kd.string w A0_2 l0_2.length l0_2) (hc0_2 : l0_2.length ≤ c0_2) (hr0_3 : Kd.C (Kd.slice 2 (Kd.int .i64)) w A0_3 l0_3.length l0_3) (hc0_3 : l0_3.length ≤ c0_3) (hr0_4 : Kd.C (Kd.int .i64) w A0_4 l0_4.length l0_4) (hc0_4 : l0_4.length ≤ c0_4) (h : prog_Valid.f k l0_0 l0_1 l0_2 l0_3 l0_4 = some r) :
  Calls Try.prog 36 #[.agg #[.slice A0_0 l0_0.length c0_0, .slice A0_1 l0_1.length c0_1, .slice A0_2 l0_2.length c0_2, .slice A0_3 l0_3.length c0_3, .slice A0_4 l0_4.length c0_4]] w fun e w' => e = .returned (.int .i64 r) ∧ Below w.heap.size w w' := by
 have hu28 := Try.underlying28; have hu87 := Try.underlying87; have HR0_0 := Aside0.mk hr0_0; have HC0_0 := Aside0.mk hc0_0; clear hr0_0 hc0_0; have HR0_1 := Aside0.mk hr0_1; have HC0_1 := Aside0.mk hc0_1; clear hr0_1 hc0_1; have HR0_2 := Aside0.mk hr0_2; have HC0_2 := Aside0.mk hc0_2; clear hr0_2 hc0_2; have HR0_3 := Aside0.mk hr0_3; have HC0_3 := Aside0.mk hc0_3; clear hr0_3 hc0_3; have HR0_4 := Aside0.mk hr0_4; have HC0_4 := Aside0.mk hc0_4; clear hr0_4 hc0_4; have HB := Aside0.mk (Below.refl w.heap.size w); have H : (if (l0_0.length : Int) = 0 then (prog_Valid.j0 k true l0_0 l0_1 l0_2 l0_3 l0_4) else (prog_Valid.j0 k (decide ((l0_0.length : Int) > 4)) l0_0 l0_1 l0_2 l0_3 l0_4)) = some r := h; clear h; have HC2 := Aside0.mk H; clear H; go_enter Try.func36, Try.ntmps36
 go_upto_region 1 with (first | ((with_reducible refine gate_dst (N := 1) rfl ?_); (try (refine gate_guard (by rfl) ?_; dsimp only)); refine bx_ (N := 1) (cs := #[.slice A0_0 l0_0.length c0_0, .slice A0_1 l0_1.length c0_1, .slice A0_2 l0_2.length c0_2, .slice A0_3 l0_3.length c0_3, .slice A0_4 l0_4.length c0_4]) (t := 28) ?_; intro gb143 hg w3 hbox hb; have n0_ := bs_ w hb; have n1_ := Aside0.mk (hbox); have n2_ := gl_ w hg; have n3_ := n2_; clear HB; have HB := n0_; have BK143 := n1_; have GW143 := n2_; have GE143 := n3_; clear n0_ n1_ n2_ n3_; clear hb hbox hg))
 (try simp only [Act.put, List.setIfInBounds_toArray, List.set_cons_zero, List.set_cons_succ])
 go_cut [20] (fun v20 wc => ∃ (kq : Nat) (x20_1 : Bool), v20 = .bool x20_1 ∧ Aside0 (prog_Valid.j0 kq x20_1 l0_0 l0_1 l0_2 l0_3 l0_4 = some r) ∧ Aside0 (kq ≤ k) ∧ Aside0 (wc.heap[gb143]? = some (.cells #[(.slice A0_0 l0_0.length c0_0), (.slice A0_1 l0_1.length c0_1), (.slice A0_2 l0_2.length c0_2), (.slice A0_3 l0_3.length c0_3), (.slice A0_4 l0_4.length c0_4)] 28 (0, 0))) ∧ Aside0 (Below w.heap.size w wc))
 case first =>
  have H := HC2.out; clear HC2
  by_cases c4 : (l0_0.length : Int) = 0
  ·
   rw [if_pos c4] at H; have c4b0 : ((l0_0.length : Int) == 0) = true := beq_iff_eq.mpr c4; have c4b1 : ((l0_0.length : Int) != 0) = false := bne_eq_false_iff_eq.mpr c4; clear c4
   (first | rw [c4b0] | (simp only [i64_w, i32_w]; rw [c4b0]) | skip)
   have H' := Aside0.mk H; clear H; obtain ⟨z5_0, z5_1, z5_2, z5_3, z5_4, y5_0, y5_1, y5_2, y5_3, y5_4⟩ := blkA5 BK143.out; go_wp2; go_meet
   case rel => exact ⟨_, (true), ff_, H', ⟨by first | omega | exact Nat.le_refl _⟩, ⟨bk_ BK143⟩, ⟨bel_⟩⟩
  ·
   rw [if_neg c4] at H; have c4b0 : ((l0_0.length : Int) == 0) = false := beq_eq_false_iff_ne.mpr c4; have c4b1 : ((l0_0.length : Int) != 0) = true := bne_iff_ne.mpr c4; have c4b2 : ¬ (l0_0 = []) := fun h_ => c4 (by rw [h_]; rfl)
   (first | rw [c4b0] | (simp only [i64_w, i32_w]; rw [c4b0]) | skip)
   have H' := Aside0.mk H; clear H; obtain ⟨z6_0, z6_1, z6_2, z6_3, z6_4, y6_0, y6_1, y6_2, y6_3, y6_4⟩ := blkA5 BK143.out; go_wp2; go_meet
   case rel => exact ⟨_, (decide ((l0_0.length : Int) > 4)), ff_, H', ⟨by first | omega | exact Nat.le_refl _⟩, ⟨bk_ BK143⟩, ⟨bel_⟩⟩
 case rest =>
  clear HC2; obtain ⟨kq, x20_1, rfl, HA, HJ1, BK143, HB⟩ := hcut
  cases kq with
  | zero => exact absurd HA.out (by simp [prog_Valid.j0])
  | succ kj1 =>
   have H := HA.out; clear HA; simp only [prog_Valid.j0] at H
   by_cases c7 : x20_1 = true
   ·
    subst c7; have H1 : (some 95) = some r := by rw [if_pos rfl] at H; exact H
    clear H; have H := H1; clear H1; obtain rfl := Option.some.inj H; go_wp2
    go_ret
    exact ⟨ee_, bel_⟩
   ·
    replace c7 := Bool.eq_false_iff.mpr c7; subst c7; have H1 : (if (l0_1.length : Int) = (l0_0.length : Int) then (prog_Valid.j1 kj1 ((l0_3.length : Int) != (l0_0.length : Int)) l0_0 l0_1 l0_2 l0_3 l0_4) else (prog_Valid.j1 kj1 true l0_0 l0_1 l0_2 l0_3 l0_4)) = some r := by rw [if_neg (show ¬ (false = true) by decide)] at H; exact H
    clear H; have H := H1; clear H1; have HC8 := Aside0.mk H; clear H
    go_upto_region 3 with (fail)
    go_cut [36] (fun v36 wc => ∃ (kq : Nat) (x36_7 : Bool), v36 = .bool x36_7 ∧ Aside0 (prog_Valid.j1 kq x36_7 l0_0 l0_1 l0_2 l0_3 l0_4 = some r) ∧ Aside0 (kq ≤ kj1) ∧ Aside0 (wc.heap[gb143]? = some (.cells #[(.slice A0_0 l0_0.length c0_0), (.slice A0_1 l0_1.length c0_1), (.slice A0_2 l0_2.length c0_2), (.slice A0_3 l0_3.length c0_3), (.slice A0_4 l0_4.length c0_4)] 28 (0, 0))) ∧ Aside0 (Below w.heap.size w wc))
    case first =>
     have H := HC8.out; clear HC8
     by_cases c9 : (l0_1.length : Int) = (l0_0.length : Int)
     ·
      rw [if_pos c9] at H; have c9b0 : ((l0_1.length : Int) == (l0_0.length : Int)) = true := beq_iff_eq.mpr c9; have c9b1 : ((l0_1.length : Int) != (l0_0.length : Int)) = false := bne_eq_false_iff_eq.mpr c9; have c9b2 : (l0_1.length == l0_0.length) = true := by first | simpa using c9 | (simp at c9 ⊢; omega)
      clear c9
      (first | rw [c9b0] | (simp only [i64_w, i32_w]; rw [c9b0]) | skip)
      have H' := Aside0.mk H; clear H; obtain ⟨z10_0, z10_1, z10_2, z10_3, z10_4, y10_0, y10_1, y10_2, y10_3, y10_4⟩ := blkA5 BK143.out; go_wp2; go_meet
      case rel => exact ⟨_, (((l0_3.length : Int) != (l0_0.length : Int))), ff_, H', ⟨by have := HJ1.out; first | omega | exact Nat.le_refl _⟩, ⟨bk_ BK143⟩, ⟨bel_⟩⟩
     ·
      rw [if_neg c9] at H; have c9b0 : ((l0_1.length : Int) == (l0_0.length : Int)) = false := beq_eq_false_iff_ne.mpr c9; have c9b1 : ((l0_1.length : Int) != (l0_0.length : Int)) = true := bne_iff_ne.mpr c9; have c9b2 : (l0_1.length == l0_0.length) = false := by first | simpa using c9 | (simp at c9 ⊢; omega)
      (first | rw [c9b0] | (simp only [i64_w, i32_w]; rw [c9b0]) | skip)
      have H' := Aside0.mk H; clear H; obtain ⟨z11_0, z11_1, z11_2, z11_3, z11_4, y11_0, y11_1, y11_2, y11_3, y11_4⟩ := blkA5 BK143.out; go_wp2; go_meet
      case rel => exact ⟨_, (true), ff_, H', ⟨by have := HJ1.out; first | omega | exact Nat.le_refl _⟩, ⟨bk_ BK143⟩, ⟨bel_⟩⟩
    case rest =>
     clear HC8; (try clear c7); obtain ⟨kq, x36_7, rfl, HA, HJ7, BK143, HB⟩ := hcut
     cases kq with
     | zero => exact absurd HA.out (by simp [prog_Valid.j1])
     | succ kj7 =>
      have H := HA.out; clear HA; simp only [prog_Valid.j1] at H
      by_cases c12 : x36_7 = true
      ·
       subst c12; have H1 : (some 92) = some r := by rw [if_pos rfl] at H; exact H
       clear H; have H := H1; clear H1; obtain rfl := Option.some.inj H; go_wp2
       go_ret
       exact ⟨ee_, bel_⟩
      ·
       replace c12 := Bool.eq_false_iff.mpr c12; subst c12; have H1 : (prog_Valid.l0 kj7 l0_1 (l0_1.length : Int) 0 l0_0 l0_1 l0_2 l0_3 l0_4) = some r := by rw [if_neg (show ¬ (false = true) by decide)] at H; exact H
       clear H; have H := H1; clear H1; have H' := Aside0.mk H; clear H; obtain ⟨z13_0, z13_1, z13_2, z13_3, z13_4, y13_0, y13_1, y13_2, y13_3, y13_4⟩ := blkA5 BK143.out; go_wp2
       go_loopg [40] kj7 (fun kq v40 w' => ∃ (x40_3 : Int), v40 = .int .i64 x40_3 ∧ Aside0 (prog_Valid.l0 kq l0_1 (l0_1.length : Int) x40_3 l0_0 l0_1 l0_2 l0_3 l0_4 = some r) ∧ Aside0 (kq ≤ kj7) ∧ Aside0 (w'.heap[gb143]? = some (.cells #[(.slice A0_0 l0_0.length c0_0), (.slice A0_1 l0_1.length c0_1), (.slice A0_2 l0_2.length c0_2), (.slice A0_3 l0_3.length c0_3), (.slice A0_4 l0_4.length c0_4)] 28 (0, 0))) ∧ Aside0 (Below w.heap.size w w'))
       case atStart => exact ⟨(0), ff_, H', ⟨Nat.le_refl _⟩, ⟨bk_ BK143⟩, ⟨bel_⟩⟩
       case round =>
        clear H'; (try clear c12); (try clear z13_0 z13_1 z13_2 z13_3 z13_4 y13_0 y13_1 y13_2 y13_3 y13_4); obtain ⟨x40_3, rfl, HA, HK3, BK143, HB⟩ := hrel
        cases gk with
        | zero => exact absurd HA.out (by simp [prog_Valid.l0])
        | succ k3 =>
         have H := HA.out; clear HA; simp only [prog_Valid.l0] at H
         by_cases c14 : x40_3 < (l0_1.length : Int)
         ·
          rw [if_pos c14] at H; have c14b0 : decide (x40_3 < (l0_1.length : Int)) = true := decide_eq_true c14; clear c14
          by_cases c15 : 0 ≤ x40_3
          ·
           rw [if_pos c15] at H; have c15b0 : decide (0 ≤ x40_3) = true := decide_eq_true c15; clear c15
           by_cases c16 : x40_3 < (l0_1.length : Int)
           ·
            rw [if_pos c16] at H; have c16b0 : decide (x40_3 < (l0_1.length : Int)) = true := decide_eq_true c16; clear c16
            by_cases c17 : x40_3 < (l0_3.length : Int)
            ·
             rw [if_pos c17] at H; have c17b0 : decide (x40_3 < (l0_3.length : Int)) = true := decide_eq_true c17; clear c17
             by_cases c18 : ((rd_L5 l0_3 x40_3).length : Int) = ((rd_L4 l0_1 x40_3).length : Int)
             ·
              rw [if_pos c18] at H; have c18b0 : (((rd_L5 l0_3 x40_3).length : Int) == ((rd_L4 l0_1 x40_3).length : Int)) = true := beq_iff_eq.mpr c18; have c18b1 : (((rd_L5 l0_3 x40_3).length : Int) != ((rd_L4 l0_1 x40_3).length : Int)) = false := bne_eq_false_iff_eq.mpr c18; have c18b2 : ((rd_L5 l0_3 x40_3).length == (rd_L4 l0_1 x40_3).length) = true := by first | simpa using c18 | (simp at c18 ⊢; omega)
              clear c18; replace H := Option.bind_eq_some_iff.mp H; obtain ⟨t146, A190, H⟩ := H; replace H : (if t146 = true then (prog_Valid.l0 k3 l0_1 (l0_1.length : Int) (wrap64 (x40_3 + 1)) l0_0 l0_1 l0_2 l0_3 l0_4) else (some 92)) = some r := H; have A19 := Aside0.mk A190; clear A190
              by_cases c20 : t146 = true
              ·
               subst c20; have H1 : (prog_Valid.l0 k3 l0_1 (l0_1.length : Int) (wrap64 (x40_3 + 1)) l0_0 l0_1 l0_2 l0_3 l0_4) = some r := by rw [if_pos rfl] at H; exact H
               clear H; have H := H1; clear H1; have H' := Aside0.mk H; clear H; have p144 : 0 ≤ (x40_3 : Int) := dt_; have q144 : x40_3 < (l0_1.length : Int) := dt_; obtain ⟨ad144, A144_0, c144_0, e144, hx144_0, hl144_0, hi144_0⟩ := at_L4 HR0_1.out x40_3 p144 q144; cases e144; replace hx144_0 := hx_ HB hx144_0; have HR144_0 := Aside0.mk hi144_0; have HC144_0 := Aside0.mk hl144_0; clear hi144_0 hl144_0; replace p144 := eq_true p144; replace q144 := eq_true q144; obtain ⟨z21_0, z21_1, z21_2, z21_3, z21_4, y21_0, y21_1, y21_2, y21_3, y21_4⟩ := blkA5 BK143.out; have p145 : 0 ≤ (x40_3 : Int) := dt_; have q145 : x40_3 < (l0_3.length : Int) := dt_; obtain ⟨ad145, A145_0, c145_0, e145, hx145_0, hl145_0, hi145_0⟩ := at_L5 HR0_3.out x40_3 p145 q145; cases e145; replace hx145_0 := hx_ HB hx145_0; have HR145_0 := Aside0.mk hi145_0; have HC145_0 := Aside0.mk hl145_0; clear hi145_0 hl145_0; replace p145 := eq_true p145; replace q145 := eq_true q145
               go_wp2_with (first | (go_at_call 75; (with_reducible refine (prog_rises__prog_Register.calls k3 _ _ (rd_L4 l0_1 x40_3)  true _ ?side1 ?side2 A19.out).mono ?_); (case side1 => exact cb_ HR144_0); (case side2 => exact HC144_0.out); rintro e w' ⟨rfl, ⟨nd, rfl⟩⟩))
               go_roundg k3
               case measure => have := HJ1.out; have := HJ7.out; have := HK3.out; omega
               case rel => exact ⟨(wrap64 (x40_3 + 1)), ff_, H', ⟨by have := HJ1.out; have := HJ7.out; have := HK3.out; omega⟩, ⟨bk_ BK143⟩, ⟨bel_⟩⟩
              ·
               replace c20 := Bool.eq_false_iff.mpr c20; subst c20; have H1 : (some 92) = some r := by rw [if_neg (show ¬ (false = true) by decide)] at H; exact H
               clear H; have H := H1; clear H1; obtain rfl := Option.some.inj H; have p144 : 0 ≤ (x40_3 : Int) := dt_; have q144 : x40_3 < (l0_1.length : Int) := dt_; obtain ⟨ad144, A144_0, c144_0, e144, hx144_0, hl144_0, hi144_0⟩ := at_L4 HR0_1.out x40_3 p144 q144; cases e144; replace hx144_0 := hx_ HB hx144_0; have HR144_0 := Aside0.mk hi144_0; have HC144_0 := Aside0.mk hl144_0; clear hi144_0 hl144_0; replace p144 := eq_true p144; replace q144 := eq_true q144; obtain ⟨z22_0, z22_1, z22_2, z22_3, z22_4, y22_0, y22_1, y22_2, y22_3, y22_4⟩ := blkA5 BK143.out; have p145 : 0 ≤ (x40_3 : Int) := dt_; have q145 : x40_3 < (l0_3.length : Int) := dt_; obtain ⟨ad145, A145_0, c145_0, e145, hx145_0, hl145_0, hi145_0⟩ := at_L5 HR0_3.out x40_3 p145 q145; cases e145; replace hx145_0 := hx_ HB hx145_0; have HR145_0 := Aside0.mk hi145_0; have HC145_0 := Aside0.mk hl145_0; clear hi145_0 hl145_0; replace p145 := eq_true p145; replace q145 := eq_true q145
               go_wp2_with (first | (go_at_call 75; (with_reducible refine (prog_rises__prog_Register.calls k3 _ _ (rd_L4 l0_1 x40_3)  false _ ?side1 ?side2 A19.out).mono ?_); (case side1 => exact cb_ HR144_0); (case side2 => exact HC144_0.out); rintro e w' ⟨rfl, ⟨nd, rfl⟩⟩))
               go_ret
               exact ⟨ee_, bel_⟩
             ·
              rw [if_neg c18] at H; have c18b0 : (((rd_L5 l0_3 x40_3).length : Int) == ((rd_L4 l0_1 x40_3).length : Int)) = false := beq_eq_false_iff_ne.mpr c18; have c18b1 : (((rd_L5 l0_3 x40_3).length : Int) != ((rd_L4 l0_1 x40_3).length : Int)) = true := bne_iff_ne.mpr c18; have c18b2 : ((rd_L5 l0_3 x40_3).length == (rd_L4 l0_1 x40_3).length) = false := by first | simpa using c18 | (simp at c18 ⊢; omega)
              obtain rfl := Option.some.inj H; have p144 : 0 ≤ (x40_3 : Int) := dt_; have q144 : x40_3 < (l0_1.length : Int) := dt_; obtain ⟨ad144, A144_0, c144_0, e144, hx144_0, hl144_0, hi144_0⟩ := at_L4 HR0_1.out x40_3 p144 q144; cases e144; replace hx144_0 := hx_ HB hx144_0; have HR144_0 := Aside0.mk hi144_0; have HC144_0 := Aside0.mk hl144_0; clear hi144_0 hl144_0; replace p144 := eq_true p144; replace q144 := eq_true q144; obtain ⟨z23_0, z23_1, z23_2, z23_3, z23_4, y23_0, y23_1, y23_2, y23_3, y23_4⟩ := blkA5 BK143.out; have p145 : 0 ≤ (x40_3 : Int) := dt_; have q145 : x40_3 < (l0_3.length : Int) := dt_; obtain ⟨ad145, A145_0, c145_0, e145, hx145_0, hl145_0, hi145_0⟩ := at_L5 HR0_3.out x40_3 p145 q145; cases e145; replace hx145_0 := hx_ HB hx145_0; have HR145_0 := Aside0.mk hi145_0; have HC145_0 := Aside0.mk hl145_0; clear hi145_0 hl145_0; replace p145 := eq_true p145; replace q145 := eq_true q145; go_wp2
              go_ret
              exact ⟨ee_, bel_⟩
            ·
             rw [if_neg c17] at H; exact absurd H (by simp)
           ·
            rw [if_neg c16] at H; exact absurd H (by simp)
          ·
           rw [if_neg c15] at H; exact absurd H (by simp)
         ·
          rw [if_neg c14] at H; have c14b0 : decide (x40_3 < (l0_1.length : Int)) = false := decide_eq_false c14; clear c14; have H' := Aside0.mk H; clear H; obtain ⟨z24_0, z24_1, z24_2, z24_3, z24_4, y24_0, y24_1, y24_2, y24_3, y24_4⟩ := blkA5 BK143.out; go_wp2
          go_loopg [63] k3 (fun kq v63 w' => ∃ (x63_4 : Int), v63 = .int .i64 x63_4 ∧ Aside0 (prog_Valid.l1 kq l0_1 (l0_1.length : Int) x63_4 l0_0 l0_1 l0_2 l0_3 l0_4 = some r) ∧ Aside0 (kq ≤ k3) ∧ Aside0 (w'.heap[gb143]? = some (.cells #[(.slice A0_0 l0_0.length c0_0), (.slice A0_1 l0_1.length c0_1), (.slice A0_2 l0_2.length c0_2), (.slice A0_3 l0_3.length c0_3), (.slice A0_4 l0_4.length c0_4)] 28 (0, 0))) ∧ Aside0 (Below w.heap.size w w'))
          case atStart => exact ⟨(0), ff_, H', ⟨Nat.le_refl _⟩, ⟨bk_ BK143⟩, ⟨bel_⟩⟩
          case round =>
           clear H'; (try clear c14b0); (try clear z24_0 z24_1 z24_2 z24_3 z24_4 y24_0 y24_1 y24_2 y24_3 y24_4); obtain ⟨x63_4, rfl, HA, HK4, BK143, HB⟩ := hrel
           cases gk with
           | zero => exact absurd HA.out (by simp [prog_Valid.l1])
           | succ k4 =>
            have H := HA.out; clear HA; simp only [prog_Valid.l1] at H
            by_cases c25 : x63_4 < (l0_1.length : Int)
            ·
             rw [if_pos c25] at H; have c25b0 : decide (x63_4 < (l0_1.length : Int)) = true := decide_eq_true c25; clear c25
             by_cases c26 : 0 ≤ x63_4
             ·
              rw [if_pos c26] at H; have c26b0 : decide (0 ≤ x63_4) = true := decide_eq_true c26; clear c26
              by_cases c27 : x63_4 < (l0_1.length : Int)
              ·
               rw [if_pos c27] at H; have c27b0 : decide (x63_4 < (l0_1.length : Int)) = true := decide_eq_true c27; clear c27
               by_cases c28 : ((rd_L4 l0_1 x63_4).length : Int) > 8
               ·
                rw [if_pos c28] at H; have c28b0 : decide (8 < ((rd_L4 l0_1 x63_4).length : Int)) = true := decide_eq_true c28; have c28b1 : decide (8 < (rd_L4 l0_1 x63_4).length) = true := decide_eq_true (by omega); clear c28; obtain rfl := Option.some.inj H; have p147 : 0 ≤ (x63_4 : Int) := dt_; have q147 : x63_4 < (l0_1.length : Int) := dt_; obtain ⟨ad147, A147_0, c147_0, e147, hx147_0, hl147_0, hi147_0⟩ := at_L4 HR0_1.out x63_4 p147 q147; cases e147; replace hx147_0 := hx_ HB hx147_0; have HR147_0 := Aside0.mk hi147_0; have HC147_0 := Aside0.mk hl147_0; clear hi147_0 hl147_0; replace p147 := eq_true p147; replace q147 := eq_true q147; go_wp2
                go_ret
                exact ⟨ee_, bel_⟩
               ·
                rw [if_neg c28] at H; have c28b0 : decide (8 < ((rd_L4 l0_1 x63_4).length : Int)) = false := decide_eq_false c28; have c28b1 : decide (8 < (rd_L4 l0_1 x63_4).length) = false := decide_eq_false (by omega); clear c28; have H' := Aside0.mk H; clear H; have p147 : 0 ≤ (x63_4 : Int) := dt_; have q147 : x63_4 < (l0_1.length : Int) := dt_; obtain ⟨ad147, A147_0, c147_0, e147, hx147_0, hl147_0, hi147_0⟩ := at_L4 HR0_1.out x63_4 p147 q147; cases e147; replace hx147_0 := hx_ HB hx147_0; have HR147_0 := Aside0.mk hi147_0; have HC147_0 := Aside0.mk hl147_0; clear hi147_0 hl147_0; replace p147 := eq_true p147; replace q147 := eq_true q147; go_wp2
                go_roundg k4
                case measure => have := HJ1.out; have := HJ7.out; have := HK3.out; have := HK4.out; omega
                case rel => exact ⟨(wrap64 (x63_4 + 1)), ff_, H', ⟨by have := HJ1.out; have := HJ7.out; have := HK3.out; have := HK4.out; omega⟩, ⟨bk_ BK143⟩, ⟨bel_⟩⟩
              ·
               rw [if_neg c27] at H; exact absurd H (by simp)
             ·
              rw [if_neg c26] at H; exact absurd H (by simp)
            ·
             rw [if_neg c25] at H; have c25b0 : decide (x63_4 < (l0_1.length : Int)) = false := decide_eq_false c25; clear c25; have HC29 := Aside0.mk H; clear H
             go_upto_region 17 with (fail)
             go_cut [83] (fun v83 wc => ∃ (kq : Nat) (x83_28 : Bool), v83 = .bool x83_28 ∧ Aside0 (prog_Valid.j4 kq x83_28 l0_0 l0_1 l0_2 l0_3 l0_4 = some r) ∧ Aside0 (kq ≤ k4) ∧ Aside0 (wc.heap[gb143]? = some (.cells #[(.slice A0_0 l0_0.length c0_0), (.slice A0_1 l0_1.length c0_1), (.slice A0_2 l0_2.length c0_2), (.slice A0_3 l0_3.length c0_3), (.slice A0_4 l0_4.length c0_4)] 28 (0, 0))) ∧ Aside0 (Below w.heap.size w wc))
             case first =>
              have H := HC29.out; clear HC29
              by_cases c30 : (l0_4.length : Int) = (l0_2.length : Int)
              ·
               rw [if_pos c30] at H; have c30b0 : ((l0_4.length : Int) == (l0_2.length : Int)) = true := beq_iff_eq.mpr c30; have c30b1 : ((l0_4.length : Int) != (l0_2.length : Int)) = false := bne_eq_false_iff_eq.mpr c30; have c30b2 : (l0_4.length == l0_2.length) = true := by first | simpa using c30 | (simp at c30 ⊢; omega)
               clear c30
               (first | rw [c30b0] | (simp only [i64_w, i32_w]; rw [c30b0]) | skip)
               replace H := Option.bind_eq_some_iff.mp H; obtain ⟨t148, A310, H⟩ := H; replace H : (prog_Valid.j4 k4 (!t148) l0_0 l0_1 l0_2 l0_3 l0_4) = some r := H; have A31 := Aside0.mk A310; clear A310; have H' := Aside0.mk H; clear H; obtain ⟨z32_0, z32_1, z32_2, z32_3, z32_4, y32_0, y32_1, y32_2, y32_3, y32_4⟩ := blkA5 BK143.out
               go_wp2_with (first | (go_at_call 75; (with_reducible refine (prog_rises__lexis_Name.calls k4 _ _ l0_2  t148 _ ?side1 ?side2 A31.out).mono ?_); (case side1 => exact cb_ HR0_2); (case side2 => exact HC0_2.out); rintro e w' ⟨rfl, ⟨nd, rfl⟩⟩))
               go_meet
               case rel => exact ⟨_, (!t148), ff_, H', ⟨by have := HJ1.out; have := HJ7.out; have := HK3.out; have := HK4.out; first | omega | exact Nat.le_refl _⟩, ⟨bk_ BK143⟩, ⟨bel_⟩⟩
              ·
               rw [if_neg c30] at H; have c30b0 : ((l0_4.length : Int) == (l0_2.length : Int)) = false := beq_eq_false_iff_ne.mpr c30; have c30b1 : ((l0_4.length : Int) != (l0_2.length : Int)) = true := bne_iff_ne.mpr c30; have c30b2 : (l0_4.length == l0_2.length) = false := by first | simpa using c30 | (simp at c30 ⊢; omega)
               (first | rw [c30b0] | (simp only [i64_w, i32_w]; rw [c30b0]) | skip)
               have H' := Aside0.mk H; clear H; obtain ⟨z33_0, z33_1, z33_2, z33_3, z33_4, y33_0, y33_1, y33_2, y33_3, y33_4⟩ := blkA5 BK143.out; go_wp2; go_meet
               case rel => exact ⟨_, (true), ff_, H', ⟨by have := HJ1.out; have := HJ7.out; have := HK3.out; have := HK4.out; first | omega | exact Nat.le_refl _⟩, ⟨bk_ BK143⟩, ⟨bel_⟩⟩
             case rest =>
              clear HC29; (try clear c25b0); obtain ⟨kq, x83_28, rfl, HA, HJ28, BK143, HB⟩ := hcut
              cases kq with
              | zero => exact absurd HA.out (by simp [prog_Valid.j4])
              | succ kj28 =>
               have H := HA.out; clear HA; simp only [prog_Valid.j4] at H
               by_cases c34 : x83_28 = true
               ·
                subst c34; have H1 : (some 52) = some r := by rw [if_pos rfl] at H; exact H
                clear H; have H := H1; clear H1; obtain rfl := Option.some.inj H; go_wp2
                go_ret
                exact ⟨ee_, bel_⟩
               ·
                replace c34 := Bool.eq_false_iff.mpr c34; subst c34; have H1 : (if (l0_2.length : Int) > 16 then (some 97) else (prog_Valid.l2 kj28 l0_0 (l0_0.length : Int) 0 l0_0 l0_1 l0_2 l0_3 l0_4)) = some r := by rw [if_neg (show ¬ (false = true) by decide)] at H; exact H
                clear H; have H := H1; clear H1
                by_cases c35 : (l0_2.length : Int) > 16
                ·
                 rw [if_pos c35] at H; have c35b0 : decide (16 < (l0_2.length : Int)) = true := decide_eq_true c35; have c35b1 : decide (16 < l0_2.length) = true := decide_eq_true (by omega); clear c35; obtain rfl := Option.some.inj H; obtain ⟨z36_0, z36_1, z36_2, z36_3, z36_4, y36_0, y36_1, y36_2, y36_3, y36_4⟩ := blkA5 BK143.out; go_wp2
                 go_ret
                 exact ⟨ee_, bel_⟩
                ·
                 rw [if_neg c35] at H; have c35b0 : decide (16 < (l0_2.length : Int)) = false := decide_eq_false c35; have c35b1 : decide (16 < l0_2.length) = false := decide_eq_false (by omega); clear c35; have H' := Aside0.mk H; clear H; obtain ⟨z37_0, z37_1, z37_2, z37_3, z37_4, y37_0, y37_1, y37_2, y37_3, y37_4⟩ := blkA5 BK143.out; go_wp2
                 go_loopg [91] kj28 (fun kq v91 w' => ∃ (x91_6 : Int), v91 = .int .i64 x91_6 ∧ Aside0 (prog_Valid.l2 kq l0_0 (l0_0.length : Int) x91_6 l0_0 l0_1 l0_2 l0_3 l0_4 = some r) ∧ Aside0 (kq ≤ kj28) ∧ Aside0 (w'.heap[gb143]? = some (.cells #[(.slice A0_0 l0_0.length c0_0), (.slice A0_1 l0_1.length c0_1), (.slice A0_2 l0_2.length c0_2), (.slice A0_3 l0_3.length c0_3), (.slice A0_4 l0_4.length c0_4)] 28 (0, 0))) ∧ Aside0 (Below w.heap.size w w'))
                 case atStart => exact ⟨(0), ff_, H', ⟨Nat.le_refl _⟩, ⟨bk_ BK143⟩, ⟨bel_⟩⟩
                 case round =>
                  clear H'; (try clear c34); (try clear c35b0); (try clear c35b1); (try clear z37_0 z37_1 z37_2 z37_3 z37_4 y37_0 y37_1 y37_2 y37_3 y37_4); obtain ⟨x91_6, rfl, HA, HK6, BK143, HB⟩ := hrel
                  cases gk with
                  | zero => exact absurd HA.out (by simp [prog_Valid.l2])
                  | succ k6 =>
                   have H := HA.out; clear HA; simp only [prog_Valid.l2] at H
                   by_cases c38 : x91_6 < (l0_0.length : Int)
                   ·
                    rw [if_pos c38] at H; have c38b0 : decide (x91_6 < (l0_0.length : Int)) = true := decide_eq_true c38; clear c38
                    by_cases c39 : 0 ≤ x91_6
                    ·
                     rw [if_pos c39] at H; have c39b0 : decide (0 ≤ x91_6) = true := decide_eq_true c39; clear c39
                     by_cases c40 : x91_6 < (l0_0.length : Int)
                     ·
                      rw [if_pos c40] at H; have c40b0 : decide (x91_6 < (l0_0.length : Int)) = true := decide_eq_true c40; clear c40; have H' := Aside0.mk H; clear H; have p150 : 0 ≤ (x91_6 : Int) := dt_; have q150 : x91_6 < (l0_0.length : Int) := dt_; obtain ⟨ad150, A150_0, c150_0, e150, hx150_0, hl150_0, hi150_0⟩ := at_L3 HR0_0.out x91_6 p150 q150; cases e150; replace hx150_0 := hx_ HB hx150_0; have HR150_0 := Aside0.mk hi150_0; have HC150_0 := Aside0.mk hl150_0; clear hi150_0 hl150_0; replace p150 := eq_true p150; replace q150 := eq_true q150; go_wp2
                      go_loopg [98] k6 (fun kq v98 w' => ∃ (x98_7 : Int), v98 = .int .i64 x98_7 ∧ Aside0 (prog_Valid.l3 kq x91_6 l0_0 (l0_0.length : Int) x91_6 (rd_L3 l0_0 x91_6) ((rd_L3 l0_0 x91_6).length : Int) x98_7 l0_0 l0_1 l0_2 l0_3 l0_4 = some r) ∧ Aside0 (kq ≤ k6) ∧ Aside0 (w'.heap[gb143]? = some (.cells #[(.slice (some ad150) l0_0.length c0_0), (.slice A0_1 l0_1.length c0_1), (.slice A0_2 l0_2.length c0_2), (.slice A0_3 l0_3.length c0_3), (.slice A0_4 l0_4.length c0_4)] 28 (0, 0))) ∧ Aside0 (Below w.heap.size w w'))
                      case atStart => exact ⟨(0), ff_, H', ⟨Nat.le_refl _⟩, ⟨bk_ BK143⟩, ⟨bel_⟩⟩
                      case round =>
                       clear H'; (try clear c38b0); (try clear c39b0); (try clear c40b0); (try clear hx150_0); (try clear p150); (try clear q150); obtain ⟨x98_7, rfl, HA, HK7, BK143, HB⟩ := hrel
                       cases gk with
                       | zero => exact absurd HA.out (by simp [prog_Valid.l3])
                       | succ k7 =>
                        have H := HA.out; clear HA; simp only [prog_Valid.l3] at H
                        by_cases c41 : x98_7 < ((rd_L3 l0_0 x91_6).length : Int)
                        ·
                         rw [if_pos c41] at H; have c41b0 : decide (x98_7 < ((rd_L3 l0_0 x91_6).length : Int)) = true := decide_eq_true c41; clear c41
                         by_cases c42 : 0 ≤ x98_7
                         ·
                          rw [if_pos c42] at H; have c42b0 : decide (0 ≤ x98_7) = true := decide_eq_true c42; clear c42
                          by_cases c43 : x98_7 < ((rd_L3 l0_0 x91_6).length : Int)
                          ·
                           rw [if_pos c43] at H; have c43b0 : decide (x98_7 < ((rd_L3 l0_0 x91_6).length : Int)) = true := decide_eq_true c43; clear c43
                           by_cases c44 : 0 ≤ x91_6
                           ·
                            rw [if_pos c44] at H; have c44b0 : decide (0 ≤ x91_6) = true := decide_eq_true c44; clear c44
                            by_cases c45 : x91_6 < (l0_1.length : Int)
                            ·
                             rw [if_pos c45] at H; have c45b0 : decide (x91_6 < (l0_1.length : Int)) = true := decide_eq_true c45; clear c45; replace H := Option.bind_eq_some_iff.mp H; obtain ⟨t154, A460, H⟩ := H; replace H : (if t154 = true then (prog_Valid.l3 k7 x91_6 l0_0 (l0_0.length : Int) x91_6 (rd_L3 l0_0 x91_6) ((rd_L3 l0_0 x91_6).length : Int) (wrap64 (x98_7 + 1)) l0_0 l0_1 l0_2 l0_3 l0_4) else (some 93)) = some r := H; have A46 := Aside0.mk A460; clear A460
                             by_cases c47 : t154 = true
                             ·
                              subst c47; have H1 : (prog_Valid.l3 k7 x91_6 l0_0 (l0_0.length : Int) x91_6 (rd_L3 l0_0 x91_6) ((rd_L3 l0_0 x91_6).length : Int) (wrap64 (x98_7 + 1)) l0_0 l0_1 l0_2 l0_3 l0_4) = some r := by rw [if_pos rfl] at H; exact H
                              clear H; have H := H1; clear H1; have H' := Aside0.mk H; clear H; have p151 : 0 ≤ (x98_7 : Int) := dt_; have q151 : x98_7 < ((rd_L3 l0_0 x91_6).length : Int) := dt_; obtain ⟨ad151, e151, hx151_0, hx151_1, hx151_2, hx151_3, hx151_4⟩ := at_T87 HR150_0.out x98_7 p151 q151; cases e151; replace hx151_0 := hx_ HB hx151_0; replace hx151_1 := hx_ HB hx151_1; replace hx151_2 := hx_ HB hx151_2; replace hx151_3 := hx_ HB hx151_3; replace hx151_4 := hx_ HB hx151_4; replace p151 := eq_true p151; replace q151 := eq_true q151
                              try go_wp2_with (first | ((with_reducible refine gate_dst (N := 10) rfl ?_); (try (refine gate_guard (by rfl) ?_; dsimp only)); refine bx_ (N := 10) (cs := #[.int .i64 0, .int .i64 0, .int .i64 0, .int .i64 0, .int .i64 0]) (t := 87) ?_; intro gb152 hg w48 hbox hb; have n0_ := bb_ BK143 hb; have n1_ := bs_ w hb; have n2_ := Aside0.mk (hbox); have n3_ := gl_ w hg; have n4_ := n3_; have n5_ := nl_ BK143 hg; have n6_ := ng_ BK143 hg; clear BK143; clear HB; have BK143 := n0_; have HB := n1_; have BK152 := n2_; have GW152 := n3_; have GE152 := n4_; have NB143_152 := n5_; have NB152_143 := n6_; clear n0_ n1_ n2_ n3_ n4_ n5_ n6_; clear hb hbox hg; have hnb49 := NB152_143.out; have hnc49 := NB143_152.out; obtain ⟨z50_0, z50_1, z50_2, z50_3, z50_4, y50_0, y50_1, y50_2, y50_3, y50_4⟩ := blkA5 BK152.out))
                              have n0_ : Aside0 ((((((w48.setCell ⟨gb152, 0, none⟩ (.int .i64 ((rd_T87 (rd_L3 l0_0 x91_6) x98_7).f0))).setCell ⟨gb152, 1, none⟩ (.int .i64 ((rd_T87 (rd_L3 l0_0 x91_6) x98_7).f1))).setCell ⟨gb152, 2, none⟩ (.int .i64 ((rd_T87 (rd_L3 l0_0 x91_6) x98_7).f2))).setCell ⟨gb152, 3, none⟩ (.int .i64 ((rd_T87 (rd_L3 l0_0 x91_6) x98_7).f3))).setCell ⟨gb152, 4, none⟩ (.int .i64 ((rd_T87 (rd_L3 l0_0 x91_6) x98_7).f4))).heap[gb143]? = some (.cells #[.slice (some ad150) l0_0.length c0_0, .slice A0_1 l0_1.length c0_1, .slice A0_2 l0_2.length c0_2, .slice A0_3 l0_3.length c0_3, .slice A0_4 l0_4.length c0_4] 28 (0, 0))) := ⟨bk_ BK143⟩; have n1_ : Aside0 ((((((w48.setCell ⟨gb152, 0, none⟩ (.int .i64 ((rd_T87 (rd_L3 l0_0 x91_6) x98_7).f0))).setCell ⟨gb152, 1, none⟩ (.int .i64 ((rd_T87 (rd_L3 l0_0 x91_6) x98_7).f1))).setCell ⟨gb152, 2, none⟩ (.int .i64 ((rd_T87 (rd_L3 l0_0 x91_6) x98_7).f2))).setCell ⟨gb152, 3, none⟩ (.int .i64 ((rd_T87 (rd_L3 l0_0 x91_6) x98_7).f3))).setCell ⟨gb152, 4, none⟩ (.int .i64 ((rd_T87 (rd_L3 l0_0 x91_6) x98_7).f4))).heap[gb152]? = some (.cells #[.int .i64 ((rd_T87 (rd_L3 l0_0 x91_6) x98_7).f0), .int .i64 ((rd_T87 (rd_L3 l0_0 x91_6) x98_7).f1), .int .i64 ((rd_T87 (rd_L3 l0_0 x91_6) x98_7).f2), .int .i64 ((rd_T87 (rd_L3 l0_0 x91_6) x98_7).f3), .int .i64 ((rd_T87 (rd_L3 l0_0 x91_6) x98_7).f4)] 87 (0, 0))) := ⟨by (with_reducible repeat (first | refine blk_drewN ?_ _ | refine blk_drew ?_ | refine blk_alloc ?_ _)); refine blk_put (cs := #[.int .i64 ((rd_T87 (rd_L3 l0_0 x91_6) x98_7).f0), .int .i64 ((rd_T87 (rd_L3 l0_0 x91_6) x98_7).f1), .int .i64 ((rd_T87 (rd_L3 l0_0 x91_6) x98_7).f2), .int .i64 ((rd_T87 (rd_L3 l0_0 x91_6) x98_7).f3), .int .i64 0]) ?_ 4 _ rfl; (with_reducible repeat (first | refine blk_drewN ?_ _ | refine blk_drew ?_ | refine blk_alloc ?_ _)); refine blk_put (cs := #[.int .i64 ((rd_T87 (rd_L3 l0_0 x91_6) x98_7).f0), .int .i64 ((rd_T87 (rd_L3 l0_0 x91_6) x98_7).f1), .int .i64 ((rd_T87 (rd_L3 l0_0 x91_6) x98_7).f2), .int .i64 0, .int .i64 0]) ?_ 3 _ rfl; (with_reducible repeat (first | refine blk_drewN ?_ _ | refine blk_drew ?_ | refine blk_alloc ?_ _)); refine blk_put (cs := #[.int .i64 ((rd_T87 (rd_L3 l0_0 x91_6) x98_7).f0), .int .i64 ((rd_T87 (rd_L3 l0_0 x91_6) x98_7).f1), .int .i64 0, .int .i64 0, .int .i64 0]) ?_ 2 _ rfl; (with_reducible repeat (first | refine blk_drewN ?_ _ | refine blk_drew ?_ | refine blk_alloc ?_ _)); refine blk_put (cs := #[.int .i64 ((rd_T87 (rd_L3 l0_0 x91_6) x98_7).f0), .int .i64 0, .int .i64 0, .int .i64 0, .int .i64 0]) ?_ 1 _ rfl; (with_reducible repeat (first | refine blk_drewN ?_ _ | refine blk_drew ?_ | refine blk_alloc ?_ _)); refine blk_put (cs := #[.int .i64 0, .int .i64 0, .int .i64 0, .int .i64 0, .int .i64 0]) ?_ 0 _ rfl; (with_reducible repeat (first | refine blk_drewN ?_ _ | refine blk_drew ?_ | refine blk_alloc ?_ _)); exact BK152.out⟩; have n2_ : Aside0 (Below w.heap.size w (((((w48.setCell ⟨gb152, 0, none⟩ (.int .i64 ((rd_T87 (rd_L3 l0_0 x91_6) x98_7).f0))).setCell ⟨gb152, 1, none⟩ (.int .i64 ((rd_T87 (rd_L3 l0_0 x91_6) x98_7).f1))).setCell ⟨gb152, 2, none⟩ (.int .i64 ((rd_T87 (rd_L3 l0_0 x91_6) x98_7).f2))).setCell ⟨gb152, 3, none⟩ (.int .i64 ((rd_T87 (rd_L3 l0_0 x91_6) x98_7).f3))).setCell ⟨gb152, 4, none⟩ (.int .i64 ((rd_T87 (rd_L3 l0_0 x91_6) x98_7).f4)))) := ⟨bel_⟩
                              (try clear BK143)
                              (try clear BK152)
                              (try clear HB)
                              generalize (((((w48.setCell ⟨gb152, 0, none⟩ (.int .i64 ((rd_T87 (rd_L3 l0_0 x91_6) x98_7).f0))).setCell ⟨gb152, 1, none⟩ (.int .i64 ((rd_T87 (rd_L3 l0_0 x91_6) x98_7).f1))).setCell ⟨gb152, 2, none⟩ (.int .i64 ((rd_T87 (rd_L3 l0_0 x91_6) x98_7).f2))).setCell ⟨gb152, 3, none⟩ (.int .i64 ((rd_T87 (rd_L3 l0_0 x91_6) x98_7).f3))).setCell ⟨gb152, 4, none⟩ (.int .i64 ((rd_T87 (rd_L3 l0_0 x91_6) x98_7).f4))) = w51 at n0_ n1_ n2_ ⊢
                              have BK143 := n0_; have BK152 := n1_; have HB := n2_; clear n0_ n1_ n2_; replace BK143 := Aside0.mk (blk_drew BK143.out); replace BK152 := Aside0.mk (blk_drew BK152.out); replace HB := Aside0.mk (below_drew1 HB.out); have p153 : 0 ≤ (x91_6 : Int) := dt_; have q153 : x91_6 < (l0_1.length : Int) := dt_; obtain ⟨ad153, A153_0, c153_0, e153, hx153_0, hl153_0, hi153_0⟩ := at_L4 HR0_1.out x91_6 p153 q153; have hw153_0 := hx153_0; cases e153; replace hx153_0 := hx_ HB hx153_0; have HR153_0 := Aside0.mk hi153_0; have HC153_0 := Aside0.mk hl153_0; clear hi153_0 hl153_0; replace p153 := eq_true p153; replace q153 := eq_true q153; refine start_ (n := 10) (S := fun w' => w'.cell? ⟨gb152, 0, none⟩ = some (.int .i64 ((rd_T87 (rd_L3 l0_0 x91_6) x98_7).f0)) ∧ w'.cell? ⟨gb152, 1, none⟩ = some (.int .i64 ((rd_T87 (rd_L3 l0_0 x91_6) x98_7).f1)) ∧ w'.cell? ⟨gb152, 2, none⟩ = some (.int .i64 ((rd_T87 (rd_L3 l0_0 x91_6) x98_7).f2)) ∧ w'.cell? ⟨gb152, 3, none⟩ = some (.int .i64 ((rd_T87 (rd_L3 l0_0 x91_6) x98_7).f3)) ∧ w'.cell? ⟨gb152, 4, none⟩ = some (.int .i64 ((rd_T87 (rd_L3 l0_0 x91_6) x98_7).f4)) ∧ w'.cell? ⟨gb143, 0, none⟩ = some (.slice (some ad150) l0_0.length c0_0) ∧ w'.cell? ⟨gb143, 1, none⟩ = some (.slice (some ad153) l0_1.length c0_1) ∧ w'.cell? ⟨gb143, 2, none⟩ = some (.slice A0_2 l0_2.length c0_2) ∧ w'.cell? ⟨gb143, 3, none⟩ = some (.slice A0_3 l0_3.length c0_3) ∧ w'.cell? ⟨gb143, 4, none⟩ = some (.slice A0_4 l0_4.length c0_4) ∧ w'.cell? (ad153.add (x91_6).toNat) = some (.slice A153_0 (rd_L4 l0_1 x91_6).length c153_0)) (ds := []) #[false, false, false, false, false, false, false, false, false, false] (by kernel_rfl) rfl rfl ⟨(blk_cell BK152.out 0).trans rfl, (blk_cell BK152.out 1).trans rfl, (blk_cell BK152.out 2).trans rfl, (blk_cell BK152.out 3).trans rfl, (blk_cell BK152.out 4).trans rfl, (blk_cell BK143.out 0).trans rfl, (blk_cell BK143.out 1).trans rfl, (blk_cell BK143.out 2).trans rfl, (blk_cell BK143.out 3).trans rfl, (blk_cell BK143.out 4).trans rfl, ((HB.out.cell (World.block_lt_of_cell? w _ hw153_0)).trans hw153_0)⟩ (fun hHeld => ?_); refine with_tabW prog_Valid.tab27 prog_Valid.bits27 (fun HT_ HW_ => ?_)
                              generalize w51.drew = w52 at BK143 BK152 HB HR153_0 hx153_0 hHeld ⊢
                              refine pure_ (i := 1) (N := some 103) (v := ?_) (a' := ?_) #[false, true, false, false, false, false, false, false, false, false] rfl rfl (any_of HT_.out (by kernel_rfl)) (fun _ _ _ h => h) (Or.inl ⟨by rfl, ?_⟩) ?_ ?_; rotate_left
                              ·
                               intro w'
                               go_simp
                               with_reducible rfl
                              rotate_left
                              ·
                               simp only [Act.put, put_, i64_w, i32_w]
                               rfl
                              refine pure_ (i := 3) (N := some 105) (v := ?_) (a' := ?_) #[false, true, false, true, false, false, false, false, false, false] rfl rfl (any_of HT_.out (by kernel_rfl)) (fun _ _ _ h => h) (Or.inl ⟨by rfl, ?_⟩) ?_ ?_; rotate_left
                              ·
                               intro w'
                               go_simp
                               with_reducible rfl
                              rotate_left
                              ·
                               simp only [Act.put, put_, i64_w, i32_w]
                               rfl
                              refine pure_ (i := 6) (N := some 108) (v := ?_) (a' := ?_) #[false, true, false, true, false, false, true, false, false, false] rfl rfl (any_of HT_.out (by kernel_rfl)) (fun _ _ _ h => h) (Or.inl ⟨by rfl, ?_⟩) ?_ ?_; rotate_left
                              ·
                               intro w'
                               go_simp
                               with_reducible rfl
                              rotate_left
                              ·
                               simp only [Act.put, put_, i64_w, i32_w]
                               rfl
                              refine take_ (i := 0) (N := some 102) (v := ?_) (a' := ?_) #[true, true, false, true, false, false, true, false, false, false] rfl rfl (take_ofW HT_.out HW_.out (by kernel_rfl)) (fun _ _ _ h => h) (Or.inl ⟨by rfl, ?_⟩) hHeld ?_ ?_; rotate_left
                              ·
                               rintro w' ⟨s0, s1, s2, s3, s4, s5, s6, s7, s8, s9, s10⟩
                               go_simp
                               with_reducible rfl
                              rotate_left
                              ·
                               simp only [Act.put, put_, i64_w, i32_w]
                               rfl
                              refine take_ (i := 2) (N := some 104) (v := ?_) (a' := ?_) #[true, true, true, true, false, false, true, false, false, false] rfl rfl (take_ofW HT_.out HW_.out (by kernel_rfl)) (fun _ _ _ h => h) (Or.inl ⟨by rfl, ?_⟩) hHeld ?_ ?_; rotate_left
                              ·
                               rintro w' ⟨s0, s1, s2, s3, s4, s5, s6, s7, s8, s9, s10⟩
                               go_simp
                               with_reducible rfl
                              rotate_left
                              ·
                               simp only [Act.put, put_, i64_w, i32_w]
                               rfl
                              refine pure_ (i := 4) (N := some 106) (v := ?_) (a' := ?_) #[true, true, true, true, true, false, true, false, false, false] rfl rfl (any_of HT_.out (by kernel_rfl)) (fun _ _ _ h => h) (Or.inl ⟨by rfl, ?_⟩) ?_ ?_; rotate_left
                              ·
                               intro w'
                               go_simp
                               with_reducible rfl
                              rotate_left
                              ·
                               simp only [Act.put, put_, i64_w, i32_w]
                               rfl
                              refine take_ (i := 5) (N := some 107) (v := ?_) (a' := ?_) #[true, true, true, true, true, true, true, false, false, false] rfl rfl (take_ofW HT_.out HW_.out (by kernel_rfl)) (fun _ _ _ h => h) (Or.inl ⟨by rfl, ?_⟩) hHeld ?_ ?_; rotate_left
                              ·
                               rintro w' ⟨s0, s1, s2, s3, s4, s5, s6, s7, s8, s9, s10⟩
                               go_simp
                               with_reducible rfl
                              rotate_left
                              ·
                               simp only [Act.put, put_, i64_w, i32_w]
                               rfl
                              refine take_ (i := 7) (N := some 109) (v := ?_) (a' := ?_) #[true, true, true, true, true, true, true, true, false, false] rfl rfl (take_ofW HT_.out HW_.out (by kernel_rfl)) (fun _ _ _ h => h) (Or.inl ⟨by rfl, ?_⟩) hHeld ?_ ?_; rotate_left
                              ·
                               rintro w' ⟨s0, s1, s2, s3, s4, s5, s6, s7, s8, s9, s10⟩
                               go_simp
                               with_reducible rfl
                              rotate_left
                              ·
                               simp only [Act.put, put_, i64_w, i32_w]
                               rfl
                              refine one_ (i := 8) (N := some 110) #[true, true, true, true, true, true, true, true, true, false] rfl rfl (one_of HT_.out (by kernel_rfl)) (by decide) (fun K hK => ?_); refine goes_ Try.func78 (by kernel_rfl) rfl #[.agg #[.int .i64 ((rd_T87 (rd_L3 l0_0 x91_6) x98_7).f0), .int .i64 ((rd_T87 (rd_L3 l0_0 x91_6) x98_7).f1), .int .i64 ((rd_T87 (rd_L3 l0_0 x91_6) x98_7).f2), .int .i64 ((rd_T87 (rd_L3 l0_0 x91_6) x98_7).f3), .int .i64 ((rd_T87 (rd_L3 l0_0 x91_6) x98_7).f4)], .slice A153_0 (rd_L4 l0_1 x91_6).length c153_0, .slice A0_2 l0_2.length c0_2] (by rfl) rfl rfl ag_ ?_
                              with_reducible refine (prog_fits.calls k7 ((rd_T87 (rd_L3 l0_0 x91_6) x98_7).f0) ((rd_T87 (rd_L3 l0_0 x91_6) x98_7).f1) ((rd_T87 (rd_L3 l0_0 x91_6) x98_7).f2) ((rd_T87 (rd_L3 l0_0 x91_6) x98_7).f3) ((rd_T87 (rd_L3 l0_0 x91_6) x98_7).f4) _ _ (rd_L4 l0_1 x91_6) _ _ l0_2 true _ ?side1 ?side2 ?side3 ?side4 A46.out).mono ?_
                              (case side1 => exact cb_ HR153_0)
                              (case side2 => exact HC153_0.out)
                              (case side3 => exact cb_ HR0_2)
                              (case side4 => exact HC0_2.out)
                              rintro e w53 ⟨rfl, hb⟩
                              refine ⟨_, rfl, ?_⟩; replace BK143 := bb_ BK143 hb; replace BK152 := bb_ BK152 hb; replace HB := bs_ w hb
                              (try clear hb)
                              (try clear hb2)
                              (try clear hk)
                              (try clear hi)
                              refine hK.out _ _ ⟨(blk_cell BK152.out 0).trans rfl, (blk_cell BK152.out 1).trans rfl, (blk_cell BK152.out 2).trans rfl, (blk_cell BK152.out 3).trans rfl, (blk_cell BK152.out 4).trans rfl, (blk_cell BK143.out 0).trans rfl, (blk_cell BK143.out 1).trans rfl, (blk_cell BK143.out 2).trans rfl, (blk_cell BK143.out 3).trans rfl, (blk_cell BK143.out 4).trans rfl, ((HB.out.cell (World.block_lt_of_cell? w _ hw153_0)).trans hw153_0)⟩ (fun hHeld => ?_); clear hK K; refine norm_ (a' := ?_) ?_ ?_; rotate_left
                              ·
                               show Act.put _ (some 110) _ = _
                               simp only [Act.put, put_, i64_w, i32_w]
                               rfl
                              refine pure_ (i := 9) (N := some 111) (v := ?_) (a' := ?_) #[true, true, true, true, true, true, true, true, true, true] rfl rfl (any_of HT_.out (by kernel_rfl)) (fun _ _ _ h => h) (Or.inl ⟨by rfl, ?_⟩) ?_ ?_; rotate_left
                              ·
                               intro w'
                               go_simp
                               with_reducible rfl
                              rotate_left
                              ·
                               simp only [Act.put, put_, i64_w, i32_w]
                               rfl
                              refine done_ (done_of HT_.out (by kernel_rfl)) ?_
                              try go_wp2
                              go_roundg k7
                              case measure => have := HJ1.out; have := HJ7.out; have := HK3.out; have := HK4.out; have := HJ28.out; have := HK6.out; have := HK7.out; omega
                              case rel => exact ⟨(wrap64 (x98_7 + 1)), ff_, H', ⟨by have := HJ1.out; have := HJ7.out; have := HK3.out; have := HK4.out; have := HJ28.out; have := HK6.out; have := HK7.out; omega⟩, ⟨bk_ BK143⟩, ⟨bel_⟩⟩
                             ·
                              replace c47 := Bool.eq_false_iff.mpr c47; subst c47; have H1 : (some 93) = some r := by rw [if_neg (show ¬ (false = true) by decide)] at H; exact H
                              clear H; have H := H1; clear H1; obtain rfl := Option.some.inj H; have p151 : 0 ≤ (x98_7 : Int) := dt_; have q151 : x98_7 < ((rd_L3 l0_0 x91_6).length : Int) := dt_; obtain ⟨ad151, e151, hx151_0, hx151_1, hx151_2, hx151_3, hx151_4⟩ := at_T87 HR150_0.out x98_7 p151 q151; cases e151; replace hx151_0 := hx_ HB hx151_0; replace hx151_1 := hx_ HB hx151_1; replace hx151_2 := hx_ HB hx151_2; replace hx151_3 := hx_ HB hx151_3; replace hx151_4 := hx_ HB hx151_4; replace p151 := eq_true p151; replace q151 := eq_true q151
                              try go_wp2_with (first | ((with_reducible refine gate_dst (N := 10) rfl ?_); (try (refine gate_guard (by rfl) ?_; dsimp only)); refine bx_ (N := 10) (cs := #[.int .i64 0, .int .i64 0, .int .i64 0, .int .i64 0, .int .i64 0]) (t := 87) ?_; intro gb152 hg w54 hbox hb; have n0_ := bb_ BK143 hb; have n1_ := bs_ w hb; have n2_ := Aside0.mk (hbox); have n3_ := gl_ w hg; have n4_ := n3_; have n5_ := nl_ BK143 hg; have n6_ := ng_ BK143 hg; clear BK143; clear HB; have BK143 := n0_; have HB := n1_; have BK152 := n2_; have GW152 := n3_; have GE152 := n4_; have NB143_152 := n5_; have NB152_143 := n6_; clear n0_ n1_ n2_ n3_ n4_ n5_ n6_; clear hb hbox hg; have hnb55 := NB152_143.out; have hnc55 := NB143_152.out; obtain ⟨z56_0, z56_1, z56_2, z56_3, z56_4, y56_0, y56_1, y56_2, y56_3, y56_4⟩ := blkA5 BK152.out))
                              have n0_ : Aside0 ((((((w54.setCell ⟨gb152, 0, none⟩ (.int .i64 ((rd_T87 (rd_L3 l0_0 x91_6) x98_7).f0))).setCell ⟨gb152, 1, none⟩ (.int .i64 ((rd_T87 (rd_L3 l0_0 x91_6) x98_7).f1))).setCell ⟨gb152, 2, none⟩ (.int .i64 ((rd_T87 (rd_L3 l0_0 x91_6) x98_7).f2))).setCell ⟨gb152, 3, none⟩ (.int .i64 ((rd_T87 (rd_L3 l0_0 x91_6) x98_7).f3))).setCell ⟨gb152, 4, none⟩ (.int .i64 ((rd_T87 (rd_L3 l0_0 x91_6) x98_7).f4))).heap[gb143]? = some (.cells #[.slice (some ad150) l0_0.length c0_0, .slice A0_1 l0_1.length c0_1, .slice A0_2 l0_2.length c0_2, .slice A0_3 l0_3.length c0_3, .slice A0_4 l0_4.length c0_4] 28 (0, 0))) := ⟨bk_ BK143⟩; have n1_ : Aside0 ((((((w54.setCell ⟨gb152, 0, none⟩ (.int .i64 ((rd_T87 (rd_L3 l0_0 x91_6) x98_7).f0))).setCell ⟨gb152, 1, none⟩ (.int .i64 ((rd_T87 (rd_L3 l0_0 x91_6) x98_7).f1))).setCell ⟨gb152, 2, none⟩ (.int .i64 ((rd_T87 (rd_L3 l0_0 x91_6) x98_7).f2))).setCell ⟨gb152, 3, none⟩ (.int .i64 ((rd_T87 (rd_L3 l0_0 x91_6) x98_7).f3))).setCell ⟨gb152, 4, none⟩ (.int .i64 ((rd_T87 (rd_L3 l0_0 x91_6) x98_7).f4))).heap[gb152]? = some (.cells #[.int .i64 ((rd_T87 (rd_L3 l0_0 x91_6) x98_7).f0), .int .i64 ((rd_T87 (rd_L3 l0_0 x91_6) x98_7).f1), .int .i64 ((rd_T87 (rd_L3 l0_0 x91_6) x98_7).f2), .int .i64 ((rd_T87 (rd_L3 l0_0 x91_6) x98_7).f3), .int .i64 ((rd_T87 (rd_L3 l0_0 x91_6) x98_7).f4)] 87 (0, 0))) := ⟨by (with_reducible repeat (first | refine blk_drewN ?_ _ | refine blk_drew ?_ | refine blk_alloc ?_ _)); refine blk_put (cs := #[.int .i64 ((rd_T87 (rd_L3 l0_0 x91_6) x98_7).f0), .int .i64 ((rd_T87 (rd_L3 l0_0 x91_6) x98_7).f1), .int .i64 ((rd_T87 (rd_L3 l0_0 x91_6) x98_7).f2), .int .i64 ((rd_T87 (rd_L3 l0_0 x91_6) x98_7).f3), .int .i64 0]) ?_ 4 _ rfl; (with_reducible repeat (first | refine blk_drewN ?_ _ | refine blk_drew ?_ | refine blk_alloc ?_ _)); refine blk_put (cs := #[.int .i64 ((rd_T87 (rd_L3 l0_0 x91_6) x98_7).f0), .int .i64 ((rd_T87 (rd_L3 l0_0 x91_6) x98_7).f1), .int .i64 ((rd_T87 (rd_L3 l0_0 x91_6) x98_7).f2), .int .i64 0, .int .i64 0]) ?_ 3 _ rfl; (with_reducible repeat (first | refine blk_drewN ?_ _ | refine blk_drew ?_ | refine blk_alloc ?_ _)); refine blk_put (cs := #[.int .i64 ((rd_T87 (rd_L3 l0_0 x91_6) x98_7).f0), .int .i64 ((rd_T87 (rd_L3 l0_0 x91_6) x98_7).f1), .int .i64 0, .int .i64 0, .int .i64 0]) ?_ 2 _ rfl; (with_reducible repeat (first | refine blk_drewN ?_ _ | refine blk_drew ?_ | refine blk_alloc ?_ _)); refine blk_put (cs := #[.int .i64 ((rd_T87 (rd_L3 l0_0 x91_6) x98_7).f0), .int .i64 0, .int .i64 0, .int .i64 0, .int .i64 0]) ?_ 1 _ rfl; (with_reducible repeat (first | refine blk_drewN ?_ _ | refine blk_drew ?_ | refine blk_alloc ?_ _)); refine blk_put (cs := #[.int .i64 0, .int .i64 0, .int .i64 0, .int .i64 0, .int .i64 0]) ?_ 0 _ rfl; (with_reducible repeat (first | refine blk_drewN ?_ _ | refine blk_drew ?_ | refine blk_alloc ?_ _)); exact BK152.out⟩; have n2_ : Aside0 (Below w.heap.size w (((((w54.setCell ⟨gb152, 0, none⟩ (.int .i64 ((rd_T87 (rd_L3 l0_0 x91_6) x98_7).f0))).setCell ⟨gb152, 1, none⟩ (.int .i64 ((rd_T87 (rd_L3 l0_0 x91_6) x98_7).f1))).setCell ⟨gb152, 2, none⟩ (.int .i64 ((rd_T87 (rd_L3 l0_0 x91_6) x98_7).f2))).setCell ⟨gb152, 3, none⟩ (.int .i64 ((rd_T87 (rd_L3 l0_0 x91_6) x98_7).f3))).setCell ⟨gb152, 4, none⟩ (.int .i64 ((rd_T87 (rd_L3 l0_0 x91_6) x98_7).f4)))) := ⟨bel_⟩
                              (try clear BK143)
                              (try clear BK152)
                              (try clear HB)
                              generalize (((((w54.setCell ⟨gb152, 0, none⟩ (.int .i64 ((rd_T87 (rd_L3 l0_0 x91_6) x98_7).f0))).setCell ⟨gb152, 1, none⟩ (.int .i64 ((rd_T87 (rd_L3 l0_0 x91_6) x98_7).f1))).setCell ⟨gb152, 2, none⟩ (.int .i64 ((rd_T87 (rd_L3 l0_0 x91_6) x98_7).f2))).setCell ⟨gb152, 3, none⟩ (.int .i64 ((rd_T87 (rd_L3 l0_0 x91_6) x98_7).f3))).setCell ⟨gb152, 4, none⟩ (.int .i64 ((rd_T87 (rd_L3 l0_0 x91_6) x98_7).f4))) = w57 at n0_ n1_ n2_ ⊢
                              have BK143 := n0_; have BK152 := n1_; have HB := n2_; clear n0_ n1_ n2_; replace BK143 := Aside0.mk (blk_drew BK143.out); replace BK152 := Aside0.mk (blk_drew BK152.out); replace HB := Aside0.mk (below_drew1 HB.out); have p153 : 0 ≤ (x91_6 : Int) := dt_; have q153 : x91_6 < (l0_1.length : Int) := dt_; obtain ⟨ad153, A153_0, c153_0, e153, hx153_0, hl153_0, hi153_0⟩ := at_L4 HR0_1.out x91_6 p153 q153; have hw153_0 := hx153_0; cases e153; replace hx153_0 := hx_ HB hx153_0; have HR153_0 := Aside0.mk hi153_0; have HC153_0 := Aside0.mk hl153_0; clear hi153_0 hl153_0; replace p153 := eq_true p153; replace q153 := eq_true q153; refine start_ (n := 10) (S := fun w' => w'.cell? ⟨gb152, 0, none⟩ = some (.int .i64 ((rd_T87 (rd_L3 l0_0 x91_6) x98_7).f0)) ∧ w'.cell? ⟨gb152, 1, none⟩ = some (.int .i64 ((rd_T87 (rd_L3 l0_0 x91_6) x98_7).f1)) ∧ w'.cell? ⟨gb152, 2, none⟩ = some (.int .i64 ((rd_T87 (rd_L3 l0_0 x91_6) x98_7).f2)) ∧ w'.cell? ⟨gb152, 3, none⟩ = some (.int .i64 ((rd_T87 (rd_L3 l0_0 x91_6) x98_7).f3)) ∧ w'.cell? ⟨gb152, 4, none⟩ = some (.int .i64 ((rd_T87 (rd_L3 l0_0 x91_6) x98_7).f4)) ∧ w'.cell? ⟨gb143, 0, none⟩ = some (.slice (some ad150) l0_0.length c0_0) ∧ w'.cell? ⟨gb143, 1, none⟩ = some (.slice (some ad153) l0_1.length c0_1) ∧ w'.cell? ⟨gb143, 2, none⟩ = some (.slice A0_2 l0_2.length c0_2) ∧ w'.cell? ⟨gb143, 3, none⟩ = some (.slice A0_3 l0_3.length c0_3) ∧ w'.cell? ⟨gb143, 4, none⟩ = some (.slice A0_4 l0_4.length c0_4) ∧ w'.cell? (ad153.add (x91_6).toNat) = some (.slice A153_0 (rd_L4 l0_1 x91_6).length c153_0)) (ds := []) #[false, false, false, false, false, false, false, false, false, false] (by kernel_rfl) rfl rfl ⟨(blk_cell BK152.out 0).trans rfl, (blk_cell BK152.out 1).trans rfl, (blk_cell BK152.out 2).trans rfl, (blk_cell BK152.out 3).trans rfl, (blk_cell BK152.out 4).trans rfl, (blk_cell BK143.out 0).trans rfl, (blk_cell BK143.out 1).trans rfl, (blk_cell BK143.out 2).trans rfl, (blk_cell BK143.out 3).trans rfl, (blk_cell BK143.out 4).trans rfl, ((HB.out.cell (World.block_lt_of_cell? w _ hw153_0)).trans hw153_0)⟩ (fun hHeld => ?_); refine with_tabW prog_Valid.tab27 prog_Valid.bits27 (fun HT_ HW_ => ?_)
                              generalize w57.drew = w58 at BK143 BK152 HB HR153_0 hx153_0 hHeld ⊢
                              refine pure_ (i := 1) (N := some 103) (v := ?_) (a' := ?_) #[false, true, false, false, false, false, false, false, false, false] rfl rfl (any_of HT_.out (by kernel_rfl)) (fun _ _ _ h => h) (Or.inl ⟨by rfl, ?_⟩) ?_ ?_; rotate_left
                              ·
                               intro w'
                               go_simp
                               with_reducible rfl
                              rotate_left
                              ·
                               simp only [Act.put, put_, i64_w, i32_w]
                               rfl
                              refine pure_ (i := 3) (N := some 105) (v := ?_) (a' := ?_) #[false, true, false, true, false, false, false, false, false, false] rfl rfl (any_of HT_.out (by kernel_rfl)) (fun _ _ _ h => h) (Or.inl ⟨by rfl, ?_⟩) ?_ ?_; rotate_left
                              ·
                               intro w'
                               go_simp
                               with_reducible rfl
                              rotate_left
                              ·
                               simp only [Act.put, put_, i64_w, i32_w]
                               rfl
                              refine pure_ (i := 6) (N := some 108) (v := ?_) (a' := ?_) #[false, true, false, true, false, false, true, false, false, false] rfl rfl (any_of HT_.out (by kernel_rfl)) (fun _ _ _ h => h) (Or.inl ⟨by rfl, ?_⟩) ?_ ?_; rotate_left
                              ·
                               intro w'
                               go_simp
                               with_reducible rfl
                              rotate_left
                              ·
                               simp only [Act.put, put_, i64_w, i32_w]
                               rfl
                              refine take_ (i := 0) (N := some 102) (v := ?_) (a' := ?_) #[true, true, false, true, false, false, true, false, false, false] rfl rfl (take_ofW HT_.out HW_.out (by kernel_rfl)) (fun _ _ _ h => h) (Or.inl ⟨by rfl, ?_⟩) hHeld ?_ ?_; rotate_left
                              ·
                               rintro w' ⟨s0, s1, s2, s3, s4, s5, s6, s7, s8, s9, s10⟩
                               go_simp
                               with_reducible rfl
                              rotate_left
                              ·
                               simp only [Act.put, put_, i64_w, i32_w]
                               rfl
                              refine take_ (i := 2) (N := some 104) (v := ?_) (a' := ?_) #[true, true, true, true, false, false, true, false, false, false] rfl rfl (take_ofW HT_.out HW_.out (by kernel_rfl)) (fun _ _ _ h => h) (Or.inl ⟨by rfl, ?_⟩) hHeld ?_ ?_; rotate_left
                              ·
                               rintro w' ⟨s0, s1, s2, s3, s4, s5, s6, s7, s8, s9, s10⟩
                               go_simp
                               with_reducible rfl
                              rotate_left
                              ·
                               simp only [Act.put, put_, i64_w, i32_w]
                               rfl
                              refine pure_ (i := 4) (N := some 106) (v := ?_) (a' := ?_) #[true, true, true, true, true, false, true, false, false, false] rfl rfl (any_of HT_.out (by kernel_rfl)) (fun _ _ _ h => h) (Or.inl ⟨by rfl, ?_⟩) ?_ ?_; rotate_left
                              ·
                               intro w'
                               go_simp
                               with_reducible rfl
                              rotate_left
                              ·
                               simp only [Act.put, put_, i64_w, i32_w]
                               rfl
                              refine take_ (i := 5) (N := some 107) (v := ?_) (a' := ?_) #[true, true, true, true, true, true, true, false, false, false] rfl rfl (take_ofW HT_.out HW_.out (by kernel_rfl)) (fun _ _ _ h => h) (Or.inl ⟨by rfl, ?_⟩) hHeld ?_ ?_; rotate_left
                              ·
                               rintro w' ⟨s0, s1, s2, s3, s4, s5, s6, s7, s8, s9, s10⟩
                               go_simp
                               with_reducible rfl
                              rotate_left
                              ·
                               simp only [Act.put, put_, i64_w, i32_w]
                               rfl
                              refine take_ (i := 7) (N := some 109) (v := ?_) (a' := ?_) #[true, true, true, true, true, true, true, true, false, false] rfl rfl (take_ofW HT_.out HW_.out (by kernel_rfl)) (fun _ _ _ h => h) (Or.inl ⟨by rfl, ?_⟩) hHeld ?_ ?_; rotate_left
                              ·
                               rintro w' ⟨s0, s1, s2, s3, s4, s5, s6, s7, s8, s9, s10⟩
                               go_simp
                               with_reducible rfl
                              rotate_left
                              ·
                               simp only [Act.put, put_, i64_w, i32_w]
                               rfl
                              refine one_ (i := 8) (N := some 110) #[true, true, true, true, true, true, true, true, true, false] rfl rfl (one_of HT_.out (by kernel_rfl)) (by decide) (fun K hK => ?_); refine goes_ Try.func78 (by kernel_rfl) rfl #[.agg #[.int .i64 ((rd_T87 (rd_L3 l0_0 x91_6) x98_7).f0), .int .i64 ((rd_T87 (rd_L3 l0_0 x91_6) x98_7).f1), .int .i64 ((rd_T87 (rd_L3 l0_0 x91_6) x98_7).f2), .int .i64 ((rd_T87 (rd_L3 l0_0 x91_6) x98_7).f3), .int .i64 ((rd_T87 (rd_L3 l0_0 x91_6) x98_7).f4)], .slice A153_0 (rd_L4 l0_1 x91_6).length c153_0, .slice A0_2 l0_2.length c0_2] (by rfl) rfl rfl ag_ ?_
                              with_reducible refine (prog_fits.calls k7 ((rd_T87 (rd_L3 l0_0 x91_6) x98_7).f0) ((rd_T87 (rd_L3 l0_0 x91_6) x98_7).f1) ((rd_T87 (rd_L3 l0_0 x91_6) x98_7).f2) ((rd_T87 (rd_L3 l0_0 x91_6) x98_7).f3) ((rd_T87 (rd_L3 l0_0 x91_6) x98_7).f4) _ _ (rd_L4 l0_1 x91_6) _ _ l0_2 false _ ?side1 ?side2 ?side3 ?side4 A46.out).mono ?_
                              (case side1 => exact cb_ HR153_0)
                              (case side2 => exact HC153_0.out)
                              (case side3 => exact cb_ HR0_2)
                              (case side4 => exact HC0_2.out)
                              rintro e w59 ⟨rfl, hb⟩
                              refine ⟨_, rfl, ?_⟩; replace BK143 := bb_ BK143 hb; replace BK152 := bb_ BK152 hb; replace HB := bs_ w hb
                              (try clear hb)
                              (try clear hb2)
                              (try clear hk)
                              (try clear hi)
                              refine hK.out _ _ ⟨(blk_cell BK152.out 0).trans rfl, (blk_cell BK152.out 1).trans rfl, (blk_cell BK152.out 2).trans rfl, (blk_cell BK152.out 3).trans rfl, (blk_cell BK152.out 4).trans rfl, (blk_cell BK143.out 0).trans rfl, (blk_cell BK143.out 1).trans rfl, (blk_cell BK143.out 2).trans rfl, (blk_cell BK143.out 3).trans rfl, (blk_cell BK143.out 4).trans rfl, ((HB.out.cell (World.block_lt_of_cell? w _ hw153_0)).trans hw153_0)⟩ (fun hHeld => ?_); clear hK K; refine norm_ (a' := ?_) ?_ ?_; rotate_left
                              ·
                               show Act.put _ (some 110) _ = _
                               simp only [Act.put, put_, i64_w, i32_w]
                               rfl
                              refine pure_ (i := 9) (N := some 111) (v := ?_) (a' := ?_) #[true, true, true, true, true, true, true, true, true, true] rfl rfl (any_of HT_.out (by kernel_rfl)) (fun _ _ _ h => h) (Or.inl ⟨by rfl, ?_⟩) ?_ ?_; rotate_left
                              ·
                               intro w'
                               go_simp
                               with_reducible rfl
                              rotate_left
                              ·
                               simp only [Act.put, put_, i64_w, i32_w]
                               rfl
                              refine done_ (done_of HT_.out (by kernel_rfl)) ?_
                              try go_wp2
                              go_ret
                              exact ⟨ee_, bel_⟩
                            ·
                             rw [if_neg c45] at H; exact absurd H (by simp)
                           ·
                            rw [if_neg c44] at H; exact absurd H (by simp)
                          ·
                           rw [if_neg c43] at H; exact absurd H (by simp)
                         ·
                          rw [if_neg c42] at H; exact absurd H (by simp)
                        ·
                         rw [if_neg c41] at H; have c41b0 : decide (x98_7 < ((rd_L3 l0_0 x91_6).length : Int)) = false := decide_eq_false c41; clear c41; have H' := Aside0.mk H; clear H; go_wp2
                         go_roundg k7
                         case measure => have := HJ1.out; have := HJ7.out; have := HK3.out; have := HK4.out; have := HJ28.out; have := HK6.out; have := HK7.out; omega
                         case rel => exact ⟨(wrap64 (x91_6 + 1)), ff_, H', ⟨by have := HJ1.out; have := HJ7.out; have := HK3.out; have := HK4.out; have := HJ28.out; have := HK6.out; have := HK7.out; omega⟩, ⟨bk_ BK143⟩, ⟨bel_⟩⟩
                     ·
                      rw [if_neg c40] at H; exact absurd H (by simp)
                    ·
                     rw [if_neg c39] at H; exact absurd H (by simp)
                   ·
                    rw [if_neg c38] at H; have c38b0 : decide (x91_6 < (l0_0.length : Int)) = false := decide_eq_false c38; clear c38; replace H := Option.bind_eq_some_iff.mp H; obtain ⟨t149, A600, H⟩ := H; replace H : (if t149 > 64 then (some 96) else (some 0)) = some r := H; have A60 := Aside0.mk A600; clear A600
                    by_cases c61 : t149 > 64
                    ·
                     rw [if_pos c61] at H; have c61b0 : decide (64 < t149) = true := decide_eq_true c61; clear c61; obtain rfl := Option.some.inj H; obtain ⟨z62_0, z62_1, z62_2, z62_3, z62_4, y62_0, y62_1, y62_2, y62_3, y62_4⟩ := blkA5 BK143.out
                     go_wp2_with (first | ((with_reducible refine gate_callee (f := 79) rfl ?_); refine goesL_ (some 115) rfl rfl Try.func79 (by kernel_rfl) rfl #[.agg #[.slice A0_0 l0_0.length c0_0, .slice A0_1 l0_1.length c0_1, .slice A0_2 l0_2.length c0_2, .slice A0_3 l0_3.length c0_3, .slice A0_4 l0_4.length c0_4]] rfl ag_ ?_; (with_reducible refine (prog_Events.calls k6 _ _ l0_0 _ _ l0_1 _ _ l0_2 _ _ l0_3 _ _ l0_4 t149 _ ?side1 ?side2 ?side3 ?side4 ?side5 ?side6 ?side7 ?side8 ?side9 ?side10 A60.out).mono ?_); (case side1 | side3 | side5 | side7 | side9 => repeat (first | exact (Kd.C_below HR0_0.out HB.out) | exact (Kd.C_below HR0_1.out HB.out) | exact (Kd.C_below HR0_2.out HB.out) | exact (Kd.C_below HR0_3.out HB.out) | exact (Kd.C_below HR0_4.out HB.out) | (with_reducible refine Kd.C_alloc ?_ _) | (with_reducible refine Kd.C_drewN ?_ _) | (with_reducible refine Kd.C_drew ?_))); (case side2 | side4 | side6 | side8 | side10 => first | exact HC0_0.out | exact HC0_1.out | exact HC0_2.out | exact HC0_3.out | exact HC0_4.out); rintro e w63 ⟨rfl, hb⟩; refine ⟨_, rfl, ?_⟩; replace BK143 := bb_ BK143 hb; replace HB := bs_ w hb; (try clear hb); (try clear hb2); (try clear hk); (try clear hi)))
                     go_ret
                     exact ⟨ee_, bel_⟩
                    ·
                     rw [if_neg c61] at H; have c61b0 : decide (64 < t149) = false := decide_eq_false c61; clear c61; obtain rfl := Option.some.inj H; obtain ⟨z64_0, z64_1, z64_2, z64_3, z64_4, y64_0, y64_1, y64_2, y64_3, y64_4⟩ := blkA5 BK143.out
                     go_wp2_with (first | ((with_reducible refine gate_callee (f := 79) rfl ?_); refine goesL_ (some 115) rfl rfl Try.func79 (by kernel_rfl) rfl #[.agg #[.slice A0_0 l0_0.length c0_0, .slice A0_1 l0_1.length c0_1, .slice A0_2 l0_2.length c0_2, .slice A0_3 l0_3.length c0_3, .slice A0_4 l0_4.length c0_4]] rfl ag_ ?_; (with_reducible refine (prog_Events.calls k6 _ _ l0_0 _ _ l0_1 _ _ l0_2 _ _ l0_3 _ _ l0_4 t149 _ ?side1 ?side2 ?side3 ?side4 ?side5 ?side6 ?side7 ?side8 ?side9 ?side10 A60.out).mono ?_); (case side1 | side3 | side5 | side7 | side9 => repeat (first | exact (Kd.C_below HR0_0.out HB.out) | exact (Kd.C_below HR0_1.out HB.out) | exact (Kd.C_below HR0_2.out HB.out) | exact (Kd.C_below HR0_3.out HB.out) | exact (Kd.C_below HR0_4.out HB.out) | (with_reducible refine Kd.C_alloc ?_ _) | (with_reducible refine Kd.C_drewN ?_ _) | (with_reducible refine Kd.C_drew ?_))); (case side2 | side4 | side6 | side8 | side10 => first | exact HC0_0.out | exact HC0_1.out | exact HC0_2.out | exact HC0_3.out | exact HC0_4.out); rintro e w65 ⟨rfl, hb⟩; refine ⟨_, rfl, ?_⟩; replace BK143 := bb_ BK143 hb; replace HB := bs_ w hb; (try clear hb); (try clear hb2); (try clear hk); (try clear hi)))
                     go_ret
                     exact ⟨ee_, bel_⟩

end Go.Proofs.Ytemhpbdlonfikaa.P
