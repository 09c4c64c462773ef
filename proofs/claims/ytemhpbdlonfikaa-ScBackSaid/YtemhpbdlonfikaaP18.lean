-- Printed by xprint.py, a program of this session over the kit's printer.
import Derived.Test.YtemhpbdlonfikaaP0
namespace Go.Proofs.Ytemhpbdlonfikaa.P
open Go.RowKit Go.Proofs.YtemhpbdlonfikaaW.PrintWords Go.Proofs.YtemhpbdlonfikaaW.PrintLast Go.Proofs.YtemhpbdlonfikaaW.PrintMore
attribute [local go_sem] max2_int min2_int max_two min_two max_three min_three max_four min_four   -- for this text's walks alone

/-! ### sc_is: function 45 -/
mutual
def sc_is.j0 : Nat → Bool → List (List (S87)) → List (List ByteArray) → List ByteArray → List (List Int) → List Int → List Int → List Int → List (List Int) → List Int → List (List (S59)) → Int → Option (Bool)
 | 0, _, _, _, _, _, _, _, _, _, _, _, _ => none
 | k + 1, x58, x406000, x406001, x406002, x406003, x406004, x407000, x407001, x407002, x407003, x407004, x407005 => if x58 = true then (some false) else (sc_is.l0 k x406000 (x406000.length : Int) 0 x406000 x406001 x406002 x406003 x406004 x407000 x407001 x407002 x407003 x407004 x407005)
def sc_is.l0 : Nat → List (List (S87)) → Int → Int → List (List (S87)) → List (List ByteArray) → List ByteArray → List (List Int) → List Int → List Int → List Int → List (List Int) → List Int → List (List (S59)) → Int → Option (Bool)
 | 0, _, _, _, _, _, _, _, _, _, _, _, _, _, _ => none
 | k + 1, x60, x61, x62, x406000, x406001, x406002, x406003, x406004, x407000, x407001, x407002, x407003, x407004, x407005 => if x62 < x61 then (if 0 ≤ x62 then (if x62 < (x60.length : Int) then (if x62 < (x407000.length : Int) then (if (rd x407000 x62) < 0 then (sc_is.j2 k x62 x60 x61 x62 true x406000 x406001 x406002 x406003 x406004 x407000 x407001 x407002 x407003 x407004 x407005) else (if (rd x407000 x62) > ((rd_L3 x60 x62).length : Int) then (sc_is.j2 k x62 x60 x61 x62 true x406000 x406001 x406002 x406003 x406004 x407000 x407001 x407002 x407003 x407004 x407005) else (if x62 < (x407001.length : Int) then (if (rd x407001 x62) < 0 then (sc_is.j2 k x62 x60 x61 x62 true x406000 x406001 x406002 x406003 x406004 x407000 x407001 x407002 x407003 x407004 x407005) else (if (rd x407001 x62) > 2 then (sc_is.j2 k x62 x60 x61 x62 true x406000 x406001 x406002 x406003 x406004 x407000 x407001 x407002 x407003 x407004 x407005) else (if x62 < (x407002.length : Int) then (if x62 < (x406001.length : Int) then (if ((rd_L5 x407002 x62).length : Int) = ((rd_L4 x406001 x62).length : Int) then (if x62 < (x407004.length : Int) then (sc_is.j2 k x62 x60 x61 x62 (decide (((rd_L7 x407004 x62).length : Int) > 64)) x406000 x406001 x406002 x406003 x406004 x407000 x407001 x407002 x407003 x407004 x407005) else (none)) else (sc_is.j2 k x62 x60 x61 x62 true x406000 x406001 x406002 x406003 x406004 x407000 x407001 x407002 x407003 x407004 x407005)) else (none)) else (none)))) else (none)))) else (none)) else (none)) else (none)) else (some true)
def sc_is.j2 : Nat → Int → List (List (S87)) → Int → Int → Bool → List (List (S87)) → List (List ByteArray) → List ByteArray → List (List Int) → List Int → List Int → List Int → List (List Int) → List Int → List (List (S59)) → Int → Option (Bool)
 | 0, _, _, _, _, _, _, _, _, _, _, _, _, _, _, _, _ => none
 | k + 1, x6, x60, x61, x62, x122, x406000, x406001, x406002, x406003, x406004, x407000, x407001, x407002, x407003, x407004, x407005 => if x122 = true then (some false) else (if 0 ≤ x6 then (if x6 < (x407004.length : Int) then (sc_is.l1 k x60 x61 x62 (rd_L7 x407004 x6) ((rd_L7 x407004 x6).length : Int) 0 x406000 x406001 x406002 x406003 x406004 x407000 x407001 x407002 x407003 x407004 x407005) else (none)) else (none))
def sc_is.l1 : Nat → List (List (S87)) → Int → Int → List (S59) → Int → Int → List (List (S87)) → List (List ByteArray) → List ByteArray → List (List Int) → List Int → List Int → List Int → List (List Int) → List Int → List (List (S59)) → Int → Option (Bool)
 | 0, _, _, _, _, _, _, _, _, _, _, _, _, _, _, _, _, _ => none
 | k + 1, x60, x61, x62, x127, x128, x129, x406000, x406001, x406002, x406003, x406004, x407000, x407001, x407002, x407003, x407004, x407005 => if x129 < x128 then (if 0 ≤ x129 then (if x129 < (x127.length : Int) then (if ((rd_T59 x127 x129).f0) < 0 then (some false) else (if ((rd_T59 x127 x129).f0) ≥ (x406002.length : Int) then (some false) else (sc_is.l1 k x60 x61 x62 x127 x128 (wrap64 (x129 + 1)) x406000 x406001 x406002 x406003 x406004 x407000 x407001 x407002 x407003 x407004 x407005))) else (none)) else (none)) else (sc_is.l0 k x60 x61 (wrap64 (x62 + 1)) x406000 x406001 x406002 x406003 x406004 x407000 x407001 x407002 x407003 x407004 x407005)
end
def sc_is.f (k : Nat) (l0_0 : List (List (S87))) (l0_1 : List (List ByteArray)) (l0_2 : List ByteArray) (l0_3 : List (List Int)) (l0_4 : List Int) (l1_0 : List Int) (l1_1 : List Int) (l1_2 : List (List Int)) (l1_3 : List Int) (l1_4 : List (List (S59))) (a1_5 : Int) : Option (Bool) := if (l1_0.length : Int) = (l0_0.length : Int) then (if (l1_1.length : Int) = (l0_0.length : Int) then (if (l1_2.length : Int) = (l0_0.length : Int) then (if (l1_4.length : Int) = (l0_0.length : Int) then (if (l1_3.length : Int) = (l0_2.length : Int) then (if a1_5 < (-1) then (sc_is.j0 k true l0_0 l0_1 l0_2 l0_3 l0_4 l1_0 l1_1 l1_2 l1_3 l1_4 a1_5) else (sc_is.j0 k (decide (a1_5 ≥ (l0_0.length : Int))) l0_0 l0_1 l0_2 l0_3 l0_4 l1_0 l1_1 l1_2 l1_3 l1_4 a1_5)) else (sc_is.j0 k true l0_0 l0_1 l0_2 l0_3 l0_4 l1_0 l1_1 l1_2 l1_3 l1_4 a1_5)) else (sc_is.j0 k true l0_0 l0_1 l0_2 l0_3 l0_4 l1_0 l1_1 l1_2 l1_3 l1_4 a1_5)) else (sc_is.j0 k true l0_0 l0_1 l0_2 l0_3 l0_4 l1_0 l1_1 l1_2 l1_3 l1_4 a1_5)) else (sc_is.j0 k true l0_0 l0_1 l0_2 l0_3 l0_4 l1_0 l1_1 l1_2 l1_3 l1_4 a1_5)) else (sc_is.j0 k true l0_0 l0_1 l0_2 l0_3 l0_4 l1_0 l1_1 l1_2 l1_3 l1_4 a1_5)
theorem sc_is.mono_l : ∀ k, (∀ y0 y1 y2 y3 y4 y5 y6 y7 y8 y9 y10 y11, LeO (sc_is.j0 k y0 y1 y2 y3 y4 y5 y6 y7 y8 y9 y10 y11) (sc_is.j0 (k + 1) y0 y1 y2 y3 y4 y5 y6 y7 y8 y9 y10 y11)) ∧ (∀ y0 y1 y2 y3 y4 y5 y6 y7 y8 y9 y10 y11 y12 y13, LeO (sc_is.l0 k y0 y1 y2 y3 y4 y5 y6 y7 y8 y9 y10 y11 y12 y13) (sc_is.l0 (k + 1) y0 y1 y2 y3 y4 y5 y6 y7 y8 y9 y10 y11 y12 y13)) ∧ (∀ y0 y1 y2 y3 y4 y5 y6 y7 y8 y9 y10 y11 y12 y13 y14 y15, LeO (sc_is.j2 k y0 y1 y2 y3 y4 y5 y6 y7 y8 y9 y10 y11 y12 y13 y14 y15) (sc_is.j2 (k + 1) y0 y1 y2 y3 y4 y5 y6 y7 y8 y9 y10 y11 y12 y13 y14 y15)) ∧ (∀ y0 y1 y2 y3 y4 y5 y6 y7 y8 y9 y10 y11 y12 y13 y14 y15 y16, LeO (sc_is.l1 k y0 y1 y2 y3 y4 y5 y6 y7 y8 y9 y10 y11 y12 y13 y14 y15 y16) (sc_is.l1 (k + 1) y0 y1 y2 y3 y4 y5 y6 y7 y8 y9 y10 y11 y12 y13 y14 y15 y16))
 | 0 => ⟨fun _ _ _ _ _ _ _ _ _ _ _ _ r h => by simp [sc_is.j0] at h, fun _ _ _ _ _ _ _ _ _ _ _ _ _ _ r h => by simp [sc_is.l0] at h, fun _ _ _ _ _ _ _ _ _ _ _ _ _ _ _ _ r h => by simp [sc_is.j2] at h, fun _ _ _ _ _ _ _ _ _ _ _ _ _ _ _ _ _ r h => by simp [sc_is.l1] at h⟩
 | k + 1 => by
  obtain ⟨ih0, ih1, ih2, ih3⟩ := sc_is.mono_l k; refine ⟨?_, ?_, ?_, ?_⟩; intro y0 y1 y2 y3 y4 y5 y6 y7 y8 y9 y10 y11; unfold sc_is.j0; rotate_left; intro y0 y1 y2 y3 y4 y5 y6 y7 y8 y9 y10 y11 y12 y13; unfold sc_is.l0; rotate_left; intro y0 y1 y2 y3 y4 y5 y6 y7 y8 y9 y10 y11 y12 y13 y14 y15; unfold sc_is.j2; rotate_left; intro y0 y1 y2 y3 y4 y5 y6 y7 y8 y9 y10 y11 y12 y13 y14 y15 y16; unfold sc_is.l1; rotate_left
  all_goals (repeat' first
   | (with_reducible exact ih0 _ _ _ _ _ _ _ _ _ _ _ _)
   | (with_reducible exact ih1 _ _ _ _ _ _ _ _ _ _ _ _ _ _)
   | (with_reducible exact ih2 _ _ _ _ _ _ _ _ _ _ _ _ _ _ _ _)
   | (with_reducible exact ih3 _ _ _ _ _ _ _ _ _ _ _ _ _ _ _ _ _)
   | (with_reducible exact LeO.refl _)
   | (with_reducible exact LeO.none _)
   | (with_reducible refine LeO.ite ?_ ?_)
   | (with_reducible refine LeO.bind ?_ (fun _ => ?_))
   | exact ih0 _ _ _ _ _ _ _ _ _ _ _ _
   | exact ih1 _ _ _ _ _ _ _ _ _ _ _ _ _ _
   | exact ih2 _ _ _ _ _ _ _ _ _ _ _ _ _ _ _ _
   | exact ih3 _ _ _ _ _ _ _ _ _ _ _ _ _ _ _ _ _
   | exact LeO.none _
   | refine LeO.ite ?_ ?_
   | refine LeO.bind ?_ (fun _ => ?_))
theorem sc_is.mono : ∀ a0 a1 a2 a3 a4 a5 a6 a7 a8 a9 a10 k, LeO (sc_is.f k a0 a1 a2 a3 a4 a5 a6 a7 a8 a9 a10) (sc_is.f (k + 1) a0 a1 a2 a3 a4 a5 a6 a7 a8 a9 a10) := by
 intro a0 a1 a2 a3 a4 a5 a6 a7 a8 a9 a10 k; obtain ⟨ih0, ih1, ih2, ih3⟩ := sc_is.mono_l k; unfold sc_is.f
 repeat' first
   | (with_reducible exact ih0 _ _ _ _ _ _ _ _ _ _ _ _)
   | (with_reducible exact ih1 _ _ _ _ _ _ _ _ _ _ _ _ _ _)
   | (with_reducible exact ih2 _ _ _ _ _ _ _ _ _ _ _ _ _ _ _ _)
   | (with_reducible exact ih3 _ _ _ _ _ _ _ _ _ _ _ _ _ _ _ _ _)
   | (with_reducible exact LeO.refl _)
   | (with_reducible exact LeO.none _)
   | (with_reducible refine LeO.ite ?_ ?_)
   | (with_reducible refine LeO.bind ?_ (fun _ => ?_))
   | exact ih0 _ _ _ _ _ _ _ _ _ _ _ _
   | exact ih1 _ _ _ _ _ _ _ _ _ _ _ _ _ _
   | exact ih2 _ _ _ _ _ _ _ _ _ _ _ _ _ _ _ _
   | exact ih3 _ _ _ _ _ _ _ _ _ _ _ _ _ _ _ _ _
   | exact LeO.none _
   | refine LeO.ite ?_ ?_
   | refine LeO.bind ?_ (fun _ => ?_)
set_option maxHeartbeats 8000000 in
set_option maxRecDepth 100000 in
theorem sc_is.calls (k : Nat) (A0_0 : Option Addr) (c0_0 : Nat) (l0_0 : List (List (S87))) (A0_1 : Option Addr) (c0_1 : Nat) (l0_1 : List (List ByteArray)) (A0_2 : Option Addr) (c0_2 : Nat) (l0_2 : List ByteArray) (A0_3 : Option Addr) (c0_3 : Nat) (l0_3 : List (List Int)) (A0_4 : Option Addr) (c0_4 : Nat) (l0_4 : List Int) (A1_0 : Option Addr) (c1_0 : Nat) (l1_0 : List Int) (A1_1 : Option Addr) (c1_1 : Nat) (l1_1 : List Int) (A1_2 : Option Addr) (c1_2 : Nat) (l1_2 : List (List Int)) (A1_3 : Option Addr) (c1_3 : Nat) (l1_3 : List Int) (A1_4 : Option Addr) (c1_4 : Nat) (l1_4 : List (List (S59))) (a1_5 : Int) (r : Bool) (w : World) (hr0_0 : Kd.C (Kd.slice 87 k87) w A0_0 l0_0.length l0_0) (hc0_0 : l0_0.length ≤ c0_0) (hr0_1 : Kd.C (Kd.slice 9 Kd.string) w A0_1 l0_1.length l0_1) (hc0_1 : l0_1.length ≤ c0_1) (hr0_2 : Kd.C Kd.string w A0_2 l0_2.length l0_2) (hc0_2 : l0_2.length ≤ c0_2) (hr0_3 : Kd.C (Kd.slice 2 (Kd.int .i64)) w A0_3 l0_3.length l0_3) (hc0_3 : l0_3.length ≤ c0_3) (hr0_4 : Kd.C (Kd.int .i64) w A0_4 l0_4.length l0_4) (hc0_4 : l0_4.length ≤ c0_4) (hr1_0 : Kd.C (Kd.int .i64) w A1_0 l1_0.length l1_0) (hc1_0 : l1_0.length ≤ c1_0) (hr1_1 : Kd.C (Kd.int .i64) w A1_1 l1_1.length l1_1) (hc1_1 : l1_1.length ≤ c1_1) (hr1_2 : Kd.C (Kd.slice 2 (Kd.int .i64)) w A1_2 l1_2.length l1_2) (hc1_2 : l1_2.length ≤ c1_2) (hr1_3 : Kd.C (Kd.int .i64) w A1_3 l1_3.length l1_3) (hc1_3 : l1_3.length ≤ c1_3) (hr1_4 : Kd.C (Kd.slice 59 k59) w A1_4 l1_4.length l1_4) (hc1_4 : l1_4.length ≤ c1_4) (h : sc_is.f k l0_0 l0_1 l0_2 l0_3 l0_4 l1_0 l1_1 l1_2 l1_3 l1_4 a1_5 = some r) :
  Calls Try.prog 45 #[.agg #[.slice A0_0 l0_0.length c0_0, .slice A0_1 l0_1.length c0_1, .slice A0_2 l0_2.length c0_2, .slice A0_3 l0_3.length c0_3, .slice A0_4 l0_4.length c0_4], .agg #[.slice A1_0 l1_0.length c1_0, .slice A1_1 l1_1.length c1_1, .slice A1_2 l1_2.length c1_2, .slice A1_3 l1_3.length c1_3, .slice A1_4 l1_4.length c1_4, .int .i64 a1_5]] w fun e w' => e = .returned (.bool r) ∧ Below w.heap.size w w' := by
 have hu28 := Try.underlying28; have hu42 := Try.underlying42; have hu59 := Try.underlying59; have HR0_0 := Aside0.mk hr0_0; have HC0_0 := Aside0.mk hc0_0; clear hr0_0 hc0_0; have HR0_1 := Aside0.mk hr0_1; have HC0_1 := Aside0.mk hc0_1; clear hr0_1 hc0_1; have HR0_2 := Aside0.mk hr0_2; have HC0_2 := Aside0.mk hc0_2; clear hr0_2 hc0_2; have HR0_3 := Aside0.mk hr0_3; have HC0_3 := Aside0.mk hc0_3; clear hr0_3 hc0_3; have HR0_4 := Aside0.mk hr0_4; have HC0_4 := Aside0.mk hc0_4; clear hr0_4 hc0_4; have HR1_0 := Aside0.mk hr1_0; have HC1_0 := Aside0.mk hc1_0; clear hr1_0 hc1_0; have HR1_1 := Aside0.mk hr1_1; have HC1_1 := Aside0.mk hc1_1; clear hr1_1 hc1_1; have HR1_2 := Aside0.mk hr1_2; have HC1_2 := Aside0.mk hc1_2; clear hr1_2 hc1_2; have HR1_3 := Aside0.mk hr1_3; have HC1_3 := Aside0.mk hc1_3; clear hr1_3 hc1_3; have HR1_4 := Aside0.mk hr1_4; have HC1_4 := Aside0.mk hc1_4; clear hr1_4 hc1_4; have HB := Aside0.mk (Below.refl w.heap.size w); have H : (if (l1_0.length : Int) = (l0_0.length : Int) then (if (l1_1.length : Int) = (l0_0.length : Int) then (if (l1_2.length : Int) = (l0_0.length : Int) then (if (l1_4.length : Int) = (l0_0.length : Int) then (if (l1_3.length : Int) = (l0_2.length : Int) then (if a1_5 < (-1) then (sc_is.j0 k true l0_0 l0_1 l0_2 l0_3 l0_4 l1_0 l1_1 l1_2 l1_3 l1_4 a1_5) else (sc_is.j0 k (decide (a1_5 ≥ (l0_0.length : Int))) l0_0 l0_1 l0_2 l0_3 l0_4 l1_0 l1_1 l1_2 l1_3 l1_4 a1_5)) else (sc_is.j0 k true l0_0 l0_1 l0_2 l0_3 l0_4 l1_0 l1_1 l1_2 l1_3 l1_4 a1_5)) else (sc_is.j0 k true l0_0 l0_1 l0_2 l0_3 l0_4 l1_0 l1_1 l1_2 l1_3 l1_4 a1_5)) else (sc_is.j0 k true l0_0 l0_1 l0_2 l0_3 l0_4 l1_0 l1_1 l1_2 l1_3 l1_4 a1_5)) else (sc_is.j0 k true l0_0 l0_1 l0_2 l0_3 l0_4 l1_0 l1_1 l1_2 l1_3 l1_4 a1_5)) else (sc_is.j0 k true l0_0 l0_1 l0_2 l0_3 l0_4 l1_0 l1_1 l1_2 l1_3 l1_4 a1_5)) = some r := h; clear h; have HC3 := Aside0.mk H; clear H; go_enter Try.func45, Try.ntmps45
 go_upto_region 2 with (first | ((with_reducible refine gate_dst (N := 2) rfl ?_); (try (refine gate_guard (by rfl) ?_; dsimp only)); refine bx_ (N := 2) (cs := #[.slice A0_0 l0_0.length c0_0, .slice A0_1 l0_1.length c0_1, .slice A0_2 l0_2.length c0_2, .slice A0_3 l0_3.length c0_3, .slice A0_4 l0_4.length c0_4]) (t := 28) ?_; intro gb405 hg w4 hbox hb; have n0_ := bs_ w hb; have n1_ := Aside0.mk (hbox); have n2_ := gl_ w hg; have n3_ := n2_; clear HB; have HB := n0_; have BK405 := n1_; have GW405 := n2_; have GE405 := n3_; clear n0_ n1_ n2_ n3_; clear hb hbox hg) | ((with_reducible refine gate_dst (N := 3) rfl ?_); (try (refine gate_guard (by rfl) ?_; dsimp only)); refine bx_ (N := 3) (cs := #[.slice A1_0 l1_0.length c1_0, .slice A1_1 l1_1.length c1_1, .slice A1_2 l1_2.length c1_2, .slice A1_3 l1_3.length c1_3, .slice A1_4 l1_4.length c1_4, .int .i64 a1_5]) (t := 42) ?_; intro gb406 hg w5 hbox hb; have n0_ := bb_ BK405 hb; have n1_ := bs_ w hb; have n2_ := Aside0.mk (hbox); have n3_ := gl_ w hg; have n4_ := n3_; have n5_ := nl_ BK405 hg; have n6_ := ng_ BK405 hg; clear BK405; clear HB; have BK405 := n0_; have HB := n1_; have BK406 := n2_; have GW406 := n3_; have GE406 := n4_; have NB405_406 := n5_; have NB406_405 := n6_; clear n0_ n1_ n2_ n3_ n4_ n5_ n6_; clear hb hbox hg; have hnb6 := NB405_406.out; have hnc6 := NB406_405.out; obtain ⟨z7_0, z7_1, z7_2, z7_3, z7_4, y7_0, y7_1, y7_2, y7_3, y7_4⟩ := blkA5 BK405.out))
 repeat (go_quiet (first | ((with_reducible refine gate_dst (N := 2) rfl ?_); (try (refine gate_guard (by rfl) ?_; dsimp only)); refine bx_ (N := 2) (cs := #[.slice A0_0 l0_0.length c0_0, .slice A0_1 l0_1.length c0_1, .slice A0_2 l0_2.length c0_2, .slice A0_3 l0_3.length c0_3, .slice A0_4 l0_4.length c0_4]) (t := 28) ?_; intro gb405 hg w4 hbox hb; have n0_ := bs_ w hb; have n1_ := Aside0.mk (hbox); have n2_ := gl_ w hg; have n3_ := n2_; clear HB; have HB := n0_; have BK405 := n1_; have GW405 := n2_; have GE405 := n3_; clear n0_ n1_ n2_ n3_; clear hb hbox hg) | ((with_reducible refine gate_dst (N := 3) rfl ?_); (try (refine gate_guard (by rfl) ?_; dsimp only)); refine bx_ (N := 3) (cs := #[.slice A1_0 l1_0.length c1_0, .slice A1_1 l1_1.length c1_1, .slice A1_2 l1_2.length c1_2, .slice A1_3 l1_3.length c1_3, .slice A1_4 l1_4.length c1_4, .int .i64 a1_5]) (t := 42) ?_; intro gb406 hg w5 hbox hb; have n0_ := bb_ BK405 hb; have n1_ := bs_ w hb; have n2_ := Aside0.mk (hbox); have n3_ := gl_ w hg; have n4_ := n3_; have n5_ := nl_ BK405 hg; have n6_ := ng_ BK405 hg; clear BK405; clear HB; have BK405 := n0_; have HB := n1_; have BK406 := n2_; have GW406 := n3_; have GE406 := n4_; have NB405_406 := n5_; have NB406_405 := n6_; clear n0_ n1_ n2_ n3_ n4_ n5_ n6_; clear hb hbox hg; have hnb6 := NB405_406.out; have hnc6 := NB406_405.out; obtain ⟨z7_0, z7_1, z7_2, z7_3, z7_4, y7_0, y7_1, y7_2, y7_3, y7_4⟩ := blkA5 BK405.out)); go_upto_region 2 with (first | ((with_reducible refine gate_dst (N := 2) rfl ?_); (try (refine gate_guard (by rfl) ?_; dsimp only)); refine bx_ (N := 2) (cs := #[.slice A0_0 l0_0.length c0_0, .slice A0_1 l0_1.length c0_1, .slice A0_2 l0_2.length c0_2, .slice A0_3 l0_3.length c0_3, .slice A0_4 l0_4.length c0_4]) (t := 28) ?_; intro gb405 hg w4 hbox hb; have n0_ := bs_ w hb; have n1_ := Aside0.mk (hbox); have n2_ := gl_ w hg; have n3_ := n2_; clear HB; have HB := n0_; have BK405 := n1_; have GW405 := n2_; have GE405 := n3_; clear n0_ n1_ n2_ n3_; clear hb hbox hg) | ((with_reducible refine gate_dst (N := 3) rfl ?_); (try (refine gate_guard (by rfl) ?_; dsimp only)); refine bx_ (N := 3) (cs := #[.slice A1_0 l1_0.length c1_0, .slice A1_1 l1_1.length c1_1, .slice A1_2 l1_2.length c1_2, .slice A1_3 l1_3.length c1_3, .slice A1_4 l1_4.length c1_4, .int .i64 a1_5]) (t := 42) ?_; intro gb406 hg w5 hbox hb; have n0_ := bb_ BK405 hb; have n1_ := bs_ w hb; have n2_ := Aside0.mk (hbox); have n3_ := gl_ w hg; have n4_ := n3_; have n5_ := nl_ BK405 hg; have n6_ := ng_ BK405 hg; clear BK405; clear HB; have BK405 := n0_; have HB := n1_; have BK406 := n2_; have GW406 := n3_; have GE406 := n4_; have NB405_406 := n5_; have NB406_405 := n6_; clear n0_ n1_ n2_ n3_ n4_ n5_ n6_; clear hb hbox hg; have hnb6 := NB405_406.out; have hnc6 := NB406_405.out; obtain ⟨z7_0, z7_1, z7_2, z7_3, z7_4, y7_0, y7_1, y7_2, y7_3, y7_4⟩ := blkA5 BK405.out)))
 (try simp only [Act.put, List.setIfInBounds_toArray, List.set_cons_zero, List.set_cons_succ])
 go_cut [58] (fun v58 wc => ∃ (kq : Nat) (x58_2 : Bool), v58 = .bool x58_2 ∧ Aside0 (sc_is.j0 kq x58_2 l0_0 l0_1 l0_2 l0_3 l0_4 l1_0 l1_1 l1_2 l1_3 l1_4 a1_5 = some r) ∧ Aside0 (kq ≤ k) ∧ Aside0 (wc.heap[gb405]? = some (.cells #[(.slice A0_0 l0_0.length c0_0), (.slice A0_1 l0_1.length c0_1), (.slice A0_2 l0_2.length c0_2), (.slice A0_3 l0_3.length c0_3), (.slice A0_4 l0_4.length c0_4)] 28 (0, 0))) ∧ Aside0 (wc.heap[gb406]? = some (.cells #[(.slice A1_0 l1_0.length c1_0), (.slice A1_1 l1_1.length c1_1), (.slice A1_2 l1_2.length c1_2), (.slice A1_3 l1_3.length c1_3), (.slice A1_4 l1_4.length c1_4), .int .i64 a1_5] 42 (0, 0))) ∧ Aside0 (Below w.heap.size w wc))
 case first =>
  have H := HC3.out; clear HC3
  by_cases c8 : (l1_0.length : Int) = (l0_0.length : Int)
  ·
   rw [if_pos c8] at H; have c8b0 : ((l1_0.length : Int) == (l0_0.length : Int)) = true := beq_iff_eq.mpr c8; have c8b1 : ((l1_0.length : Int) != (l0_0.length : Int)) = false := bne_eq_false_iff_eq.mpr c8; have c8b2 : (l1_0.length == l0_0.length) = true := by first | simpa using c8 | (simp at c8 ⊢; omega)
   clear c8
   (first | rw [c8b0] | (simp only [i64_w, i32_w]; rw [c8b0]) | skip)
   by_cases c9 : (l1_1.length : Int) = (l0_0.length : Int)
   ·
    rw [if_pos c9] at H; have c9b0 : ((l1_1.length : Int) == (l0_0.length : Int)) = true := beq_iff_eq.mpr c9; have c9b1 : ((l1_1.length : Int) != (l0_0.length : Int)) = false := bne_eq_false_iff_eq.mpr c9; have c9b2 : (l1_1.length == l0_0.length) = true := by first | simpa using c9 | (simp at c9 ⊢; omega)
    clear c9
    by_cases c10 : (l1_2.length : Int) = (l0_0.length : Int)
    ·
     rw [if_pos c10] at H; have c10b0 : ((l1_2.length : Int) == (l0_0.length : Int)) = true := beq_iff_eq.mpr c10; have c10b1 : ((l1_2.length : Int) != (l0_0.length : Int)) = false := bne_eq_false_iff_eq.mpr c10; have c10b2 : (l1_2.length == l0_0.length) = true := by first | simpa using c10 | (simp at c10 ⊢; omega)
     clear c10
     by_cases c11 : (l1_4.length : Int) = (l0_0.length : Int)
     ·
      rw [if_pos c11] at H; have c11b0 : ((l1_4.length : Int) == (l0_0.length : Int)) = true := beq_iff_eq.mpr c11; have c11b1 : ((l1_4.length : Int) != (l0_0.length : Int)) = false := bne_eq_false_iff_eq.mpr c11; have c11b2 : (l1_4.length == l0_0.length) = true := by first | simpa using c11 | (simp at c11 ⊢; omega)
      clear c11
      by_cases c12 : (l1_3.length : Int) = (l0_2.length : Int)
      ·
       rw [if_pos c12] at H; have c12b0 : ((l1_3.length : Int) == (l0_2.length : Int)) = true := beq_iff_eq.mpr c12; have c12b1 : ((l1_3.length : Int) != (l0_2.length : Int)) = false := bne_eq_false_iff_eq.mpr c12; have c12b2 : (l1_3.length == l0_2.length) = true := by first | simpa using c12 | (simp at c12 ⊢; omega)
       clear c12
       by_cases c13 : a1_5 < (-1)
       ·
        rw [if_pos c13] at H; have c13b0 : decide (a1_5 < (-1)) = true := decide_eq_true c13; clear c13; have H' := Aside0.mk H; clear H; have hnb14 := NB406_405.out; have hnc14 := NB405_406.out; obtain ⟨z15_0, z15_1, z15_2, z15_3, z15_4, z15_5, y15_0, y15_1, y15_2, y15_3, y15_4, y15_5⟩ := blkA6 BK406.out; obtain ⟨z16_0, z16_1, z16_2, z16_3, z16_4, y16_0, y16_1, y16_2, y16_3, y16_4⟩ := blkA5 BK405.out; go_wp2
        repeat (go_quiet (fail); try go_wp2)
        go_meet
        case rel => exact ⟨_, (true), ff_, H', ⟨by first | omega | exact Nat.le_refl _⟩, ⟨bk_ BK405⟩, ⟨bk_ BK406⟩, ⟨bel_⟩⟩
       ·
        rw [if_neg c13] at H; have c13b0 : decide (a1_5 < (-1)) = false := decide_eq_false c13; clear c13; have H' := Aside0.mk H; clear H; have hnb17 := NB406_405.out; have hnc17 := NB405_406.out; obtain ⟨z18_0, z18_1, z18_2, z18_3, z18_4, z18_5, y18_0, y18_1, y18_2, y18_3, y18_4, y18_5⟩ := blkA6 BK406.out; obtain ⟨z19_0, z19_1, z19_2, z19_3, z19_4, y19_0, y19_1, y19_2, y19_3, y19_4⟩ := blkA5 BK405.out; go_wp2
        repeat (go_quiet (fail); try go_wp2)
        go_meet
        case rel => exact ⟨_, (decide (a1_5 ≥ (l0_0.length : Int))), ff_, H', ⟨by first | omega | exact Nat.le_refl _⟩, ⟨bk_ BK405⟩, ⟨bk_ BK406⟩, ⟨bel_⟩⟩
      ·
       rw [if_neg c12] at H; have c12b0 : ((l1_3.length : Int) == (l0_2.length : Int)) = false := beq_eq_false_iff_ne.mpr c12; have c12b1 : ((l1_3.length : Int) != (l0_2.length : Int)) = true := bne_iff_ne.mpr c12; have c12b2 : (l1_3.length == l0_2.length) = false := by first | simpa using c12 | (simp at c12 ⊢; omega)
       have H' := Aside0.mk H; clear H; have hnb20 := NB406_405.out; have hnc20 := NB405_406.out; obtain ⟨z21_0, z21_1, z21_2, z21_3, z21_4, z21_5, y21_0, y21_1, y21_2, y21_3, y21_4, y21_5⟩ := blkA6 BK406.out; obtain ⟨z22_0, z22_1, z22_2, z22_3, z22_4, y22_0, y22_1, y22_2, y22_3, y22_4⟩ := blkA5 BK405.out; go_wp2
       repeat (go_quiet (fail); try go_wp2)
       go_meet
       case rel => exact ⟨_, (true), ff_, H', ⟨by first | omega | exact Nat.le_refl _⟩, ⟨bk_ BK405⟩, ⟨bk_ BK406⟩, ⟨bel_⟩⟩
     ·
      rw [if_neg c11] at H; have c11b0 : ((l1_4.length : Int) == (l0_0.length : Int)) = false := beq_eq_false_iff_ne.mpr c11; have c11b1 : ((l1_4.length : Int) != (l0_0.length : Int)) = true := bne_iff_ne.mpr c11; have c11b2 : (l1_4.length == l0_0.length) = false := by first | simpa using c11 | (simp at c11 ⊢; omega)
      have H' := Aside0.mk H; clear H; have hnb23 := NB406_405.out; have hnc23 := NB405_406.out; obtain ⟨z24_0, z24_1, z24_2, z24_3, z24_4, z24_5, y24_0, y24_1, y24_2, y24_3, y24_4, y24_5⟩ := blkA6 BK406.out; go_wp2
      repeat (go_quiet (fail); try go_wp2)
      go_meet
      case rel => exact ⟨_, (true), ff_, H', ⟨by first | omega | exact Nat.le_refl _⟩, ⟨bk_ BK405⟩, ⟨bk_ BK406⟩, ⟨bel_⟩⟩
    ·
     rw [if_neg c10] at H; have c10b0 : ((l1_2.length : Int) == (l0_0.length : Int)) = false := beq_eq_false_iff_ne.mpr c10; have c10b1 : ((l1_2.length : Int) != (l0_0.length : Int)) = true := bne_iff_ne.mpr c10; have c10b2 : (l1_2.length == l0_0.length) = false := by first | simpa using c10 | (simp at c10 ⊢; omega)
     have H' := Aside0.mk H; clear H; have hnb25 := NB406_405.out; have hnc25 := NB405_406.out; obtain ⟨z26_0, z26_1, z26_2, z26_3, z26_4, z26_5, y26_0, y26_1, y26_2, y26_3, y26_4, y26_5⟩ := blkA6 BK406.out; go_wp2
     repeat (go_quiet (fail); try go_wp2)
     go_meet
     case rel => exact ⟨_, (true), ff_, H', ⟨by first | omega | exact Nat.le_refl _⟩, ⟨bk_ BK405⟩, ⟨bk_ BK406⟩, ⟨bel_⟩⟩
   ·
    rw [if_neg c9] at H; have c9b0 : ((l1_1.length : Int) == (l0_0.length : Int)) = false := beq_eq_false_iff_ne.mpr c9; have c9b1 : ((l1_1.length : Int) != (l0_0.length : Int)) = true := bne_iff_ne.mpr c9; have c9b2 : (l1_1.length == l0_0.length) = false := by first | simpa using c9 | (simp at c9 ⊢; omega)
    have H' := Aside0.mk H; clear H; have hnb27 := NB406_405.out; have hnc27 := NB405_406.out; obtain ⟨z28_0, z28_1, z28_2, z28_3, z28_4, z28_5, y28_0, y28_1, y28_2, y28_3, y28_4, y28_5⟩ := blkA6 BK406.out; go_wp2
    repeat (go_quiet (fail); try go_wp2)
    go_meet
    case rel => exact ⟨_, (true), ff_, H', ⟨by first | omega | exact Nat.le_refl _⟩, ⟨bk_ BK405⟩, ⟨bk_ BK406⟩, ⟨bel_⟩⟩
  ·
   rw [if_neg c8] at H; have c8b0 : ((l1_0.length : Int) == (l0_0.length : Int)) = false := beq_eq_false_iff_ne.mpr c8; have c8b1 : ((l1_0.length : Int) != (l0_0.length : Int)) = true := bne_iff_ne.mpr c8; have c8b2 : (l1_0.length == l0_0.length) = false := by first | simpa using c8 | (simp at c8 ⊢; omega)
   (first | rw [c8b0] | (simp only [i64_w, i32_w]; rw [c8b0]) | skip)
   have H' := Aside0.mk H; clear H; have hnb29 := NB406_405.out; have hnc29 := NB405_406.out; obtain ⟨z30_0, z30_1, z30_2, z30_3, z30_4, z30_5, y30_0, y30_1, y30_2, y30_3, y30_4, y30_5⟩ := blkA6 BK406.out; go_wp2
   repeat (go_quiet (fail); try go_wp2)
   go_meet
   case rel => exact ⟨_, (true), ff_, H', ⟨by first | omega | exact Nat.le_refl _⟩, ⟨bk_ BK405⟩, ⟨bk_ BK406⟩, ⟨bel_⟩⟩
 case rest =>
  clear HC3; (try clear z7_0 z7_1 z7_2 z7_3 z7_4 y7_0 y7_1 y7_2 y7_3 y7_4); obtain ⟨kq, x58_2, rfl, HA, HJ2, BK405, BK406, HB⟩ := hcut
  cases kq with
  | zero => exact absurd HA.out (by simp [sc_is.j0])
  | succ kj2 =>
   have H := HA.out; clear HA; simp only [sc_is.j0] at H
   by_cases c31 : x58_2 = true
   ·
    subst c31; have H1 : (some false) = some r := by rw [if_pos rfl] at H; exact H
    clear H; have H := H1; clear H1; obtain rfl := Option.some.inj H; go_wp2
    repeat (go_quiet (fail); try go_wp2)
    go_ret
    exact ⟨ee_, bel_⟩
   ·
    replace c31 := Bool.eq_false_iff.mpr c31; subst c31; have H1 : (sc_is.l0 kj2 l0_0 (l0_0.length : Int) 0 l0_0 l0_1 l0_2 l0_3 l0_4 l1_0 l1_1 l1_2 l1_3 l1_4 a1_5) = some r := by rw [if_neg (show ¬ (false = true) by decide)] at H; exact H
    clear H; have H := H1; clear H1; have H' := Aside0.mk H; clear H; have hnb32 := NB405_406.out; have hnc32 := NB406_405.out; obtain ⟨z33_0, z33_1, z33_2, z33_3, z33_4, y33_0, y33_1, y33_2, y33_3, y33_4⟩ := blkA5 BK405.out; go_wp2
    repeat (go_quiet (fail); try go_wp2)
    go_loopg [62] kj2 (fun kq v62 w' => ∃ (x62_2 : Int), v62 = .int .i64 x62_2 ∧ Aside0 (sc_is.l0 kq l0_0 (l0_0.length : Int) x62_2 l0_0 l0_1 l0_2 l0_3 l0_4 l1_0 l1_1 l1_2 l1_3 l1_4 a1_5 = some r) ∧ Aside0 (kq ≤ kj2) ∧ Aside0 (w'.heap[gb405]? = some (.cells #[(.slice A0_0 l0_0.length c0_0), (.slice A0_1 l0_1.length c0_1), (.slice A0_2 l0_2.length c0_2), (.slice A0_3 l0_3.length c0_3), (.slice A0_4 l0_4.length c0_4)] 28 (0, 0))) ∧ Aside0 (w'.heap[gb406]? = some (.cells #[(.slice A1_0 l1_0.length c1_0), (.slice A1_1 l1_1.length c1_1), (.slice A1_2 l1_2.length c1_2), (.slice A1_3 l1_3.length c1_3), (.slice A1_4 l1_4.length c1_4), .int .i64 a1_5] 42 (0, 0))) ∧ Aside0 (Below w.heap.size w w'))
    case atStart => exact ⟨(0), ff_, H', ⟨Nat.le_refl _⟩, ⟨bk_ BK405⟩, ⟨bk_ BK406⟩, ⟨bel_⟩⟩
    case round =>
     clear H'; (try clear c31); (try clear z33_0 z33_1 z33_2 z33_3 z33_4 y33_0 y33_1 y33_2 y33_3 y33_4); obtain ⟨x62_2, rfl, HA, HK2, BK405, BK406, HB⟩ := hrel
     cases gk with
     | zero => exact absurd HA.out (by simp [sc_is.l0])
     | succ k2 =>
      have H := HA.out; clear HA; simp only [sc_is.l0] at H
      by_cases c34 : x62_2 < (l0_0.length : Int)
      ·
       rw [if_pos c34] at H; have c34b0 : decide (x62_2 < (l0_0.length : Int)) = true := decide_eq_true c34; clear c34
       by_cases c35 : 0 ≤ x62_2
       ·
        rw [if_pos c35] at H; have c35b0 : decide (0 ≤ x62_2) = true := decide_eq_true c35; clear c35
        by_cases c36 : x62_2 < (l0_0.length : Int)
        ·
         rw [if_pos c36] at H; have c36b0 : decide (x62_2 < (l0_0.length : Int)) = true := decide_eq_true c36; clear c36; have HC37 := Aside0.mk H; clear H; have p407 : 0 ≤ (x62_2 : Int) := dt_; have q407 : x62_2 < (l0_0.length : Int) := dt_; obtain ⟨ad407, A407_0, c407_0, e407, hx407_0, hl407_0, hi407_0⟩ := at_L3 HR0_0.out x62_2 p407 q407; cases e407; replace hx407_0 := hx_ HB hx407_0; have HR407_0 := Aside0.mk hi407_0; have HC407_0 := Aside0.mk hl407_0; clear hi407_0 hl407_0; replace p407 := eq_true p407; replace q407 := eq_true q407
         go_upto_region 7 with (fail)
         repeat (go_quiet (fail); go_upto_region 7 with (fail))
         go_cut [122] (fun v122 wc => ∃ (kq : Nat) (x122_36 : Bool), v122 = .bool x122_36 ∧ Aside0 (sc_is.j2 kq x62_2 l0_0 (l0_0.length : Int) x62_2 x122_36 l0_0 l0_1 l0_2 l0_3 l0_4 l1_0 l1_1 l1_2 l1_3 l1_4 a1_5 = some r) ∧ Aside0 (kq ≤ k2) ∧ Aside0 (wc.heap[gb405]? = some (.cells #[(.slice (some ad407) l0_0.length c0_0), (.slice A0_1 l0_1.length c0_1), (.slice A0_2 l0_2.length c0_2), (.slice A0_3 l0_3.length c0_3), (.slice A0_4 l0_4.length c0_4)] 28 (0, 0))) ∧ Aside0 (wc.heap[gb406]? = some (.cells #[(.slice A1_0 l1_0.length c1_0), (.slice A1_1 l1_1.length c1_1), (.slice A1_2 l1_2.length c1_2), (.slice A1_3 l1_3.length c1_3), (.slice A1_4 l1_4.length c1_4), .int .i64 a1_5] 42 (0, 0))) ∧ Aside0 (Below w.heap.size w wc))
         case first =>
          have H := HC37.out; clear HC37
          by_cases c38 : x62_2 < (l1_0.length : Int)
          ·
           rw [if_pos c38] at H; have c38b0 : decide (x62_2 < (l1_0.length : Int)) = true := decide_eq_true c38; clear c38
           (first | rw [c38b0] | (simp only [i64_w, i32_w]; rw [c38b0]) | skip)
           by_cases c39 : (rd l1_0 x62_2) < 0
           ·
            rw [if_pos c39] at H; have c39b0 : decide ((rd l1_0 x62_2) < 0) = true := decide_eq_true c39; clear c39; have H' := Aside0.mk H; clear H; have hnb40 := NB406_405.out; have hnc40 := NB405_406.out; obtain ⟨z41_0, z41_1, z41_2, z41_3, z41_4, z41_5, y41_0, y41_1, y41_2, y41_3, y41_4, y41_5⟩ := blkA6 BK406.out; have p408 : 0 ≤ (x62_2 : Int) := dt_; have q408 : x62_2 < (l1_0.length : Int) := dt_; obtain ⟨ad408, e408, hx408_0⟩ := Kd.at_int HR1_0.out x62_2 p408 q408; cases e408; replace hx408_0 := hx_ HB hx408_0; replace p408 := eq_true p408; replace q408 := eq_true q408; go_wp2
            repeat (go_quiet (fail); try go_wp2)
            go_meet
            case rel => exact ⟨_, (true), ff_, H', ⟨by have := HJ2.out; have := HK2.out; first | omega | exact Nat.le_refl _⟩, ⟨bk_ BK405⟩, ⟨bk_ BK406⟩, ⟨bel_⟩⟩
           ·
            rw [if_neg c39] at H; have c39b0 : decide ((rd l1_0 x62_2) < 0) = false := decide_eq_false c39; clear c39
            by_cases c42 : (rd l1_0 x62_2) > ((rd_L3 l0_0 x62_2).length : Int)
            ·
             rw [if_pos c42] at H; have c42b0 : decide (((rd_L3 l0_0 x62_2).length : Int) < (rd l1_0 x62_2)) = true := decide_eq_true c42; clear c42; have H' := Aside0.mk H; clear H; have hnb43 := NB406_405.out; have hnc43 := NB405_406.out; obtain ⟨z44_0, z44_1, z44_2, z44_3, z44_4, z44_5, y44_0, y44_1, y44_2, y44_3, y44_4, y44_5⟩ := blkA6 BK406.out; have p408 : 0 ≤ (x62_2 : Int) := dt_; have q408 : x62_2 < (l1_0.length : Int) := dt_; obtain ⟨ad408, e408, hx408_0⟩ := Kd.at_int HR1_0.out x62_2 p408 q408; cases e408; replace hx408_0 := hx_ HB hx408_0; replace p408 := eq_true p408; replace q408 := eq_true q408; have p409 : 0 ≤ (x62_2 : Int) := dt_; have q409 : x62_2 < (l1_0.length : Int) := dt_; obtain ⟨ad409, e409, hx409_0⟩ := Kd.at_int HR1_0.out x62_2 p409 q409; obtain rfl : ad408 = ad409 := (by injection e409); replace hx409_0 := hx_ HB hx409_0; replace p409 := eq_true p409; replace q409 := eq_true q409; go_wp2
             repeat (go_quiet (fail); try go_wp2)
             go_meet
             case rel => exact ⟨_, (true), ff_, H', ⟨by have := HJ2.out; have := HK2.out; first | omega | exact Nat.le_refl _⟩, ⟨bk_ BK405⟩, ⟨bk_ BK406⟩, ⟨bel_⟩⟩
            ·
             rw [if_neg c42] at H; have c42b0 : decide (((rd_L3 l0_0 x62_2).length : Int) < (rd l1_0 x62_2)) = false := decide_eq_false c42; clear c42
             by_cases c45 : x62_2 < (l1_1.length : Int)
             ·
              rw [if_pos c45] at H; have c45b0 : decide (x62_2 < (l1_1.length : Int)) = true := decide_eq_true c45; clear c45
              by_cases c46 : (rd l1_1 x62_2) < 0
              ·
               rw [if_pos c46] at H; have c46b0 : decide ((rd l1_1 x62_2) < 0) = true := decide_eq_true c46; clear c46; have H' := Aside0.mk H; clear H; have hnb47 := NB406_405.out; have hnc47 := NB405_406.out; obtain ⟨z48_0, z48_1, z48_2, z48_3, z48_4, z48_5, y48_0, y48_1, y48_2, y48_3, y48_4, y48_5⟩ := blkA6 BK406.out; have p408 : 0 ≤ (x62_2 : Int) := dt_; have q408 : x62_2 < (l1_0.length : Int) := dt_; obtain ⟨ad408, e408, hx408_0⟩ := Kd.at_int HR1_0.out x62_2 p408 q408; cases e408; replace hx408_0 := hx_ HB hx408_0; replace p408 := eq_true p408; replace q408 := eq_true q408; have p409 : 0 ≤ (x62_2 : Int) := dt_; have q409 : x62_2 < (l1_0.length : Int) := dt_; obtain ⟨ad409, e409, hx409_0⟩ := Kd.at_int HR1_0.out x62_2 p409 q409; obtain rfl : ad408 = ad409 := (by injection e409); replace hx409_0 := hx_ HB hx409_0; replace p409 := eq_true p409; replace q409 := eq_true q409; have p410 : 0 ≤ (x62_2 : Int) := dt_; have q410 : x62_2 < (l1_1.length : Int) := dt_; obtain ⟨ad410, e410, hx410_0⟩ := Kd.at_int HR1_1.out x62_2 p410 q410; cases e410; replace hx410_0 := hx_ HB hx410_0; replace p410 := eq_true p410; replace q410 := eq_true q410; go_wp2
               repeat (go_quiet (fail); try go_wp2)
               go_meet
               case rel => exact ⟨_, (true), ff_, H', ⟨by have := HJ2.out; have := HK2.out; first | omega | exact Nat.le_refl _⟩, ⟨bk_ BK405⟩, ⟨bk_ BK406⟩, ⟨bel_⟩⟩
              ·
               rw [if_neg c46] at H; have c46b0 : decide ((rd l1_1 x62_2) < 0) = false := decide_eq_false c46; clear c46
               by_cases c49 : (rd l1_1 x62_2) > 2
               ·
                rw [if_pos c49] at H; have c49b0 : decide (2 < (rd l1_1 x62_2)) = true := decide_eq_true c49; clear c49; have H' := Aside0.mk H; clear H; have hnb50 := NB406_405.out; have hnc50 := NB405_406.out; obtain ⟨z51_0, z51_1, z51_2, z51_3, z51_4, z51_5, y51_0, y51_1, y51_2, y51_3, y51_4, y51_5⟩ := blkA6 BK406.out; have p408 : 0 ≤ (x62_2 : Int) := dt_; have q408 : x62_2 < (l1_0.length : Int) := dt_; obtain ⟨ad408, e408, hx408_0⟩ := Kd.at_int HR1_0.out x62_2 p408 q408; cases e408; replace hx408_0 := hx_ HB hx408_0; replace p408 := eq_true p408; replace q408 := eq_true q408; have p409 : 0 ≤ (x62_2 : Int) := dt_; have q409 : x62_2 < (l1_0.length : Int) := dt_; obtain ⟨ad409, e409, hx409_0⟩ := Kd.at_int HR1_0.out x62_2 p409 q409; obtain rfl : ad408 = ad409 := (by injection e409); replace hx409_0 := hx_ HB hx409_0; replace p409 := eq_true p409; replace q409 := eq_true q409; have p410 : 0 ≤ (x62_2 : Int) := dt_; have q410 : x62_2 < (l1_1.length : Int) := dt_; obtain ⟨ad410, e410, hx410_0⟩ := Kd.at_int HR1_1.out x62_2 p410 q410; cases e410; replace hx410_0 := hx_ HB hx410_0; replace p410 := eq_true p410; replace q410 := eq_true q410; have p411 : 0 ≤ (x62_2 : Int) := dt_; have q411 : x62_2 < (l1_1.length : Int) := dt_; obtain ⟨ad411, e411, hx411_0⟩ := Kd.at_int HR1_1.out x62_2 p411 q411; obtain rfl : ad410 = ad411 := (by injection e411); replace hx411_0 := hx_ HB hx411_0; replace p411 := eq_true p411; replace q411 := eq_true q411; go_wp2
                repeat (go_quiet (fail); try go_wp2)
                go_meet
                case rel => exact ⟨_, (true), ff_, H', ⟨by have := HJ2.out; have := HK2.out; first | omega | exact Nat.le_refl _⟩, ⟨bk_ BK405⟩, ⟨bk_ BK406⟩, ⟨bel_⟩⟩
               ·
                rw [if_neg c49] at H; have c49b0 : decide (2 < (rd l1_1 x62_2)) = false := decide_eq_false c49; clear c49
                by_cases c52 : x62_2 < (l1_2.length : Int)
                ·
                 rw [if_pos c52] at H; have c52b0 : decide (x62_2 < (l1_2.length : Int)) = true := decide_eq_true c52; clear c52
                 by_cases c53 : x62_2 < (l0_1.length : Int)
                 ·
                  rw [if_pos c53] at H; have c53b0 : decide (x62_2 < (l0_1.length : Int)) = true := decide_eq_true c53; clear c53
                  by_cases c54 : ((rd_L5 l1_2 x62_2).length : Int) = ((rd_L4 l0_1 x62_2).length : Int)
                  ·
                   rw [if_pos c54] at H; have c54b0 : (((rd_L5 l1_2 x62_2).length : Int) == ((rd_L4 l0_1 x62_2).length : Int)) = true := beq_iff_eq.mpr c54; have c54b1 : (((rd_L5 l1_2 x62_2).length : Int) != ((rd_L4 l0_1 x62_2).length : Int)) = false := bne_eq_false_iff_eq.mpr c54; have c54b2 : ((rd_L5 l1_2 x62_2).length == (rd_L4 l0_1 x62_2).length) = true := by first | simpa using c54 | (simp at c54 ⊢; omega)
                   clear c54
                   by_cases c55 : x62_2 < (l1_4.length : Int)
                   ·
                    rw [if_pos c55] at H; have c55b0 : decide (x62_2 < (l1_4.length : Int)) = true := decide_eq_true c55; clear c55; have H' := Aside0.mk H; clear H; have hnb56 := NB406_405.out; have hnc56 := NB405_406.out; obtain ⟨z57_0, z57_1, z57_2, z57_3, z57_4, z57_5, y57_0, y57_1, y57_2, y57_3, y57_4, y57_5⟩ := blkA6 BK406.out; have p408 : 0 ≤ (x62_2 : Int) := dt_; have q408 : x62_2 < (l1_0.length : Int) := dt_; obtain ⟨ad408, e408, hx408_0⟩ := Kd.at_int HR1_0.out x62_2 p408 q408; cases e408; replace hx408_0 := hx_ HB hx408_0; replace p408 := eq_true p408; replace q408 := eq_true q408; have p409 : 0 ≤ (x62_2 : Int) := dt_; have q409 : x62_2 < (l1_0.length : Int) := dt_; obtain ⟨ad409, e409, hx409_0⟩ := Kd.at_int HR1_0.out x62_2 p409 q409; obtain rfl : ad408 = ad409 := (by injection e409); replace hx409_0 := hx_ HB hx409_0; replace p409 := eq_true p409; replace q409 := eq_true q409; have p410 : 0 ≤ (x62_2 : Int) := dt_; have q410 : x62_2 < (l1_1.length : Int) := dt_; obtain ⟨ad410, e410, hx410_0⟩ := Kd.at_int HR1_1.out x62_2 p410 q410; cases e410; replace hx410_0 := hx_ HB hx410_0; replace p410 := eq_true p410; replace q410 := eq_true q410; have p411 : 0 ≤ (x62_2 : Int) := dt_; have q411 : x62_2 < (l1_1.length : Int) := dt_; obtain ⟨ad411, e411, hx411_0⟩ := Kd.at_int HR1_1.out x62_2 p411 q411; obtain rfl : ad410 = ad411 := (by injection e411); replace hx411_0 := hx_ HB hx411_0; replace p411 := eq_true p411; replace q411 := eq_true q411; have p412 : 0 ≤ (x62_2 : Int) := dt_; have q412 : x62_2 < (l1_2.length : Int) := dt_; obtain ⟨ad412, A412_0, c412_0, e412, hx412_0, hl412_0, hi412_0⟩ := at_L5 HR1_2.out x62_2 p412 q412; cases e412; replace hx412_0 := hx_ HB hx412_0; have HR412_0 := Aside0.mk hi412_0; have HC412_0 := Aside0.mk hl412_0; clear hi412_0 hl412_0; replace p412 := eq_true p412; replace q412 := eq_true q412; obtain ⟨z58_0, z58_1, z58_2, z58_3, z58_4, y58_0, y58_1, y58_2, y58_3, y58_4⟩ := blkA5 BK405.out; have p413 : 0 ≤ (x62_2 : Int) := dt_; have q413 : x62_2 < (l0_1.length : Int) := dt_; obtain ⟨ad413, A413_0, c413_0, e413, hx413_0, hl413_0, hi413_0⟩ := at_L4 HR0_1.out x62_2 p413 q413; cases e413; replace hx413_0 := hx_ HB hx413_0; have HR413_0 := Aside0.mk hi413_0; have HC413_0 := Aside0.mk hl413_0; clear hi413_0 hl413_0; replace p413 := eq_true p413; replace q413 := eq_true q413; have p414 : 0 ≤ (x62_2 : Int) := dt_; have q414 : x62_2 < (l1_4.length : Int) := dt_; obtain ⟨ad414, A414_0, c414_0, e414, hx414_0, hl414_0, hi414_0⟩ := at_L7 HR1_4.out x62_2 p414 q414; cases e414; replace hx414_0 := hx_ HB hx414_0; have HR414_0 := Aside0.mk hi414_0; have HC414_0 := Aside0.mk hl414_0; clear hi414_0 hl414_0; replace p414 := eq_true p414; replace q414 := eq_true q414; go_wp2
                    repeat (go_quiet (fail); try go_wp2)
                    go_meet
                    case rel => exact ⟨_, (decide (((rd_L7 l1_4 x62_2).length : Int) > 64)), ff_, H', ⟨by have := HJ2.out; have := HK2.out; first | omega | exact Nat.le_refl _⟩, ⟨bk_ BK405⟩, ⟨bk_ BK406⟩, ⟨bel_⟩⟩
                   ·
                    rw [if_neg c55] at H; exact absurd H (by simp)
                  ·
                   rw [if_neg c54] at H; have c54b0 : (((rd_L5 l1_2 x62_2).length : Int) == ((rd_L4 l0_1 x62_2).length : Int)) = false := beq_eq_false_iff_ne.mpr c54; have c54b1 : (((rd_L5 l1_2 x62_2).length : Int) != ((rd_L4 l0_1 x62_2).length : Int)) = true := bne_iff_ne.mpr c54; have c54b2 : ((rd_L5 l1_2 x62_2).length == (rd_L4 l0_1 x62_2).length) = false := by first | simpa using c54 | (simp at c54 ⊢; omega)
                   have H' := Aside0.mk H; clear H; have hnb59 := NB406_405.out; have hnc59 := NB405_406.out; obtain ⟨z60_0, z60_1, z60_2, z60_3, z60_4, z60_5, y60_0, y60_1, y60_2, y60_3, y60_4, y60_5⟩ := blkA6 BK406.out; have p408 : 0 ≤ (x62_2 : Int) := dt_; have q408 : x62_2 < (l1_0.length : Int) := dt_; obtain ⟨ad408, e408, hx408_0⟩ := Kd.at_int HR1_0.out x62_2 p408 q408; cases e408; replace hx408_0 := hx_ HB hx408_0; replace p408 := eq_true p408; replace q408 := eq_true q408; have p409 : 0 ≤ (x62_2 : Int) := dt_; have q409 : x62_2 < (l1_0.length : Int) := dt_; obtain ⟨ad409, e409, hx409_0⟩ := Kd.at_int HR1_0.out x62_2 p409 q409; obtain rfl : ad408 = ad409 := (by injection e409); replace hx409_0 := hx_ HB hx409_0; replace p409 := eq_true p409; replace q409 := eq_true q409; have p410 : 0 ≤ (x62_2 : Int) := dt_; have q410 : x62_2 < (l1_1.length : Int) := dt_; obtain ⟨ad410, e410, hx410_0⟩ := Kd.at_int HR1_1.out x62_2 p410 q410; cases e410; replace hx410_0 := hx_ HB hx410_0; replace p410 := eq_true p410; replace q410 := eq_true q410; have p411 : 0 ≤ (x62_2 : Int) := dt_; have q411 : x62_2 < (l1_1.length : Int) := dt_; obtain ⟨ad411, e411, hx411_0⟩ := Kd.at_int HR1_1.out x62_2 p411 q411; obtain rfl : ad410 = ad411 := (by injection e411); replace hx411_0 := hx_ HB hx411_0; replace p411 := eq_true p411; replace q411 := eq_true q411; have p412 : 0 ≤ (x62_2 : Int) := dt_; have q412 : x62_2 < (l1_2.length : Int) := dt_; obtain ⟨ad412, A412_0, c412_0, e412, hx412_0, hl412_0, hi412_0⟩ := at_L5 HR1_2.out x62_2 p412 q412; cases e412; replace hx412_0 := hx_ HB hx412_0; have HR412_0 := Aside0.mk hi412_0; have HC412_0 := Aside0.mk hl412_0; clear hi412_0 hl412_0; replace p412 := eq_true p412; replace q412 := eq_true q412; obtain ⟨z61_0, z61_1, z61_2, z61_3, z61_4, y61_0, y61_1, y61_2, y61_3, y61_4⟩ := blkA5 BK405.out; have p413 : 0 ≤ (x62_2 : Int) := dt_; have q413 : x62_2 < (l0_1.length : Int) := dt_; obtain ⟨ad413, A413_0, c413_0, e413, hx413_0, hl413_0, hi413_0⟩ := at_L4 HR0_1.out x62_2 p413 q413; cases e413; replace hx413_0 := hx_ HB hx413_0; have HR413_0 := Aside0.mk hi413_0; have HC413_0 := Aside0.mk hl413_0; clear hi413_0 hl413_0; replace p413 := eq_true p413; replace q413 := eq_true q413; go_wp2
                   repeat (go_quiet (fail); try go_wp2)
                   go_meet
                   case rel => exact ⟨_, (true), ff_, H', ⟨by have := HJ2.out; have := HK2.out; first | omega | exact Nat.le_refl _⟩, ⟨bk_ BK405⟩, ⟨bk_ BK406⟩, ⟨bel_⟩⟩
                 ·
                  rw [if_neg c53] at H; exact absurd H (by simp)
                ·
                 rw [if_neg c52] at H; exact absurd H (by simp)
             ·
              rw [if_neg c45] at H; exact absurd H (by simp)
          ·
           rw [if_neg c38] at H; exact absurd H (by simp)
         case rest =>
          clear HC37; (try clear c34b0); (try clear c35b0); (try clear c36b0); (try clear hx407_0); (try clear p407); (try clear q407); obtain ⟨kq, x122_36, rfl, HA, HJ36, BK405, BK406, HB⟩ := hcut
          cases kq with
          | zero => exact absurd HA.out (by simp [sc_is.j2])
          | succ kj36 =>
           have H := HA.out; clear HA; simp only [sc_is.j2] at H
           by_cases c62 : x122_36 = true
           ·
            subst c62; have H1 : (some false) = some r := by rw [if_pos rfl] at H; exact H
            clear H; have H := H1; clear H1; obtain rfl := Option.some.inj H; go_wp2
            repeat (go_quiet (fail); try go_wp2)
            go_ret
            exact ⟨ee_, bel_⟩
           ·
            replace c62 := Bool.eq_false_iff.mpr c62; subst c62; have H1 : (if 0 ≤ x62_2 then (if x62_2 < (l1_4.length : Int) then (sc_is.l1 kj36 l0_0 (l0_0.length : Int) x62_2 (rd_L7 l1_4 x62_2) ((rd_L7 l1_4 x62_2).length : Int) 0 l0_0 l0_1 l0_2 l0_3 l0_4 l1_0 l1_1 l1_2 l1_3 l1_4 a1_5) else (none)) else (none)) = some r := by rw [if_neg (show ¬ (false = true) by decide)] at H; exact H
            clear H; have H := H1; clear H1
            by_cases c63 : 0 ≤ x62_2
            ·
             rw [if_pos c63] at H; have c63b0 : decide (0 ≤ x62_2) = true := decide_eq_true c63; clear c63
             by_cases c64 : x62_2 < (l1_4.length : Int)
             ·
              rw [if_pos c64] at H; have c64b0 : decide (x62_2 < (l1_4.length : Int)) = true := decide_eq_true c64; clear c64; have H' := Aside0.mk H; clear H; have hnb65 := NB406_405.out; have hnc65 := NB405_406.out; obtain ⟨z66_0, z66_1, z66_2, z66_3, z66_4, z66_5, y66_0, y66_1, y66_2, y66_3, y66_4, y66_5⟩ := blkA6 BK406.out; have p415 : 0 ≤ (x62_2 : Int) := dt_; have q415 : x62_2 < (l1_4.length : Int) := dt_; obtain ⟨ad415, A415_0, c415_0, e415, hx415_0, hl415_0, hi415_0⟩ := at_L7 HR1_4.out x62_2 p415 q415; cases e415; replace hx415_0 := hx_ HB hx415_0; have HR415_0 := Aside0.mk hi415_0; have HC415_0 := Aside0.mk hl415_0; clear hi415_0 hl415_0; replace p415 := eq_true p415; replace q415 := eq_true q415; go_wp2
              repeat (go_quiet (fail); try go_wp2)
              go_loopg [129] kj36 (fun kq v129 w' => ∃ (x129_4 : Int), v129 = .int .i64 x129_4 ∧ Aside0 (sc_is.l1 kq l0_0 (l0_0.length : Int) x62_2 (rd_L7 l1_4 x62_2) ((rd_L7 l1_4 x62_2).length : Int) x129_4 l0_0 l0_1 l0_2 l0_3 l0_4 l1_0 l1_1 l1_2 l1_3 l1_4 a1_5 = some r) ∧ Aside0 (kq ≤ kj36) ∧ Aside0 (w'.heap[gb405]? = some (.cells #[(.slice (some ad407) l0_0.length c0_0), (.slice A0_1 l0_1.length c0_1), (.slice A0_2 l0_2.length c0_2), (.slice A0_3 l0_3.length c0_3), (.slice A0_4 l0_4.length c0_4)] 28 (0, 0))) ∧ Aside0 (w'.heap[gb406]? = some (.cells #[(.slice A1_0 l1_0.length c1_0), (.slice A1_1 l1_1.length c1_1), (.slice A1_2 l1_2.length c1_2), (.slice A1_3 l1_3.length c1_3), (.slice (some ad415) l1_4.length c1_4), .int .i64 a1_5] 42 (0, 0))) ∧ Aside0 (Below w.heap.size w w'))
              case atStart => exact ⟨(0), ff_, H', ⟨Nat.le_refl _⟩, ⟨bk_ BK405⟩, ⟨bk_ BK406⟩, ⟨bel_⟩⟩
              case round =>
               clear H'; (try clear c62); (try clear c63b0); (try clear c64b0); (try clear z66_0 z66_1 z66_2 z66_3 z66_4 z66_5 y66_0 y66_1 y66_2 y66_3 y66_4 y66_5); (try clear hx415_0); (try clear p415); (try clear q415); obtain ⟨x129_4, rfl, HA, HK4, BK405, BK406, HB⟩ := hrel
               cases gk with
               | zero => exact absurd HA.out (by simp [sc_is.l1])
               | succ k4 =>
                have H := HA.out; clear HA; simp only [sc_is.l1] at H
                by_cases c67 : x129_4 < ((rd_L7 l1_4 x62_2).length : Int)
                ·
                 rw [if_pos c67] at H; have c67b0 : decide (x129_4 < ((rd_L7 l1_4 x62_2).length : Int)) = true := decide_eq_true c67; clear c67
                 by_cases c68 : 0 ≤ x129_4
                 ·
                  rw [if_pos c68] at H; have c68b0 : decide (0 ≤ x129_4) = true := decide_eq_true c68; clear c68
                  by_cases c69 : x129_4 < ((rd_L7 l1_4 x62_2).length : Int)
                  ·
                   rw [if_pos c69] at H; have c69b0 : decide (x129_4 < ((rd_L7 l1_4 x62_2).length : Int)) = true := decide_eq_true c69; clear c69
                   by_cases c70 : ((rd_T59 (rd_L7 l1_4 x62_2) x129_4).f0) < 0
                   ·
                    rw [if_pos c70] at H; have c70b0 : decide (((rd_T59 (rd_L7 l1_4 x62_2) x129_4).f0) < 0) = true := decide_eq_true c70; clear c70; obtain rfl := Option.some.inj H; have p416 : 0 ≤ (x129_4 : Int) := dt_; have q416 : x129_4 < ((rd_L7 l1_4 x62_2).length : Int) := dt_; obtain ⟨ad416, e416, hx416_0, hx416_1⟩ := at_T59 HR415_0.out x129_4 p416 q416; cases e416; replace hx416_0 := hx_ HB hx416_0; replace hx416_1 := hx_ HB hx416_1; replace p416 := eq_true p416; replace q416 := eq_true q416
                    go_wp2_with (first | ((with_reducible refine gate_dst (N := 9) rfl ?_); (try (refine gate_guard (by rfl) ?_; dsimp only)); refine bx_ (N := 9) (cs := #[.int .i64 0, .int .i64 0]) (t := 59) ?_; intro gb417 hg w71 hbox hb; have n0_ := bb_ BK405 hb; have n1_ := bb_ BK406 hb; have n2_ := bs_ w hb; have n3_ := Aside0.mk (hbox); have n4_ := gl_ w hg; have n5_ := n4_; have n6_ := nl_ BK405 hg; have n7_ := ng_ BK405 hg; have n8_ := nl_ BK406 hg; have n9_ := ng_ BK406 hg; clear BK405; clear BK406; clear HB; have BK405 := n0_; have BK406 := n1_; have HB := n2_; have BK417 := n3_; have GW417 := n4_; have GE417 := n5_; have NB405_417 := n6_; have NB417_405 := n7_; have NB406_417 := n8_; have NB417_406 := n9_; clear n0_ n1_ n2_ n3_ n4_ n5_ n6_ n7_ n8_ n9_; clear hb hbox hg; have hnb72 := NB417_405.out; have hnc72 := NB405_417.out; have hnb73 := NB417_406.out; have hnc73 := NB406_417.out; obtain ⟨z74_0, z74_1, y74_0, y74_1⟩ := blkA2 BK417.out))
                    repeat (go_quiet (first | ((with_reducible refine gate_dst (N := 9) rfl ?_); (try (refine gate_guard (by rfl) ?_; dsimp only)); refine bx_ (N := 9) (cs := #[.int .i64 0, .int .i64 0]) (t := 59) ?_; intro gb417 hg w71 hbox hb; have n0_ := bb_ BK405 hb; have n1_ := bb_ BK406 hb; have n2_ := bs_ w hb; have n3_ := Aside0.mk (hbox); have n4_ := gl_ w hg; have n5_ := n4_; have n6_ := nl_ BK405 hg; have n7_ := ng_ BK405 hg; have n8_ := nl_ BK406 hg; have n9_ := ng_ BK406 hg; clear BK405; clear BK406; clear HB; have BK405 := n0_; have BK406 := n1_; have HB := n2_; have BK417 := n3_; have GW417 := n4_; have GE417 := n5_; have NB405_417 := n6_; have NB417_405 := n7_; have NB406_417 := n8_; have NB417_406 := n9_; clear n0_ n1_ n2_ n3_ n4_ n5_ n6_ n7_ n8_ n9_; clear hb hbox hg; have hnb72 := NB417_405.out; have hnc72 := NB405_417.out; have hnb73 := NB417_406.out; have hnc73 := NB406_417.out; obtain ⟨z74_0, z74_1, y74_0, y74_1⟩ := blkA2 BK417.out)); try go_wp2_with (first | ((with_reducible refine gate_dst (N := 9) rfl ?_); (try (refine gate_guard (by rfl) ?_; dsimp only)); refine bx_ (N := 9) (cs := #[.int .i64 0, .int .i64 0]) (t := 59) ?_; intro gb417 hg w71 hbox hb; have n0_ := bb_ BK405 hb; have n1_ := bb_ BK406 hb; have n2_ := bs_ w hb; have n3_ := Aside0.mk (hbox); have n4_ := gl_ w hg; have n5_ := n4_; have n6_ := nl_ BK405 hg; have n7_ := ng_ BK405 hg; have n8_ := nl_ BK406 hg; have n9_ := ng_ BK406 hg; clear BK405; clear BK406; clear HB; have BK405 := n0_; have BK406 := n1_; have HB := n2_; have BK417 := n3_; have GW417 := n4_; have GE417 := n5_; have NB405_417 := n6_; have NB417_405 := n7_; have NB406_417 := n8_; have NB417_406 := n9_; clear n0_ n1_ n2_ n3_ n4_ n5_ n6_ n7_ n8_ n9_; clear hb hbox hg; have hnb72 := NB417_405.out; have hnc72 := NB405_417.out; have hnb73 := NB417_406.out; have hnc73 := NB406_417.out; obtain ⟨z74_0, z74_1, y74_0, y74_1⟩ := blkA2 BK417.out)))
                    go_ret
                    exact ⟨ee_, bel_⟩
                   ·
                    rw [if_neg c70] at H; have c70b0 : decide (((rd_T59 (rd_L7 l1_4 x62_2) x129_4).f0) < 0) = false := decide_eq_false c70; clear c70
                    by_cases c75 : ((rd_T59 (rd_L7 l1_4 x62_2) x129_4).f0) ≥ (l0_2.length : Int)
                    ·
                     rw [if_pos c75] at H; have c75b0 : decide ((l0_2.length : Int) ≤ ((rd_T59 (rd_L7 l1_4 x62_2) x129_4).f0)) = true := decide_eq_true c75; clear c75; obtain rfl := Option.some.inj H; have p416 : 0 ≤ (x129_4 : Int) := dt_; have q416 : x129_4 < ((rd_L7 l1_4 x62_2).length : Int) := dt_; obtain ⟨ad416, e416, hx416_0, hx416_1⟩ := at_T59 HR415_0.out x129_4 p416 q416; cases e416; replace hx416_0 := hx_ HB hx416_0; replace hx416_1 := hx_ HB hx416_1; replace p416 := eq_true p416; replace q416 := eq_true q416
                     go_wp2_with (first | ((with_reducible refine gate_dst (N := 9) rfl ?_); (try (refine gate_guard (by rfl) ?_; dsimp only)); refine bx_ (N := 9) (cs := #[.int .i64 0, .int .i64 0]) (t := 59) ?_; intro gb417 hg w76 hbox hb; have n0_ := bb_ BK405 hb; have n1_ := bb_ BK406 hb; have n2_ := bs_ w hb; have n3_ := Aside0.mk (hbox); have n4_ := gl_ w hg; have n5_ := n4_; have n6_ := nl_ BK405 hg; have n7_ := ng_ BK405 hg; have n8_ := nl_ BK406 hg; have n9_ := ng_ BK406 hg; clear BK405; clear BK406; clear HB; have BK405 := n0_; have BK406 := n1_; have HB := n2_; have BK417 := n3_; have GW417 := n4_; have GE417 := n5_; have NB405_417 := n6_; have NB417_405 := n7_; have NB406_417 := n8_; have NB417_406 := n9_; clear n0_ n1_ n2_ n3_ n4_ n5_ n6_ n7_ n8_ n9_; clear hb hbox hg; have hnb77 := NB417_405.out; have hnc77 := NB405_417.out; have hnb78 := NB417_406.out; have hnc78 := NB406_417.out; obtain ⟨z79_0, z79_1, y79_0, y79_1⟩ := blkA2 BK417.out; have hnb80 := NB405_406.out; have hnc80 := NB406_405.out; obtain ⟨z81_0, z81_1, z81_2, z81_3, z81_4, y81_0, y81_1, y81_2, y81_3, y81_4⟩ := blkA5 BK405.out))
                     repeat (go_quiet (first | ((with_reducible refine gate_dst (N := 9) rfl ?_); (try (refine gate_guard (by rfl) ?_; dsimp only)); refine bx_ (N := 9) (cs := #[.int .i64 0, .int .i64 0]) (t := 59) ?_; intro gb417 hg w76 hbox hb; have n0_ := bb_ BK405 hb; have n1_ := bb_ BK406 hb; have n2_ := bs_ w hb; have n3_ := Aside0.mk (hbox); have n4_ := gl_ w hg; have n5_ := n4_; have n6_ := nl_ BK405 hg; have n7_ := ng_ BK405 hg; have n8_ := nl_ BK406 hg; have n9_ := ng_ BK406 hg; clear BK405; clear BK406; clear HB; have BK405 := n0_; have BK406 := n1_; have HB := n2_; have BK417 := n3_; have GW417 := n4_; have GE417 := n5_; have NB405_417 := n6_; have NB417_405 := n7_; have NB406_417 := n8_; have NB417_406 := n9_; clear n0_ n1_ n2_ n3_ n4_ n5_ n6_ n7_ n8_ n9_; clear hb hbox hg; have hnb77 := NB417_405.out; have hnc77 := NB405_417.out; have hnb78 := NB417_406.out; have hnc78 := NB406_417.out; obtain ⟨z79_0, z79_1, y79_0, y79_1⟩ := blkA2 BK417.out; have hnb80 := NB405_406.out; have hnc80 := NB406_405.out; obtain ⟨z81_0, z81_1, z81_2, z81_3, z81_4, y81_0, y81_1, y81_2, y81_3, y81_4⟩ := blkA5 BK405.out)); try go_wp2_with (first | ((with_reducible refine gate_dst (N := 9) rfl ?_); (try (refine gate_guard (by rfl) ?_; dsimp only)); refine bx_ (N := 9) (cs := #[.int .i64 0, .int .i64 0]) (t := 59) ?_; intro gb417 hg w76 hbox hb; have n0_ := bb_ BK405 hb; have n1_ := bb_ BK406 hb; have n2_ := bs_ w hb; have n3_ := Aside0.mk (hbox); have n4_ := gl_ w hg; have n5_ := n4_; have n6_ := nl_ BK405 hg; have n7_ := ng_ BK405 hg; have n8_ := nl_ BK406 hg; have n9_ := ng_ BK406 hg; clear BK405; clear BK406; clear HB; have BK405 := n0_; have BK406 := n1_; have HB := n2_; have BK417 := n3_; have GW417 := n4_; have GE417 := n5_; have NB405_417 := n6_; have NB417_405 := n7_; have NB406_417 := n8_; have NB417_406 := n9_; clear n0_ n1_ n2_ n3_ n4_ n5_ n6_ n7_ n8_ n9_; clear hb hbox hg; have hnb77 := NB417_405.out; have hnc77 := NB405_417.out; have hnb78 := NB417_406.out; have hnc78 := NB406_417.out; obtain ⟨z79_0, z79_1, y79_0, y79_1⟩ := blkA2 BK417.out; have hnb80 := NB405_406.out; have hnc80 := NB406_405.out; obtain ⟨z81_0, z81_1, z81_2, z81_3, z81_4, y81_0, y81_1, y81_2, y81_3, y81_4⟩ := blkA5 BK405.out)))
                     go_ret
                     exact ⟨ee_, bel_⟩
                    ·
                     rw [if_neg c75] at H; have c75b0 : decide ((l0_2.length : Int) ≤ ((rd_T59 (rd_L7 l1_4 x62_2) x129_4).f0)) = false := decide_eq_false c75; clear c75; have H' := Aside0.mk H; clear H; have p416 : 0 ≤ (x129_4 : Int) := dt_; have q416 : x129_4 < ((rd_L7 l1_4 x62_2).length : Int) := dt_; obtain ⟨ad416, e416, hx416_0, hx416_1⟩ := at_T59 HR415_0.out x129_4 p416 q416; cases e416; replace hx416_0 := hx_ HB hx416_0; replace hx416_1 := hx_ HB hx416_1; replace p416 := eq_true p416; replace q416 := eq_true q416
                     go_wp2_with (first | ((with_reducible refine gate_dst (N := 9) rfl ?_); (try (refine gate_guard (by rfl) ?_; dsimp only)); refine bx_ (N := 9) (cs := #[.int .i64 0, .int .i64 0]) (t := 59) ?_; intro gb417 hg w82 hbox hb; have n0_ := bb_ BK405 hb; have n1_ := bb_ BK406 hb; have n2_ := bs_ w hb; have n3_ := Aside0.mk (hbox); have n4_ := gl_ w hg; have n5_ := n4_; have n6_ := nl_ BK405 hg; have n7_ := ng_ BK405 hg; have n8_ := nl_ BK406 hg; have n9_ := ng_ BK406 hg; clear BK405; clear BK406; clear HB; have BK405 := n0_; have BK406 := n1_; have HB := n2_; have BK417 := n3_; have GW417 := n4_; have GE417 := n5_; have NB405_417 := n6_; have NB417_405 := n7_; have NB406_417 := n8_; have NB417_406 := n9_; clear n0_ n1_ n2_ n3_ n4_ n5_ n6_ n7_ n8_ n9_; clear hb hbox hg; have hnb83 := NB417_405.out; have hnc83 := NB405_417.out; have hnb84 := NB417_406.out; have hnc84 := NB406_417.out; obtain ⟨z85_0, z85_1, y85_0, y85_1⟩ := blkA2 BK417.out; have hnb86 := NB405_406.out; have hnc86 := NB406_405.out; obtain ⟨z87_0, z87_1, z87_2, z87_3, z87_4, y87_0, y87_1, y87_2, y87_3, y87_4⟩ := blkA5 BK405.out))
                     repeat (go_quiet (first | ((with_reducible refine gate_dst (N := 9) rfl ?_); (try (refine gate_guard (by rfl) ?_; dsimp only)); refine bx_ (N := 9) (cs := #[.int .i64 0, .int .i64 0]) (t := 59) ?_; intro gb417 hg w82 hbox hb; have n0_ := bb_ BK405 hb; have n1_ := bb_ BK406 hb; have n2_ := bs_ w hb; have n3_ := Aside0.mk (hbox); have n4_ := gl_ w hg; have n5_ := n4_; have n6_ := nl_ BK405 hg; have n7_ := ng_ BK405 hg; have n8_ := nl_ BK406 hg; have n9_ := ng_ BK406 hg; clear BK405; clear BK406; clear HB; have BK405 := n0_; have BK406 := n1_; have HB := n2_; have BK417 := n3_; have GW417 := n4_; have GE417 := n5_; have NB405_417 := n6_; have NB417_405 := n7_; have NB406_417 := n8_; have NB417_406 := n9_; clear n0_ n1_ n2_ n3_ n4_ n5_ n6_ n7_ n8_ n9_; clear hb hbox hg; have hnb83 := NB417_405.out; have hnc83 := NB405_417.out; have hnb84 := NB417_406.out; have hnc84 := NB406_417.out; obtain ⟨z85_0, z85_1, y85_0, y85_1⟩ := blkA2 BK417.out; have hnb86 := NB405_406.out; have hnc86 := NB406_405.out; obtain ⟨z87_0, z87_1, z87_2, z87_3, z87_4, y87_0, y87_1, y87_2, y87_3, y87_4⟩ := blkA5 BK405.out)); try go_wp2_with (first | ((with_reducible refine gate_dst (N := 9) rfl ?_); (try (refine gate_guard (by rfl) ?_; dsimp only)); refine bx_ (N := 9) (cs := #[.int .i64 0, .int .i64 0]) (t := 59) ?_; intro gb417 hg w82 hbox hb; have n0_ := bb_ BK405 hb; have n1_ := bb_ BK406 hb; have n2_ := bs_ w hb; have n3_ := Aside0.mk (hbox); have n4_ := gl_ w hg; have n5_ := n4_; have n6_ := nl_ BK405 hg; have n7_ := ng_ BK405 hg; have n8_ := nl_ BK406 hg; have n9_ := ng_ BK406 hg; clear BK405; clear BK406; clear HB; have BK405 := n0_; have BK406 := n1_; have HB := n2_; have BK417 := n3_; have GW417 := n4_; have GE417 := n5_; have NB405_417 := n6_; have NB417_405 := n7_; have NB406_417 := n8_; have NB417_406 := n9_; clear n0_ n1_ n2_ n3_ n4_ n5_ n6_ n7_ n8_ n9_; clear hb hbox hg; have hnb83 := NB417_405.out; have hnc83 := NB405_417.out; have hnb84 := NB417_406.out; have hnc84 := NB406_417.out; obtain ⟨z85_0, z85_1, y85_0, y85_1⟩ := blkA2 BK417.out; have hnb86 := NB405_406.out; have hnc86 := NB406_405.out; obtain ⟨z87_0, z87_1, z87_2, z87_3, z87_4, y87_0, y87_1, y87_2, y87_3, y87_4⟩ := blkA5 BK405.out)))
                     go_roundg k4
                     case measure => have := HJ2.out; have := HK2.out; have := HJ36.out; have := HK4.out; omega
                     case rel => exact ⟨(wrap64 (x129_4 + 1)), ff_, H', ⟨by have := HJ2.out; have := HK2.out; have := HJ36.out; have := HK4.out; omega⟩, ⟨bk_ BK405⟩, ⟨bk_ BK406⟩, ⟨bel_⟩⟩
                  ·
                   rw [if_neg c69] at H; exact absurd H (by simp)
                 ·
                  rw [if_neg c68] at H; exact absurd H (by simp)
                ·
                 rw [if_neg c67] at H; have c67b0 : decide (x129_4 < ((rd_L7 l1_4 x62_2).length : Int)) = false := decide_eq_false c67; clear c67; have H' := Aside0.mk H; clear H; go_wp2
                 repeat (go_quiet (fail); try go_wp2)
                 go_roundg k4
                 case measure => have := HJ2.out; have := HK2.out; have := HJ36.out; have := HK4.out; omega
                 case rel => exact ⟨(wrap64 (x62_2 + 1)), ff_, H', ⟨by have := HJ2.out; have := HK2.out; have := HJ36.out; have := HK4.out; omega⟩, ⟨bk_ BK405⟩, ⟨bk_ BK406⟩, ⟨bel_⟩⟩
             ·
              rw [if_neg c64] at H; exact absurd H (by simp)
            ·
             rw [if_neg c63] at H; exact absurd H (by simp)
        ·
         rw [if_neg c36] at H; exact absurd H (by simp)
       ·
        rw [if_neg c35] at H; exact absurd H (by simp)
      ·
       rw [if_neg c34] at H; have c34b0 : decide (x62_2 < (l0_0.length : Int)) = false := decide_eq_false c34; clear c34; obtain rfl := Option.some.inj H; go_wp2
       repeat (go_quiet (fail); try go_wp2)
       go_ret
       exact ⟨ee_, bel_⟩

end Go.Proofs.Ytemhpbdlonfikaa.P
