-- Printed by xprint.py, a program of this session over the kit's printer.
import Derived.Test.YtemhpbdlonfikaaP3
namespace Go.Proofs.Ytemhpbdlonfikaa.P
open Go.RowKit Go.Proofs.YtemhpbdlonfikaaW.PrintWords Go.Proofs.YtemhpbdlonfikaaW.PrintLast Go.Proofs.YtemhpbdlonfikaaW.PrintMore
attribute [local go_sem] max2_int min2_int max_two min_two max_three min_three max_four min_four   -- for this text's walks alone

/-! ### lexis_name: function 103 -/
mutual
def lexis_name.j0 : Nat → ByteArray → Bool → Option (Int)
 | 0, _, _ => none
 | k + 1, x0, x13 => if x13 = true then (some 0) else (lexis_name.l0 k x0 1)
def lexis_name.l0 : Nat → ByteArray → Int → Option (Int)
 | 0, _, _ => none
 | k + 1, x0, x3 => (lexis_byteAt.f x0 x3).bind fun t106 => ((lexis_byteAt.f x0 (wrap64 (x3 + 1))).bind fun t107 => (if x3 = (x0.size : Int) then (some x3) else ((lexis_letter.f t106).bind fun t108 => (if t108 = true then (lexis_name.j2 k x0 x3 t106 t107 t108) else ((lexis_digit.f t106).bind fun t109 => (if t109 = true then (lexis_name.j2 k x0 x3 t106 t107 t109) else (lexis_name.j2 k x0 x3 t106 t107 (t106 == 46))))))))
def lexis_name.j2 : Nat → ByteArray → Int → Int → Int → Bool → Option (Int)
 | 0, _, _, _, _, _ => none
 | k + 1, x0, x3, x4, x5, x30 => if x30 = true then (lexis_name.l0 k x0 (wrap64 (x3 + 1))) else (if x4 = 43 then ((lexis_letter.f x5).bind fun t110 => (if t110 = true then (lexis_name.l0 k x0 (wrap64 (x3 + 1))) else ((lexis_digit.f x5).bind fun t111 => (if t111 = true then (lexis_name.l0 k x0 (wrap64 (x3 + 1))) else (some x3))))) else (if x4 = 45 then ((lexis_letter.f x5).bind fun t112 => (if t112 = true then (lexis_name.l0 k x0 (wrap64 (x3 + 1))) else ((lexis_digit.f x5).bind fun t113 => (if t113 = true then (lexis_name.l0 k x0 (wrap64 (x3 + 1))) else (some x3))))) else (some x3)))
end
def lexis_name.f (k : Nat) (a0 : ByteArray) : Option (Int) := if a0.toList = ([] : List UInt8) then (lexis_name.j0 k a0 true) else (if 0 < (a0.size : Int) then ((lexis_letter.f (bt a0 0)).bind fun t105 => (lexis_name.j0 k a0 (!t105))) else (none))
theorem lexis_name.mono_l : ∀ k, (∀ y0 y1, LeO (lexis_name.j0 k y0 y1) (lexis_name.j0 (k + 1) y0 y1)) ∧ (∀ y0 y1, LeO (lexis_name.l0 k y0 y1) (lexis_name.l0 (k + 1) y0 y1)) ∧ (∀ y0 y1 y2 y3 y4, LeO (lexis_name.j2 k y0 y1 y2 y3 y4) (lexis_name.j2 (k + 1) y0 y1 y2 y3 y4))
 | 0 => ⟨fun _ _ r h => by simp [lexis_name.j0] at h, fun _ _ r h => by simp [lexis_name.l0] at h, fun _ _ _ _ _ r h => by simp [lexis_name.j2] at h⟩
 | k + 1 => by
  obtain ⟨ih0, ih1, ih2⟩ := lexis_name.mono_l k; refine ⟨?_, ?_, ?_⟩; intro y0 y1; unfold lexis_name.j0; rotate_left; intro y0 y1; unfold lexis_name.l0; rotate_left; intro y0 y1 y2 y3 y4; unfold lexis_name.j2; rotate_left
  all_goals (repeat' first
   | (with_reducible exact ih0 _ _)
   | (with_reducible exact ih1 _ _)
   | (with_reducible exact ih2 _ _ _ _ _)
   | (with_reducible exact LeO.refl _)
   | (with_reducible exact LeO.none _)
   | (with_reducible refine LeO.ite ?_ ?_)
   | (with_reducible refine LeO.bind ?_ (fun _ => ?_))
   | exact ih0 _ _
   | exact ih1 _ _
   | exact ih2 _ _ _ _ _
   | exact LeO.none _
   | refine LeO.ite ?_ ?_
   | refine LeO.bind ?_ (fun _ => ?_))
theorem lexis_name.mono : ∀ a0 k, LeO (lexis_name.f k a0) (lexis_name.f (k + 1) a0) := by
 intro a0 k; obtain ⟨ih0, ih1, ih2⟩ := lexis_name.mono_l k; unfold lexis_name.f
 repeat' first
   | (with_reducible exact ih0 _ _)
   | (with_reducible exact ih1 _ _)
   | (with_reducible exact ih2 _ _ _ _ _)
   | (with_reducible exact LeO.refl _)
   | (with_reducible exact LeO.none _)
   | (with_reducible refine LeO.ite ?_ ?_)
   | (with_reducible refine LeO.bind ?_ (fun _ => ?_))
   | exact ih0 _ _
   | exact ih1 _ _
   | exact ih2 _ _ _ _ _
   | exact LeO.none _
   | refine LeO.ite ?_ ?_
   | refine LeO.bind ?_ (fun _ => ?_)
set_option maxHeartbeats 8000000 in
set_option maxRecDepth 100000 in
theorem lexis_name.calls (k : Nat) (a0 : ByteArray) (r : Int) (w : World) (h : lexis_name.f k a0 = some r) :
  Calls Try.prog 103 #[.string a0] w fun e w' => e = .returned (.int .i64 r) ∧ Drawn0 w w' := by
 have H : (if a0.toList = ([] : List UInt8) then (lexis_name.j0 k a0 true) else (if 0 < (a0.size : Int) then ((lexis_letter.f (bt a0 0)).bind fun t105 => (lexis_name.j0 k a0 (!t105))) else (none))) = some r := h; clear h; have HC2 := Aside0.mk H; clear H; go_enter Try.func103, Try.ntmps103
 go_upto_region 1 with (fail)
 go_cut [13] (fun v13 wc => ∃ (kq : Nat) (x13_1 : Bool), v13 = .bool x13_1 ∧ Aside0 (lexis_name.j0 kq a0 x13_1 = some r) ∧ Aside0 (kq ≤ k) ∧ Drawn0 w wc)
 case first =>
  have H := HC2.out; clear HC2
  by_cases c3 : a0.toList = ([] : List UInt8)
  ·
   rw [if_pos c3] at H; have c3b0 : (a0.toList == ([] : List UInt8)) = true := beq_iff_eq.mpr c3; have c3b1 : (a0.toList != ([] : List UInt8)) = false := bne_eq_false_iff_eq.mpr c3; clear c3
   (first | rw [c3b0] | (simp only [i64_w, i32_w]; rw [c3b0]) | skip)
   have H' := Aside0.mk H; clear H; go_wp2; go_meet
   case rel => exact ⟨_, (true), ff_, H', ⟨by first | omega | exact Nat.le_refl _⟩, by repeat (first | exact Drawn0.refl _ | apply Drawn0.step)⟩
  ·
   rw [if_neg c3] at H; have c3b0 : (a0.toList == ([] : List UInt8)) = false := beq_eq_false_iff_ne.mpr c3; have c3b1 : (a0.toList != ([] : List UInt8)) = true := bne_iff_ne.mpr c3
   (first | rw [c3b0] | (simp only [i64_w, i32_w]; rw [c3b0]) | skip)
   by_cases c4 : 0 < (a0.size : Int)
   ·
    rw [if_pos c4] at H; have c4b0 : decide (0 < (a0.size : Int)) = true := decide_eq_true c4; have c4b1 : decide (0 < a0.size) = true := decide_eq_true (by omega); clear c4; replace H := Option.bind_eq_some_iff.mp H; obtain ⟨t105, A60, H⟩ := H; replace H : (lexis_name.j0 k a0 (!t105)) = some r := H; have A6 := Aside0.mk A60; clear A60; have H' := Aside0.mk H; clear H; have p5 : 0 ≤ (0 : Int) := (by omega); have q5 : 0 < a0.size := (by have : (0 : Int) < (a0.size : Int) := dt_; omega); have hx5 : ∀ h : 0 < a0.size, ((a0[0]'h).toNat : Int) = bt a0 0 := bt_at a0 0; clear p5; have qi5 : (0 < (a0.size : Int)) = True := eq_true (dt_); replace q5 := eq_true q5
    go_wp2_with (first | (go_at_call 114; (with_reducible refine (lexis_letter.calls (bt a0 0) t105 _ A6.out).mono ?_); rintro e w' ⟨rfl, ⟨nd, rfl⟩⟩))
    go_meet
    case rel => exact ⟨_, (!t105), ff_, H', ⟨by first | omega | exact Nat.le_refl _⟩, by repeat (first | exact Drawn0.refl _ | apply Drawn0.step)⟩
   ·
    rw [if_neg c4] at H; exact absurd H (by simp)
 case rest =>
  clear HC2; obtain ⟨kq, x13_1, rfl, HA, HJ1, ⟨mc1, rfl⟩⟩ := hcut
  cases kq with
  | zero => exact absurd HA.out (by simp [lexis_name.j0])
  | succ kj1 =>
   have H := HA.out; clear HA; simp only [lexis_name.j0] at H
   by_cases c7 : x13_1 = true
   ·
    subst c7; have H1 : (some 0) = some r := by rw [if_pos rfl] at H; exact H
    clear H; have H := H1; clear H1; obtain rfl := Option.some.inj H; go_wp2
    go_ret
    exact ⟨ff_, by repeat (first | exact Drawn0.refl _ | apply Drawn0.step)⟩
   ·
    replace c7 := Bool.eq_false_iff.mpr c7; subst c7; have H1 : (lexis_name.l0 kj1 a0 1) = some r := by rw [if_neg (show ¬ (false = true) by decide)] at H; exact H
    clear H; have H := H1; clear H1; have H' := Aside0.mk H; clear H; go_wp2
    go_loopg [3] kj1 (fun kq v3 w' => ∃ (x3_2 : Int), v3 = .int .i64 x3_2 ∧ Aside0 (lexis_name.l0 kq a0 x3_2 = some r) ∧ Aside0 (kq ≤ kj1) ∧ Drawn0 w w')
    case atStart => exact ⟨(1), ff_, H', ⟨Nat.le_refl _⟩, by repeat (first | exact Drawn0.refl _ | apply Drawn0.step)⟩
    case round =>
     clear H'; (try clear c7); obtain ⟨x3_2, rfl, HA, HK2, ⟨m2, rfl⟩⟩ := hrel
     cases gk with
     | zero => exact absurd HA.out (by simp [lexis_name.l0])
     | succ k2 =>
      have H := HA.out; clear HA; simp only [lexis_name.l0] at H; replace H := Option.bind_eq_some_iff.mp H; obtain ⟨t106, A80, H⟩ := H; replace H : ((lexis_byteAt.f a0 (wrap64 (x3_2 + 1))).bind fun t107 => (if x3_2 = (a0.size : Int) then (some x3_2) else ((lexis_letter.f t106).bind fun t108 => (if t108 = true then (lexis_name.j2 k2 a0 x3_2 t106 t107 t108) else ((lexis_digit.f t106).bind fun t109 => (if t109 = true then (lexis_name.j2 k2 a0 x3_2 t106 t107 t109) else (lexis_name.j2 k2 a0 x3_2 t106 t107 (t106 == 46)))))))) = some r := H; have A8 := Aside0.mk A80; clear A80; replace H := Option.bind_eq_some_iff.mp H; obtain ⟨t107, A90, H⟩ := H; replace H : (if x3_2 = (a0.size : Int) then (some x3_2) else ((lexis_letter.f t106).bind fun t108 => (if t108 = true then (lexis_name.j2 k2 a0 x3_2 t106 t107 t108) else ((lexis_digit.f t106).bind fun t109 => (if t109 = true then (lexis_name.j2 k2 a0 x3_2 t106 t107 t109) else (lexis_name.j2 k2 a0 x3_2 t106 t107 (t106 == 46))))))) = some r := H; have A9 := Aside0.mk A90; clear A90
      by_cases c10 : x3_2 = (a0.size : Int)
      ·
       rw [if_pos c10] at H; have c10b0 : (x3_2 == (a0.size : Int)) = true := beq_iff_eq.mpr c10; have c10b1 : (x3_2 != (a0.size : Int)) = false := bne_eq_false_iff_eq.mpr c10; clear c10; obtain rfl := Option.some.inj H
       go_wp2_with (first | ((with_reducible refine gate_callee (f := 115) rfl ?_); refine goesL_ (some 18) rfl rfl Try.func115 (by kernel_rfl) rfl #[.string a0, .int .i64 x3_2] rfl ag_ ?_; (with_reducible refine (lexis_byteAt.calls a0 x3_2 t106 _ A8.out).mono ?_); rintro e w' ⟨rfl, ⟨nd, rfl⟩⟩; refine ⟨_, rfl, ?_⟩) | ((with_reducible refine gate_callee (f := 115) rfl ?_); refine goesL_ (some 22) rfl rfl Try.func115 (by kernel_rfl) rfl #[.string a0, .int .i64 (wrap64 (x3_2 + 1))] rfl ag_ ?_; (with_reducible refine (lexis_byteAt.calls a0 (wrap64 (x3_2 + 1)) t107 _ A9.out).mono ?_); rintro e w' ⟨rfl, ⟨nd, rfl⟩⟩; refine ⟨_, rfl, ?_⟩))
       go_ret
       exact ⟨ff_, by repeat (first | exact Drawn0.refl _ | apply Drawn0.step)⟩
      ·
       rw [if_neg c10] at H; have c10b0 : (x3_2 == (a0.size : Int)) = false := beq_eq_false_iff_ne.mpr c10; have c10b1 : (x3_2 != (a0.size : Int)) = true := bne_iff_ne.mpr c10; replace H := Option.bind_eq_some_iff.mp H; obtain ⟨t108, A110, H⟩ := H; replace H : (if t108 = true then (lexis_name.j2 k2 a0 x3_2 t106 t107 t108) else ((lexis_digit.f t106).bind fun t109 => (if t109 = true then (lexis_name.j2 k2 a0 x3_2 t106 t107 t109) else (lexis_name.j2 k2 a0 x3_2 t106 t107 (t106 == 46))))) = some r := H; have A11 := Aside0.mk A110; clear A110; have HC12 := Aside0.mk H; clear H
       go_upto_if 30 with (first | ((with_reducible refine gate_callee (f := 115) rfl ?_); refine goesL_ (some 18) rfl rfl Try.func115 (by kernel_rfl) rfl #[.string a0, .int .i64 x3_2] rfl ag_ ?_; (with_reducible refine (lexis_byteAt.calls a0 x3_2 t106 _ A8.out).mono ?_); rintro e w' ⟨rfl, ⟨nd, rfl⟩⟩; refine ⟨_, rfl, ?_⟩) | ((with_reducible refine gate_callee (f := 115) rfl ?_); refine goesL_ (some 22) rfl rfl Try.func115 (by kernel_rfl) rfl #[.string a0, .int .i64 (wrap64 (x3_2 + 1))] rfl ag_ ?_; (with_reducible refine (lexis_byteAt.calls a0 (wrap64 (x3_2 + 1)) t107 _ A9.out).mono ?_); rintro e w' ⟨rfl, ⟨nd, rfl⟩⟩; refine ⟨_, rfl, ?_⟩) | ((with_reducible refine gate_callee (f := 114) rfl ?_); refine goesL_ (some 32) rfl rfl Try.func114 (by kernel_rfl) rfl #[.int .u8 t106] rfl ag_ ?_; (with_reducible refine (lexis_letter.calls t106 t108 _ A11.out).mono ?_); rintro e w' ⟨rfl, ⟨nd, rfl⟩⟩; refine ⟨_, rfl, ?_⟩))
       (try simp only [Act.put, List.setIfInBounds_toArray, List.set_cons_zero, List.set_cons_succ])
       go_cut [30] (fun v30 wc => ∃ (kq : Nat) (x30_11 : Bool), v30 = .bool x30_11 ∧ Aside0 (lexis_name.j2 kq a0 x3_2 t106 t107 x30_11 = some r) ∧ Aside0 (kq ≤ k2) ∧ Drawn0 w wc)
       case first =>
        have H := HC12.out; clear HC12
        by_cases c13 : t108 = true
        ·
         subst c13; have H1 : (lexis_name.j2 k2 a0 x3_2 t106 t107 true) = some r := by rw [if_pos rfl] at H; exact H
         clear H; have H := H1; clear H1; have H' := Aside0.mk H; clear H; go_wp2; go_meet
         case rel => exact ⟨_, (true), ff_, H', ⟨by have := HJ1.out; have := HK2.out; first | omega | exact Nat.le_refl _⟩, by repeat (first | exact Drawn0.refl _ | apply Drawn0.step)⟩
        ·
         replace c13 := Bool.eq_false_iff.mpr c13; subst c13; have H1 : ((lexis_digit.f t106).bind fun t109 => (if t109 = true then (lexis_name.j2 k2 a0 x3_2 t106 t107 t109) else (lexis_name.j2 k2 a0 x3_2 t106 t107 (t106 == 46)))) = some r := by rw [if_neg (show ¬ (false = true) by decide)] at H; exact H
         clear H; have H := H1; clear H1; replace H := Option.bind_eq_some_iff.mp H; obtain ⟨t109, A140, H⟩ := H; replace H : (if t109 = true then (lexis_name.j2 k2 a0 x3_2 t106 t107 t109) else (lexis_name.j2 k2 a0 x3_2 t106 t107 (t106 == 46))) = some r := H; have A14 := Aside0.mk A140; clear A140
         by_cases c15 : t109 = true
         ·
          subst c15; have H1 : (lexis_name.j2 k2 a0 x3_2 t106 t107 true) = some r := by rw [if_pos rfl] at H; exact H
          clear H; have H := H1; clear H1; have H' := Aside0.mk H; clear H
          go_wp2_with (first | ((with_reducible refine gate_callee (f := 116) rfl ?_); refine goesL_ (some 34) rfl rfl Try.func116 (by kernel_rfl) rfl #[.int .u8 t106] rfl ag_ ?_; (with_reducible refine (lexis_digit.calls t106 true _ A14.out).mono ?_); rintro e w' ⟨rfl, ⟨nd, rfl⟩⟩; refine ⟨_, rfl, ?_⟩))
          go_meet
          case rel => exact ⟨_, (true), ff_, H', ⟨by have := HJ1.out; have := HK2.out; first | omega | exact Nat.le_refl _⟩, by repeat (first | exact Drawn0.refl _ | apply Drawn0.step)⟩
         ·
          replace c15 := Bool.eq_false_iff.mpr c15; subst c15; have H1 : (lexis_name.j2 k2 a0 x3_2 t106 t107 (t106 == 46)) = some r := by rw [if_neg (show ¬ (false = true) by decide)] at H; exact H
          clear H; have H := H1; clear H1; have H' := Aside0.mk H; clear H
          go_wp2_with (first | ((with_reducible refine gate_callee (f := 116) rfl ?_); refine goesL_ (some 34) rfl rfl Try.func116 (by kernel_rfl) rfl #[.int .u8 t106] rfl ag_ ?_; (with_reducible refine (lexis_digit.calls t106 false _ A14.out).mono ?_); rintro e w' ⟨rfl, ⟨nd, rfl⟩⟩; refine ⟨_, rfl, ?_⟩))
          go_meet
          case rel => exact ⟨_, ((t106 == 46)), ff_, H', ⟨by have := HJ1.out; have := HK2.out; first | omega | exact Nat.le_refl _⟩, by repeat (first | exact Drawn0.refl _ | apply Drawn0.step)⟩
       case rest =>
        clear HC12; (try clear c10); (try clear c10b0); (try clear c10b1); obtain ⟨kq, x30_11, rfl, HA, HJ11, ⟨mc11, rfl⟩⟩ := hcut
        cases kq with
        | zero => exact absurd HA.out (by simp [lexis_name.j2])
        | succ kj11 =>
         have H := HA.out; clear HA; simp only [lexis_name.j2] at H
         by_cases c16 : x30_11 = true
         ·
          subst c16; have H1 : (lexis_name.l0 kj11 a0 (wrap64 (x3_2 + 1))) = some r := by rw [if_pos rfl] at H; exact H
          clear H; have H := H1; clear H1; have H' := Aside0.mk H; clear H; go_wp2
          go_roundg kj11
          case measure => have := HJ1.out; have := HK2.out; have := HJ11.out; omega
          case rel => exact ⟨(wrap64 (x3_2 + 1)), ff_, H', ⟨by have := HJ1.out; have := HK2.out; have := HJ11.out; omega⟩, by repeat (first | exact Drawn0.refl _ | apply Drawn0.step)⟩
         ·
          replace c16 := Bool.eq_false_iff.mpr c16; subst c16; have H1 : (if t106 = 43 then ((lexis_letter.f t107).bind fun t110 => (if t110 = true then (lexis_name.l0 kj11 a0 (wrap64 (x3_2 + 1))) else ((lexis_digit.f t107).bind fun t111 => (if t111 = true then (lexis_name.l0 kj11 a0 (wrap64 (x3_2 + 1))) else (some x3_2))))) else (if t106 = 45 then ((lexis_letter.f t107).bind fun t112 => (if t112 = true then (lexis_name.l0 kj11 a0 (wrap64 (x3_2 + 1))) else ((lexis_digit.f t107).bind fun t113 => (if t113 = true then (lexis_name.l0 kj11 a0 (wrap64 (x3_2 + 1))) else (some x3_2))))) else (some x3_2))) = some r := by rw [if_neg (show ¬ (false = true) by decide)] at H; exact H
          clear H; have H := H1; clear H1
          by_cases c17 : t106 = 43
          ·
           rw [if_pos c17] at H; have c17b0 : (t106 == 43) = true := beq_iff_eq.mpr c17; have c17b1 : (t106 != 43) = false := bne_eq_false_iff_eq.mpr c17; clear c17; replace H := Option.bind_eq_some_iff.mp H; obtain ⟨t110, A180, H⟩ := H; replace H : (if t110 = true then (lexis_name.l0 kj11 a0 (wrap64 (x3_2 + 1))) else ((lexis_digit.f t107).bind fun t111 => (if t111 = true then (lexis_name.l0 kj11 a0 (wrap64 (x3_2 + 1))) else (some x3_2)))) = some r := H; have A18 := Aside0.mk A180; clear A180
           by_cases c19 : t110 = true
           ·
            subst c19; have H1 : (lexis_name.l0 kj11 a0 (wrap64 (x3_2 + 1))) = some r := by rw [if_pos rfl] at H; exact H
            clear H; have H := H1; clear H1; have H' := Aside0.mk H; clear H
            go_wp2_with (first | (go_at_call 114; (with_reducible refine (lexis_letter.calls t107 true _ A18.out).mono ?_); rintro e w' ⟨rfl, ⟨nd, rfl⟩⟩))
            go_roundg kj11
            case measure => have := HJ1.out; have := HK2.out; have := HJ11.out; omega
            case rel => exact ⟨(wrap64 (x3_2 + 1)), ff_, H', ⟨by have := HJ1.out; have := HK2.out; have := HJ11.out; omega⟩, by repeat (first | exact Drawn0.refl _ | apply Drawn0.step)⟩
           ·
            replace c19 := Bool.eq_false_iff.mpr c19; subst c19; have H1 : ((lexis_digit.f t107).bind fun t111 => (if t111 = true then (lexis_name.l0 kj11 a0 (wrap64 (x3_2 + 1))) else (some x3_2))) = some r := by rw [if_neg (show ¬ (false = true) by decide)] at H; exact H
            clear H; have H := H1; clear H1; replace H := Option.bind_eq_some_iff.mp H; obtain ⟨t111, A200, H⟩ := H; replace H : (if t111 = true then (lexis_name.l0 kj11 a0 (wrap64 (x3_2 + 1))) else (some x3_2)) = some r := H; have A20 := Aside0.mk A200; clear A200
            by_cases c21 : t111 = true
            ·
             subst c21; have H1 : (lexis_name.l0 kj11 a0 (wrap64 (x3_2 + 1))) = some r := by rw [if_pos rfl] at H; exact H
             clear H; have H := H1; clear H1; have H' := Aside0.mk H; clear H
             go_wp2_with (first | (go_at_call 114; (with_reducible refine (lexis_letter.calls t107 false _ A18.out).mono ?_); rintro e w' ⟨rfl, ⟨nd, rfl⟩⟩) | (go_at_call 116; (with_reducible refine (lexis_digit.calls t107 true _ A20.out).mono ?_); rintro e w' ⟨rfl, ⟨nd, rfl⟩⟩))
             go_roundg kj11
             case measure => have := HJ1.out; have := HK2.out; have := HJ11.out; omega
             case rel => exact ⟨(wrap64 (x3_2 + 1)), ff_, H', ⟨by have := HJ1.out; have := HK2.out; have := HJ11.out; omega⟩, by repeat (first | exact Drawn0.refl _ | apply Drawn0.step)⟩
            ·
             replace c21 := Bool.eq_false_iff.mpr c21; subst c21; have H1 : (some x3_2) = some r := by rw [if_neg (show ¬ (false = true) by decide)] at H; exact H
             clear H; have H := H1; clear H1; obtain rfl := Option.some.inj H
             go_wp2_with (first | (go_at_call 114; (with_reducible refine (lexis_letter.calls t107 false _ A18.out).mono ?_); rintro e w' ⟨rfl, ⟨nd, rfl⟩⟩) | (go_at_call 116; (with_reducible refine (lexis_digit.calls t107 false _ A20.out).mono ?_); rintro e w' ⟨rfl, ⟨nd, rfl⟩⟩))
             go_ret
             exact ⟨ff_, by repeat (first | exact Drawn0.refl _ | apply Drawn0.step)⟩
          ·
           rw [if_neg c17] at H; have c17b0 : (t106 == 43) = false := beq_eq_false_iff_ne.mpr c17; have c17b1 : (t106 != 43) = true := bne_iff_ne.mpr c17
           by_cases c22 : t106 = 45
           ·
            rw [if_pos c22] at H; have c22b0 : (t106 == 45) = true := beq_iff_eq.mpr c22; have c22b1 : (t106 != 45) = false := bne_eq_false_iff_eq.mpr c22; clear c22; replace H := Option.bind_eq_some_iff.mp H; obtain ⟨t112, A230, H⟩ := H; replace H : (if t112 = true then (lexis_name.l0 kj11 a0 (wrap64 (x3_2 + 1))) else ((lexis_digit.f t107).bind fun t113 => (if t113 = true then (lexis_name.l0 kj11 a0 (wrap64 (x3_2 + 1))) else (some x3_2)))) = some r := H; have A23 := Aside0.mk A230; clear A230
            by_cases c24 : t112 = true
            ·
             subst c24; have H1 : (lexis_name.l0 kj11 a0 (wrap64 (x3_2 + 1))) = some r := by rw [if_pos rfl] at H; exact H
             clear H; have H := H1; clear H1; have H' := Aside0.mk H; clear H
             go_wp2_with (first | (go_at_call 114; (with_reducible refine (lexis_letter.calls t107 true _ A23.out).mono ?_); rintro e w' ⟨rfl, ⟨nd, rfl⟩⟩))
             go_roundg kj11
             case measure => have := HJ1.out; have := HK2.out; have := HJ11.out; omega
             case rel => exact ⟨(wrap64 (x3_2 + 1)), ff_, H', ⟨by have := HJ1.out; have := HK2.out; have := HJ11.out; omega⟩, by repeat (first | exact Drawn0.refl _ | apply Drawn0.step)⟩
            ·
             replace c24 := Bool.eq_false_iff.mpr c24; subst c24; have H1 : ((lexis_digit.f t107).bind fun t113 => (if t113 = true then (lexis_name.l0 kj11 a0 (wrap64 (x3_2 + 1))) else (some x3_2))) = some r := by rw [if_neg (show ¬ (false = true) by decide)] at H; exact H
             clear H; have H := H1; clear H1; replace H := Option.bind_eq_some_iff.mp H; obtain ⟨t113, A250, H⟩ := H; replace H : (if t113 = true then (lexis_name.l0 kj11 a0 (wrap64 (x3_2 + 1))) else (some x3_2)) = some r := H; have A25 := Aside0.mk A250; clear A250
             by_cases c26 : t113 = true
             ·
              subst c26; have H1 : (lexis_name.l0 kj11 a0 (wrap64 (x3_2 + 1))) = some r := by rw [if_pos rfl] at H; exact H
              clear H; have H := H1; clear H1; have H' := Aside0.mk H; clear H
              go_wp2_with (first | (go_at_call 114; (with_reducible refine (lexis_letter.calls t107 false _ A23.out).mono ?_); rintro e w' ⟨rfl, ⟨nd, rfl⟩⟩) | (go_at_call 116; (with_reducible refine (lexis_digit.calls t107 true _ A25.out).mono ?_); rintro e w' ⟨rfl, ⟨nd, rfl⟩⟩))
              go_roundg kj11
              case measure => have := HJ1.out; have := HK2.out; have := HJ11.out; omega
              case rel => exact ⟨(wrap64 (x3_2 + 1)), ff_, H', ⟨by have := HJ1.out; have := HK2.out; have := HJ11.out; omega⟩, by repeat (first | exact Drawn0.refl _ | apply Drawn0.step)⟩
             ·
              replace c26 := Bool.eq_false_iff.mpr c26; subst c26; have H1 : (some x3_2) = some r := by rw [if_neg (show ¬ (false = true) by decide)] at H; exact H
              clear H; have H := H1; clear H1; obtain rfl := Option.some.inj H
              go_wp2_with (first | (go_at_call 114; (with_reducible refine (lexis_letter.calls t107 false _ A23.out).mono ?_); rintro e w' ⟨rfl, ⟨nd, rfl⟩⟩) | (go_at_call 116; (with_reducible refine (lexis_digit.calls t107 false _ A25.out).mono ?_); rintro e w' ⟨rfl, ⟨nd, rfl⟩⟩))
              go_ret
              exact ⟨ff_, by repeat (first | exact Drawn0.refl _ | apply Drawn0.step)⟩
           ·
            rw [if_neg c22] at H; have c22b0 : (t106 == 45) = false := beq_eq_false_iff_ne.mpr c22; have c22b1 : (t106 != 45) = true := bne_iff_ne.mpr c22; obtain rfl := Option.some.inj H; go_wp2
            go_ret
            exact ⟨ff_, by repeat (first | exact Drawn0.refl _ | apply Drawn0.step)⟩

/-! ### lexis_Name: function 77 -/
def lexis_Name.f (k : Nat) (a0 : ByteArray) : Option (Bool) := if a0.toList = ([] : List UInt8) then (some false) else (if (a0.size : Int) ≤ 64 then ((lexis_name.f k a0).bind fun t114 => (some (t114 == (a0.size : Int)))) else (some false))
theorem lexis_Name.mono : ∀ a0 k, LeO (lexis_Name.f k a0) (lexis_Name.f (k + 1) a0) := by
 intro a0 k; unfold lexis_Name.f
 repeat' first
   | (with_reducible exact lexis_name.mono _ _)
   | (with_reducible exact LeO.refl _)
   | (with_reducible exact LeO.none _)
   | (with_reducible refine LeO.ite ?_ ?_)
   | (with_reducible refine LeO.bind ?_ (fun _ => ?_))
   | exact lexis_name.mono _ _
   | exact LeO.none _
   | refine LeO.ite ?_ ?_
   | refine LeO.bind ?_ (fun _ => ?_)
set_option maxHeartbeats 8000000 in
set_option maxRecDepth 100000 in
theorem lexis_Name.calls (k : Nat) (a0 : ByteArray) (r : Bool) (w : World) (h : lexis_Name.f k a0 = some r) :
  Calls Try.prog 77 #[.string a0] w fun e w' => e = .returned (.bool r) ∧ Drawn0 w w' := by
 have H : (if a0.toList = ([] : List UInt8) then (some false) else (if (a0.size : Int) ≤ 64 then ((lexis_name.f k a0).bind fun t114 => (some (t114 == (a0.size : Int)))) else (some false))) = some r := h; clear h
 by_cases c2 : a0.toList = ([] : List UInt8)
 ·
  rw [if_pos c2] at H; have c2b0 : (a0.toList == ([] : List UInt8)) = true := beq_iff_eq.mpr c2; have c2b1 : (a0.toList != ([] : List UInt8)) = false := bne_eq_false_iff_eq.mpr c2; clear c2; obtain rfl := Option.some.inj H; go_enter Try.func77, Try.ntmps77; go_wp2
  go_ret
  exact ⟨ff_, by repeat (first | exact Drawn0.refl _ | apply Drawn0.step)⟩
 ·
  rw [if_neg c2] at H; have c2b0 : (a0.toList == ([] : List UInt8)) = false := beq_eq_false_iff_ne.mpr c2; have c2b1 : (a0.toList != ([] : List UInt8)) = true := bne_iff_ne.mpr c2
  by_cases c3 : (a0.size : Int) ≤ 64
  ·
   rw [if_pos c3] at H; have c3b0 : decide ((a0.size : Int) ≤ 64) = true := decide_eq_true c3; have c3b1 : decide (a0.size ≤ 64) = true := decide_eq_true (by omega); clear c3; replace H := Option.bind_eq_some_iff.mp H; obtain ⟨t114, A40, H⟩ := H; replace H : (some (t114 == (a0.size : Int))) = some r := H; have A4 := Aside0.mk A40; clear A40; obtain rfl := Option.some.inj H; go_enter Try.func77, Try.ntmps77
   go_wp2_with (first | (go_at_call 103; (with_reducible refine (lexis_name.calls k a0 t114 _ A4.out).mono ?_); rintro e w' ⟨rfl, ⟨nd, rfl⟩⟩))
   go_ret
   exact ⟨ff_, by repeat (first | exact Drawn0.refl _ | apply Drawn0.step)⟩
  ·
   rw [if_neg c3] at H; have c3b0 : decide ((a0.size : Int) ≤ 64) = false := decide_eq_false c3; have c3b1 : decide (a0.size ≤ 64) = false := decide_eq_false (by omega); clear c3; obtain rfl := Option.some.inj H; go_enter Try.func77, Try.ntmps77; go_wp2
   go_ret
   exact ⟨ff_, by repeat (first | exact Drawn0.refl _ | apply Drawn0.step)⟩

/-! ### prog_rises__lexis_Name: function 200075 -/
def prog_rises__lexis_Name.l0 : Nat → List ByteArray → List ByteArray → Int → Int → Option (Bool)
 | 0, _, _, _, _ => none
 | k + 1, x0, x7, x8, x9 => if x9 < x8 then (if 0 ≤ x9 then (if x9 < (x7.length : Int) then (if x9 > 0 then (if 0 ≤ (wrap64 (x9 - 1)) then (if (wrap64 (x9 - 1)) < (x0.length : Int) then (if ((Op.bytesLess ((rdOf ByteArray.empty x0 (wrap64 (x9 - 1))).toList) ((rdOf ByteArray.empty x7 x9).toList)) = true) then ((lexis_Name.f k (rdOf ByteArray.empty x7 x9)).bind fun t117 => (if t117 = true then (prog_rises__lexis_Name.l0 k x0 x7 x8 (wrap64 (x9 + 1))) else (some false))) else (some false)) else (none)) else (none)) else ((lexis_Name.f k (rdOf ByteArray.empty x7 x9)).bind fun t118 => (if t118 = true then (prog_rises__lexis_Name.l0 k x0 x7 x8 (wrap64 (x9 + 1))) else (some false)))) else (none)) else (none)) else (some true)
def prog_rises__lexis_Name.f (k : Nat) (l0 : List ByteArray)  : Option (Bool) := prog_rises__lexis_Name.l0 k l0 l0 (l0.length : Int) 0
theorem prog_rises__lexis_Name.mono_l : ∀ k, (∀ y0 y1 y2 y3, LeO (prog_rises__lexis_Name.l0 k y0 y1 y2 y3) (prog_rises__lexis_Name.l0 (k + 1) y0 y1 y2 y3))
 | 0 => fun _ _ _ _ r h => by simp [prog_rises__lexis_Name.l0] at h
 | k + 1 => by
  have ih0 := prog_rises__lexis_Name.mono_l k
  ·
   intro y0 y1 y2 y3; unfold prog_rises__lexis_Name.l0
   repeat' first
   | (with_reducible exact ih0 _ _ _ _)
   | (with_reducible exact lexis_Name.mono _ _)
   | (with_reducible exact LeO.refl _)
   | (with_reducible exact LeO.none _)
   | (with_reducible refine LeO.ite ?_ ?_)
   | (with_reducible refine LeO.bind ?_ (fun _ => ?_))
   | exact ih0 _ _ _ _
   | exact lexis_Name.mono _ _
   | exact LeO.none _
   | refine LeO.ite ?_ ?_
   | refine LeO.bind ?_ (fun _ => ?_)
theorem prog_rises__lexis_Name.mono : ∀ a0 k, LeO (prog_rises__lexis_Name.f k a0) (prog_rises__lexis_Name.f (k + 1) a0) := by
 intro a0 k; have ih0 := prog_rises__lexis_Name.mono_l k; unfold prog_rises__lexis_Name.f
 repeat' first
   | (with_reducible exact ih0 _ _ _ _)
   | (with_reducible exact lexis_Name.mono _ _)
   | (with_reducible exact LeO.refl _)
   | (with_reducible exact LeO.none _)
   | (with_reducible refine LeO.ite ?_ ?_)
   | (with_reducible refine LeO.bind ?_ (fun _ => ?_))
   | exact ih0 _ _ _ _
   | exact lexis_Name.mono _ _
   | exact LeO.none _
   | refine LeO.ite ?_ ?_
   | refine LeO.bind ?_ (fun _ => ?_)
set_option maxHeartbeats 8000000 in
set_option maxRecDepth 100000 in
theorem prog_rises__lexis_Name.calls (k : Nat) (A0 : Option Addr) (c0 : Nat) (l0 : List ByteArray)  (r : Bool) (w : World) (hr0 : Kd.C Kd.string w A0 l0.length l0) (hc0 : l0.length ≤ c0) (h : prog_rises__lexis_Name.f k l0 = some r) :
  Calls Try.prog 75 #[.slice A0 l0.length c0, .func (.func 77) #[] #[]] w fun e w' => e = .returned (.bool r) ∧ Drawn0 w w' := by
 have HR0 := Aside0.mk hr0; have HC0 := Aside0.mk hc0; clear hr0 hc0; have H : (prog_rises__lexis_Name.l0 k l0 l0 (l0.length : Int) 0) = some r := h; clear h; have H' := Aside0.mk H; clear H; go_enter Try.func75, Try.ntmps75; go_wp2
 go_loopg [9] k (fun kq v9 w' => ∃ (x9_1 : Int), v9 = .int .i64 x9_1 ∧ Aside0 (prog_rises__lexis_Name.l0 kq l0 l0 (l0.length : Int) x9_1 = some r) ∧ Aside0 (kq ≤ k) ∧ Drawn0 w w')
 case atStart => exact ⟨(0), ff_, H', ⟨Nat.le_refl _⟩, by repeat (first | exact Drawn0.refl _ | apply Drawn0.step)⟩
 case round =>
  clear H'; obtain ⟨x9_1, rfl, HA, HK1, ⟨m1, rfl⟩⟩ := hrel
  cases gk with
  | zero => exact absurd HA.out (by simp [prog_rises__lexis_Name.l0])
  | succ k1 =>
   have H := HA.out; clear HA; simp only [prog_rises__lexis_Name.l0] at H
   by_cases c3 : x9_1 < (l0.length : Int)
   ·
    rw [if_pos c3] at H; have c3b0 : decide (x9_1 < (l0.length : Int)) = true := decide_eq_true c3; clear c3
    by_cases c4 : 0 ≤ x9_1
    ·
     rw [if_pos c4] at H; have c4b0 : decide (0 ≤ x9_1) = true := decide_eq_true c4; clear c4
     by_cases c5 : x9_1 < (l0.length : Int)
     ·
      rw [if_pos c5] at H; have c5b0 : decide (x9_1 < (l0.length : Int)) = true := decide_eq_true c5; clear c5
      by_cases c6 : x9_1 > 0
      ·
       rw [if_pos c6] at H; have c6b0 : decide (0 < x9_1) = true := decide_eq_true c6; clear c6; obtain ⟨ji7, hji7⟩ : ∃ j_ : Int, (wrap64 (x9_1 - 1)) = j_ := ⟨_, rfl⟩; replace H : (if 0 ≤ (ji7) then (if (ji7) < (l0.length : Int) then (if ((Op.bytesLess ((rdOf ByteArray.empty l0 (ji7)).toList) ((rdOf ByteArray.empty l0 x9_1).toList)) = true) then ((lexis_Name.f k1 (rdOf ByteArray.empty l0 x9_1)).bind fun t117 => (if t117 = true then (prog_rises__lexis_Name.l0 k1 l0 l0 (l0.length : Int) (wrap64 (x9_1 + 1))) else (some false))) else (some false)) else (none)) else (none)) = some r := by first | (rw [hji7] at H; exact H) | (simp only [hji7] at H ⊢; exact H)
       have hji7w : (IntKind.i64.wrap (x9_1 - 1)) = ji7 := (i64_w _).trans hji7
       by_cases c8 : 0 ≤ (ji7)
       ·
        rw [if_pos c8] at H; have c8b0 : decide (0 ≤ (ji7)) = true := decide_eq_true c8; clear c8
        by_cases c9 : (ji7) < (l0.length : Int)
        ·
         rw [if_pos c9] at H; have c9b0 : decide ((ji7) < (l0.length : Int)) = true := decide_eq_true c9; clear c9
         by_cases c10 : ((Op.bytesLess ((rdOf ByteArray.empty l0 (ji7)).toList) ((rdOf ByteArray.empty l0 x9_1).toList)) = true)
         ·
          rw [if_pos c10] at H; have c10b0 : (Op.bytesLess ((rdOf ByteArray.empty l0 (ji7)).toList) ((rdOf ByteArray.empty l0 x9_1).toList)) = true := c10; clear c10; replace H := Option.bind_eq_some_iff.mp H; obtain ⟨t117, A110, H⟩ := H; replace H : (if t117 = true then (prog_rises__lexis_Name.l0 k1 l0 l0 (l0.length : Int) (wrap64 (x9_1 + 1))) else (some false)) = some r := H; have A11 := Aside0.mk A110; clear A110
          by_cases c12 : t117 = true
          ·
           subst c12; have H1 : (prog_rises__lexis_Name.l0 k1 l0 l0 (l0.length : Int) (wrap64 (x9_1 + 1))) = some r := by rw [if_pos rfl] at H; exact H
           clear H; have H := H1; clear H1; have H' := Aside0.mk H; clear H; have p115 : 0 ≤ (x9_1 : Int) := dt_; have q115 : x9_1 < (l0.length : Int) := dt_; obtain ⟨ad115, e115, hx115_0⟩ := Kd.at_string HR0.out x9_1 p115 q115; cases e115; replace p115 := eq_true p115; replace q115 := eq_true q115; have p116 : 0 ≤ ((ji7) : Int) := dt_; have q116 : (ji7) < (l0.length : Int) := dt_; obtain ⟨ad116, e116, hx116_0⟩ := Kd.at_string HR0.out (ji7) p116 q116; obtain rfl : ad115 = ad116 := (by injection e116); replace p116 := eq_true p116; replace q116 := eq_true q116
           go_wp2_with (first | (go_at_call 77; (with_reducible refine (lexis_Name.calls k1 (rdOf ByteArray.empty l0 x9_1) true _ A11.out).mono ?_); rintro e w' ⟨rfl, ⟨nd, rfl⟩⟩))
           go_roundg k1
           case measure => have := HK1.out; omega
           case rel => exact ⟨(wrap64 (x9_1 + 1)), ff_, H', ⟨by have := HK1.out; omega⟩, by repeat (first | exact Drawn0.refl _ | apply Drawn0.step)⟩
          ·
           replace c12 := Bool.eq_false_iff.mpr c12; subst c12; have H1 : (some false) = some r := by rw [if_neg (show ¬ (false = true) by decide)] at H; exact H
           clear H; have H := H1; clear H1; obtain rfl := Option.some.inj H; have p115 : 0 ≤ (x9_1 : Int) := dt_; have q115 : x9_1 < (l0.length : Int) := dt_; obtain ⟨ad115, e115, hx115_0⟩ := Kd.at_string HR0.out x9_1 p115 q115; cases e115; replace p115 := eq_true p115; replace q115 := eq_true q115; have p116 : 0 ≤ ((ji7) : Int) := dt_; have q116 : (ji7) < (l0.length : Int) := dt_; obtain ⟨ad116, e116, hx116_0⟩ := Kd.at_string HR0.out (ji7) p116 q116; obtain rfl : ad115 = ad116 := (by injection e116); replace p116 := eq_true p116; replace q116 := eq_true q116
           go_wp2_with (first | (go_at_call 77; (with_reducible refine (lexis_Name.calls k1 (rdOf ByteArray.empty l0 x9_1) false _ A11.out).mono ?_); rintro e w' ⟨rfl, ⟨nd, rfl⟩⟩))
           go_ret
           exact ⟨by first | rfl | (simp; done) | (simp only [← hji7] <;> (first | rfl | simp)) | (simp [*]; done), by repeat (first | exact Drawn0.refl _ | apply Drawn0.step)⟩
         ·
          rw [if_neg c10] at H; have c10b0 : (Op.bytesLess ((rdOf ByteArray.empty l0 (ji7)).toList) ((rdOf ByteArray.empty l0 x9_1).toList)) = false := by simpa using c10
          clear c10; obtain rfl := Option.some.inj H; have p115 : 0 ≤ (x9_1 : Int) := dt_; have q115 : x9_1 < (l0.length : Int) := dt_; obtain ⟨ad115, e115, hx115_0⟩ := Kd.at_string HR0.out x9_1 p115 q115; cases e115; replace p115 := eq_true p115; replace q115 := eq_true q115; have p116 : 0 ≤ ((ji7) : Int) := dt_; have q116 : (ji7) < (l0.length : Int) := dt_; obtain ⟨ad116, e116, hx116_0⟩ := Kd.at_string HR0.out (ji7) p116 q116; obtain rfl : ad115 = ad116 := (by injection e116); replace p116 := eq_true p116; replace q116 := eq_true q116; go_wp2
          go_ret
          exact ⟨by first | rfl | (simp; done) | (simp only [← hji7] <;> (first | rfl | simp)) | (simp [*]; done), by repeat (first | exact Drawn0.refl _ | apply Drawn0.step)⟩
        ·
         rw [if_neg c9] at H; exact absurd H (by simp)
       ·
        rw [if_neg c8] at H; exact absurd H (by simp)
      ·
       rw [if_neg c6] at H; have c6b0 : decide (0 < x9_1) = false := decide_eq_false c6; clear c6; replace H := Option.bind_eq_some_iff.mp H; obtain ⟨t118, A130, H⟩ := H; replace H : (if t118 = true then (prog_rises__lexis_Name.l0 k1 l0 l0 (l0.length : Int) (wrap64 (x9_1 + 1))) else (some false)) = some r := H; have A13 := Aside0.mk A130; clear A130
       by_cases c14 : t118 = true
       ·
        subst c14; have H1 : (prog_rises__lexis_Name.l0 k1 l0 l0 (l0.length : Int) (wrap64 (x9_1 + 1))) = some r := by rw [if_pos rfl] at H; exact H
        clear H; have H := H1; clear H1; have H' := Aside0.mk H; clear H; have p115 : 0 ≤ (x9_1 : Int) := dt_; have q115 : x9_1 < (l0.length : Int) := dt_; obtain ⟨ad115, e115, hx115_0⟩ := Kd.at_string HR0.out x9_1 p115 q115; cases e115; replace p115 := eq_true p115; replace q115 := eq_true q115
        go_wp2_with (first | (go_at_call 77; (with_reducible refine (lexis_Name.calls k1 (rdOf ByteArray.empty l0 x9_1) true _ A13.out).mono ?_); rintro e w' ⟨rfl, ⟨nd, rfl⟩⟩))
        go_roundg k1
        case measure => have := HK1.out; omega
        case rel => exact ⟨(wrap64 (x9_1 + 1)), ff_, H', ⟨by have := HK1.out; omega⟩, by repeat (first | exact Drawn0.refl _ | apply Drawn0.step)⟩
       ·
        replace c14 := Bool.eq_false_iff.mpr c14; subst c14; have H1 : (some false) = some r := by rw [if_neg (show ¬ (false = true) by decide)] at H; exact H
        clear H; have H := H1; clear H1; obtain rfl := Option.some.inj H; have p115 : 0 ≤ (x9_1 : Int) := dt_; have q115 : x9_1 < (l0.length : Int) := dt_; obtain ⟨ad115, e115, hx115_0⟩ := Kd.at_string HR0.out x9_1 p115 q115; cases e115; replace p115 := eq_true p115; replace q115 := eq_true q115
        go_wp2_with (first | (go_at_call 77; (with_reducible refine (lexis_Name.calls k1 (rdOf ByteArray.empty l0 x9_1) false _ A13.out).mono ?_); rintro e w' ⟨rfl, ⟨nd, rfl⟩⟩))
        go_ret
        exact ⟨ff_, by repeat (first | exact Drawn0.refl _ | apply Drawn0.step)⟩
     ·
      rw [if_neg c5] at H; exact absurd H (by simp)
    ·
     rw [if_neg c4] at H; exact absurd H (by simp)
   ·
    rw [if_neg c3] at H; have c3b0 : decide (x9_1 < (l0.length : Int)) = false := decide_eq_false c3; clear c3; obtain rfl := Option.some.inj H; go_wp2
    go_ret
    exact ⟨ff_, by repeat (first | exact Drawn0.refl _ | apply Drawn0.step)⟩

end Go.Proofs.Ytemhpbdlonfikaa.P
