-- Printed by xprint.py, a program of this session over the kit's printer.
import Derived.Test.YtemhpbdlonfikaaP3
namespace Go.Proofs.Ytemhpbdlonfikaa.P
open Go.RowKit Go.Proofs.YtemhpbdlonfikaaW.PrintWords Go.Proofs.YtemhpbdlonfikaaW.PrintLast Go.Proofs.YtemhpbdlonfikaaW.PrintMore
attribute [local go_sem] max2_int min2_int max_two min_two max_three min_three max_four min_four   -- for this text's walks alone

/-! ### weirref05_letter: function 112 -/
def weirref05_letter.f (a0 : Int) : Option (Bool) := if a0 ≥ 97 then (if a0 ≤ 122 then (some true) else (if a0 ≥ 65 then (if a0 ≤ 90 then (some true) else (some (a0 == 95))) else (some (a0 == 95)))) else (if a0 ≥ 65 then (if a0 ≤ 90 then (some true) else (some (a0 == 95))) else (some (a0 == 95)))
set_option maxHeartbeats 8000000 in
set_option maxRecDepth 100000 in
theorem weirref05_letter.calls (a0 : Int) (r : Bool) (w : World) (h : weirref05_letter.f a0 = some r) :
  Calls Try.prog 112 #[.int .u8 a0] w fun e w' => e = .returned (.bool r) ∧ Drawn0 w w' := by
 have H : (if a0 ≥ 97 then (if a0 ≤ 122 then (some true) else (if a0 ≥ 65 then (if a0 ≤ 90 then (some true) else (some (a0 == 95))) else (some (a0 == 95)))) else (if a0 ≥ 65 then (if a0 ≤ 90 then (some true) else (some (a0 == 95))) else (some (a0 == 95)))) = some r := h; clear h
 by_cases c2 : a0 ≥ 97
 ·
  rw [if_pos c2] at H; have c2b0 : decide (97 ≤ a0) = true := decide_eq_true c2; clear c2
  by_cases c3 : a0 ≤ 122
  ·
   rw [if_pos c3] at H; have c3b0 : decide (a0 ≤ 122) = true := decide_eq_true c3; clear c3; obtain rfl := Option.some.inj H; go_enter Try.func112, Try.ntmps112; go_wp2
   go_ret
   exact ⟨ff_, by repeat (first | exact Drawn0.refl _ | apply Drawn0.step)⟩
  ·
   rw [if_neg c3] at H; have c3b0 : decide (a0 ≤ 122) = false := decide_eq_false c3; clear c3
   by_cases c4 : a0 ≥ 65
   ·
    rw [if_pos c4] at H; have c4b0 : decide (65 ≤ a0) = true := decide_eq_true c4; clear c4
    by_cases c5 : a0 ≤ 90
    ·
     rw [if_pos c5] at H; have c5b0 : decide (a0 ≤ 90) = true := decide_eq_true c5; clear c5; obtain rfl := Option.some.inj H; go_enter Try.func112, Try.ntmps112; go_wp2
     go_ret
     exact ⟨ff_, by repeat (first | exact Drawn0.refl _ | apply Drawn0.step)⟩
    ·
     rw [if_neg c5] at H; have c5b0 : decide (a0 ≤ 90) = false := decide_eq_false c5; clear c5; obtain rfl := Option.some.inj H; go_enter Try.func112, Try.ntmps112; go_wp2
     go_ret
     exact ⟨ff_, by repeat (first | exact Drawn0.refl _ | apply Drawn0.step)⟩
   ·
    rw [if_neg c4] at H; have c4b0 : decide (65 ≤ a0) = false := decide_eq_false c4; clear c4; obtain rfl := Option.some.inj H; go_enter Try.func112, Try.ntmps112; go_wp2
    go_ret
    exact ⟨ff_, by repeat (first | exact Drawn0.refl _ | apply Drawn0.step)⟩
 ·
  rw [if_neg c2] at H; have c2b0 : decide (97 ≤ a0) = false := decide_eq_false c2; clear c2
  by_cases c6 : a0 ≥ 65
  ·
   rw [if_pos c6] at H; have c6b0 : decide (65 ≤ a0) = true := decide_eq_true c6; clear c6
   by_cases c7 : a0 ≤ 90
   ·
    rw [if_pos c7] at H; have c7b0 : decide (a0 ≤ 90) = true := decide_eq_true c7; clear c7; obtain rfl := Option.some.inj H; go_enter Try.func112, Try.ntmps112; go_wp2
    go_ret
    exact ⟨ff_, by repeat (first | exact Drawn0.refl _ | apply Drawn0.step)⟩
   ·
    rw [if_neg c7] at H; have c7b0 : decide (a0 ≤ 90) = false := decide_eq_false c7; clear c7; obtain rfl := Option.some.inj H; go_enter Try.func112, Try.ntmps112; go_wp2
    go_ret
    exact ⟨ff_, by repeat (first | exact Drawn0.refl _ | apply Drawn0.step)⟩
  ·
   rw [if_neg c6] at H; have c6b0 : decide (65 ≤ a0) = false := decide_eq_false c6; clear c6; obtain rfl := Option.some.inj H; go_enter Try.func112, Try.ntmps112; go_wp2
   go_ret
   exact ⟨ff_, by repeat (first | exact Drawn0.refl _ | apply Drawn0.step)⟩

/-! ### weirref05_digit: function 113 -/
def weirref05_digit.f (a0 : Int) : Option (Bool) := if a0 ≥ 48 then (some (decide (a0 ≤ 57))) else (some false)
set_option maxHeartbeats 8000000 in
set_option maxRecDepth 100000 in
theorem weirref05_digit.calls (a0 : Int) (r : Bool) (w : World) (h : weirref05_digit.f a0 = some r) :
  Calls Try.prog 113 #[.int .u8 a0] w fun e w' => e = .returned (.bool r) ∧ Drawn0 w w' := by
 have H : (if a0 ≥ 48 then (some (decide (a0 ≤ 57))) else (some false)) = some r := h; clear h
 by_cases c2 : a0 ≥ 48
 ·
  rw [if_pos c2] at H; have c2b0 : decide (48 ≤ a0) = true := decide_eq_true c2; clear c2; obtain rfl := Option.some.inj H; go_enter Try.func113, Try.ntmps113; go_wp2
  go_ret
  exact ⟨ff_, by repeat (first | exact Drawn0.refl _ | apply Drawn0.step)⟩
 ·
  rw [if_neg c2] at H; have c2b0 : decide (48 ≤ a0) = false := decide_eq_false c2; clear c2; obtain rfl := Option.some.inj H; go_enter Try.func113, Try.ntmps113; go_wp2
  go_ret
  exact ⟨ff_, by repeat (first | exact Drawn0.refl _ | apply Drawn0.step)⟩

/-! ### weirref05_name: function 98 -/
mutual
def weirref05_name.j0 : Nat → ByteArray → Int → Bool → Option (Int)
 | 0, _, _, _ => none
 | k + 1, x0, x1, x18 => if x18 = true then (some 0) else (weirref05_name.l0 k x0 x1 1)
def weirref05_name.l0 : Nat → ByteArray → Int → Int → Option (Int)
 | 0, _, _, _ => none
 | k + 1, x0, x1, x5 => if (wrap64 (x1 + x5)) < (x0.size : Int) then (if 0 ≤ (wrap64 (x1 + x5)) then ((weirref05_letter.f (bt x0 (wrap64 (x1 + x5)))).bind fun t235 => (if t235 = true then (weirref05_name.j2 k x0 x1 x5 (bt x0 (wrap64 (x1 + x5))) true) else ((weirref05_digit.f (bt x0 (wrap64 (x1 + x5)))).bind fun t236 => (if t236 = true then (weirref05_name.j2 k x0 x1 x5 (bt x0 (wrap64 (x1 + x5))) true) else (weirref05_name.j2 k x0 x1 x5 (bt x0 (wrap64 (x1 + x5))) ((bt x0 (wrap64 (x1 + x5))) == 46)))))) else (none)) else (some x5)
def weirref05_name.j2 : Nat → ByteArray → Int → Int → Int → Bool → Option (Int)
 | 0, _, _, _, _, _ => none
 | k + 1, x0, x1, x5, x6, x7 => if x6 = 43 then (weirref05_name.j3 k x0 x1 x5 x7 (decide ((wrap64 ((wrap64 (x1 + x5)) + 1)) < (x0.size : Int)))) else (if x6 = 45 then (weirref05_name.j3 k x0 x1 x5 x7 (decide ((wrap64 ((wrap64 (x1 + x5)) + 1)) < (x0.size : Int)))) else (weirref05_name.j3 k x0 x1 x5 x7 false))
def weirref05_name.j3 : Nat → ByteArray → Int → Int → Bool → Bool → Option (Int)
 | 0, _, _, _, _, _ => none
 | k + 1, x0, x1, x5, x7, x54 => if x54 = true then (if 0 ≤ (wrap64 ((wrap64 (x1 + x5)) + 1)) then (if (wrap64 ((wrap64 (x1 + x5)) + 1)) < (x0.size : Int) then ((weirref05_letter.f (bt x0 (wrap64 ((wrap64 (x1 + x5)) + 1)))).bind fun t237 => (if t237 = true then (weirref05_name.l0 k x0 x1 (wrap64 (x5 + 1))) else ((weirref05_digit.f (bt x0 (wrap64 ((wrap64 (x1 + x5)) + 1)))).bind fun t238 => (if t238 = true then (weirref05_name.l0 k x0 x1 (wrap64 (x5 + 1))) else (some x5))))) else (none)) else (none)) else (if x7 = true then (weirref05_name.l0 k x0 x1 (wrap64 (x5 + 1))) else (some x5))
end
def weirref05_name.f (k : Nat) (a0 : ByteArray) (a1 : Int) : Option (Int) := if a1 ≥ (a0.size : Int) then (weirref05_name.j0 k a0 a1 true) else (if 0 ≤ a1 then (if a1 < (a0.size : Int) then ((weirref05_letter.f (bt a0 a1)).bind fun t234 => (weirref05_name.j0 k a0 a1 (!t234))) else (none)) else (none))
theorem weirref05_name.mono_l : ∀ k, (∀ y0 y1 y2, LeO (weirref05_name.j0 k y0 y1 y2) (weirref05_name.j0 (k + 1) y0 y1 y2)) ∧ (∀ y0 y1 y2, LeO (weirref05_name.l0 k y0 y1 y2) (weirref05_name.l0 (k + 1) y0 y1 y2)) ∧ (∀ y0 y1 y2 y3 y4, LeO (weirref05_name.j2 k y0 y1 y2 y3 y4) (weirref05_name.j2 (k + 1) y0 y1 y2 y3 y4)) ∧ (∀ y0 y1 y2 y3 y4, LeO (weirref05_name.j3 k y0 y1 y2 y3 y4) (weirref05_name.j3 (k + 1) y0 y1 y2 y3 y4))
 | 0 => ⟨fun _ _ _ r h => by simp [weirref05_name.j0] at h, fun _ _ _ r h => by simp [weirref05_name.l0] at h, fun _ _ _ _ _ r h => by simp [weirref05_name.j2] at h, fun _ _ _ _ _ r h => by simp [weirref05_name.j3] at h⟩
 | k + 1 => by
  obtain ⟨ih0, ih1, ih2, ih3⟩ := weirref05_name.mono_l k; refine ⟨?_, ?_, ?_, ?_⟩; intro y0 y1 y2; unfold weirref05_name.j0; rotate_left; intro y0 y1 y2; unfold weirref05_name.l0; rotate_left; intro y0 y1 y2 y3 y4; unfold weirref05_name.j2; rotate_left; intro y0 y1 y2 y3 y4; unfold weirref05_name.j3; rotate_left
  all_goals (repeat' first
   | (with_reducible exact ih0 _ _ _)
   | (with_reducible exact ih1 _ _ _)
   | (with_reducible exact ih2 _ _ _ _ _)
   | (with_reducible exact ih3 _ _ _ _ _)
   | (with_reducible exact LeO.refl _)
   | (with_reducible exact LeO.none _)
   | (with_reducible refine LeO.ite ?_ ?_)
   | (with_reducible refine LeO.bind ?_ (fun _ => ?_))
   | exact ih0 _ _ _
   | exact ih1 _ _ _
   | exact ih2 _ _ _ _ _
   | exact ih3 _ _ _ _ _
   | exact LeO.none _
   | refine LeO.ite ?_ ?_
   | refine LeO.bind ?_ (fun _ => ?_))
theorem weirref05_name.mono : ∀ a0 a1 k, LeO (weirref05_name.f k a0 a1) (weirref05_name.f (k + 1) a0 a1) := by
 intro a0 a1 k; obtain ⟨ih0, ih1, ih2, ih3⟩ := weirref05_name.mono_l k; unfold weirref05_name.f
 repeat' first
   | (with_reducible exact ih0 _ _ _)
   | (with_reducible exact ih1 _ _ _)
   | (with_reducible exact ih2 _ _ _ _ _)
   | (with_reducible exact ih3 _ _ _ _ _)
   | (with_reducible exact LeO.refl _)
   | (with_reducible exact LeO.none _)
   | (with_reducible refine LeO.ite ?_ ?_)
   | (with_reducible refine LeO.bind ?_ (fun _ => ?_))
   | exact ih0 _ _ _
   | exact ih1 _ _ _
   | exact ih2 _ _ _ _ _
   | exact ih3 _ _ _ _ _
   | exact LeO.none _
   | refine LeO.ite ?_ ?_
   | refine LeO.bind ?_ (fun _ => ?_)
set_option maxHeartbeats 8000000 in
set_option maxRecDepth 100000 in
theorem weirref05_name.calls (k : Nat) (a0 : ByteArray) (a1 : Int) (r : Int) (w : World) (h : weirref05_name.f k a0 a1 = some r) :
  Calls Try.prog 98 #[.string a0, .int .i64 a1] w fun e w' => e = .returned (.int .i64 r) ∧ Drawn0 w w' := by
 have H : (if a1 ≥ (a0.size : Int) then (weirref05_name.j0 k a0 a1 true) else (if 0 ≤ a1 then (if a1 < (a0.size : Int) then ((weirref05_letter.f (bt a0 a1)).bind fun t234 => (weirref05_name.j0 k a0 a1 (!t234))) else (none)) else (none))) = some r := h; clear h; have HC3 := Aside0.mk H; clear H; go_enter Try.func98, Try.ntmps98
 go_upto_region 1 with (fail)
 go_cut [18] (fun v18 wc => ∃ (kq : Nat) (x18_2 : Bool), v18 = .bool x18_2 ∧ Aside0 (weirref05_name.j0 kq a0 a1 x18_2 = some r) ∧ Aside0 (kq ≤ k) ∧ Drawn0 w wc)
 case first =>
  have H := HC3.out; clear HC3
  by_cases c4 : a1 ≥ (a0.size : Int)
  ·
   rw [if_pos c4] at H; have c4b0 : decide ((a0.size : Int) ≤ a1) = true := decide_eq_true c4; clear c4
   (first | rw [c4b0] | (simp only [i64_w, i32_w]; rw [c4b0]) | skip)
   have H' := Aside0.mk H; clear H; go_wp2; go_meet
   case rel => exact ⟨_, (true), ff_, H', ⟨by first | omega | exact Nat.le_refl _⟩, by repeat (first | exact Drawn0.refl _ | apply Drawn0.step)⟩
  ·
   rw [if_neg c4] at H; have c4b0 : decide ((a0.size : Int) ≤ a1) = false := decide_eq_false c4; clear c4
   (first | rw [c4b0] | (simp only [i64_w, i32_w]; rw [c4b0]) | skip)
   by_cases c5 : 0 ≤ a1
   ·
    rw [if_pos c5] at H; have c5b0 : decide (0 ≤ a1) = true := decide_eq_true c5; clear c5
    by_cases c6 : a1 < (a0.size : Int)
    ·
     rw [if_pos c6] at H; have c6b0 : decide (a1 < (a0.size : Int)) = true := decide_eq_true c6; clear c6; replace H := Option.bind_eq_some_iff.mp H; obtain ⟨t234, A80, H⟩ := H; replace H : (weirref05_name.j0 k a0 a1 (!t234)) = some r := H; have A8 := Aside0.mk A80; clear A80; have H' := Aside0.mk H; clear H; have p7 : 0 ≤ (a1 : Int) := dt_; have q7 : a1 < (a0.size : Int) := dt_; have hx7 := bt_at a0 a1; replace p7 := eq_true p7; replace q7 := eq_true q7
     go_wp2_with (first | (go_at_call 112; (with_reducible refine (weirref05_letter.calls (bt a0 a1) t234 _ A8.out).mono ?_); rintro e w' ⟨rfl, ⟨nd, rfl⟩⟩))
     go_meet
     case rel => exact ⟨_, (!t234), ff_, H', ⟨by first | omega | exact Nat.le_refl _⟩, by repeat (first | exact Drawn0.refl _ | apply Drawn0.step)⟩
    ·
     rw [if_neg c6] at H; exact absurd H (by simp)
   ·
    rw [if_neg c5] at H; exact absurd H (by simp)
 case rest =>
  clear HC3; obtain ⟨kq, x18_2, rfl, HA, HJ2, ⟨mc2, rfl⟩⟩ := hcut
  cases kq with
  | zero => exact absurd HA.out (by simp [weirref05_name.j0])
  | succ kj2 =>
   have H := HA.out; clear HA; simp only [weirref05_name.j0] at H
   by_cases c9 : x18_2 = true
   ·
    subst c9; have H1 : (some 0) = some r := by rw [if_pos rfl] at H; exact H
    clear H; have H := H1; clear H1; obtain rfl := Option.some.inj H; go_wp2
    go_ret
    exact ⟨ff_, by repeat (first | exact Drawn0.refl _ | apply Drawn0.step)⟩
   ·
    replace c9 := Bool.eq_false_iff.mpr c9; subst c9; have H1 : (weirref05_name.l0 kj2 a0 a1 1) = some r := by rw [if_neg (show ¬ (false = true) by decide)] at H; exact H
    clear H; have H := H1; clear H1; have H' := Aside0.mk H; clear H; go_wp2
    go_loopg [5] kj2 (fun kq v5 w' => ∃ (x5_2 : Int), v5 = .int .i64 x5_2 ∧ Aside0 (weirref05_name.l0 kq a0 a1 x5_2 = some r) ∧ Aside0 (kq ≤ kj2) ∧ Drawn0 w w')
    case atStart => exact ⟨(1), ff_, H', ⟨Nat.le_refl _⟩, by repeat (first | exact Drawn0.refl _ | apply Drawn0.step)⟩
    case round =>
     clear H'; (try clear c9); obtain ⟨x5_2, rfl, HA, HK2, ⟨m2, rfl⟩⟩ := hrel
     cases gk with
     | zero => exact absurd HA.out (by simp [weirref05_name.l0])
     | succ k2 =>
      have H := HA.out; clear HA; simp only [weirref05_name.l0] at H
      by_cases c10 : (wrap64 (a1 + x5_2)) < (a0.size : Int)
      ·
       rw [if_pos c10] at H; have c10b0 : decide ((wrap64 (a1 + x5_2)) < (a0.size : Int)) = true := decide_eq_true c10; clear c10; obtain ⟨ji11, hji11⟩ : ∃ j_ : Int, (wrap64 (a1 + x5_2)) = j_ := ⟨_, rfl⟩; replace H : (if 0 ≤ (ji11) then ((weirref05_letter.f (bt a0 (ji11))).bind fun t235 => (if t235 = true then (weirref05_name.j2 k2 a0 a1 x5_2 (bt a0 (ji11)) true) else ((weirref05_digit.f (bt a0 (ji11))).bind fun t236 => (if t236 = true then (weirref05_name.j2 k2 a0 a1 x5_2 (bt a0 (ji11)) true) else (weirref05_name.j2 k2 a0 a1 x5_2 (bt a0 (ji11)) ((bt a0 (ji11)) == 46)))))) else (none)) = some r := by first | (rw [hji11] at H; exact H) | (simp only [hji11] at H ⊢; exact H)
       (try rw [hji11] at c10b0)
       have hji11w : (IntKind.i64.wrap (a1 + x5_2)) = ji11 := (i64_w _).trans hji11
       by_cases c12 : 0 ≤ (ji11)
       ·
        rw [if_pos c12] at H; have c12b0 : decide (0 ≤ (ji11)) = true := decide_eq_true c12; clear c12; have HC14 := Aside0.mk H; clear H; have p13 : 0 ≤ ((ji11) : Int) := dt_; have q13 : (ji11) < (a0.size : Int) := dt_; have hx13 := bt_at a0 (ji11); replace p13 := eq_true p13; replace q13 := eq_true q13
        go_upto_region 6 with (fail)
        go_cut [7] (fun v7 wc => ∃ (kq : Nat) (x7_13 : Bool), v7 = .bool x7_13 ∧ Aside0 (weirref05_name.j2 kq a0 a1 x5_2 (bt a0 (ji11)) x7_13 = some r) ∧ Aside0 (kq ≤ k2) ∧ Drawn0 w wc)
        case first =>
         have H := HC14.out; clear HC14; replace H := Option.bind_eq_some_iff.mp H; obtain ⟨t235, A150, H⟩ := H; replace H : (if t235 = true then (weirref05_name.j2 k2 a0 a1 x5_2 (bt a0 (ji11)) true) else ((weirref05_digit.f (bt a0 (ji11))).bind fun t236 => (if t236 = true then (weirref05_name.j2 k2 a0 a1 x5_2 (bt a0 (ji11)) true) else (weirref05_name.j2 k2 a0 a1 x5_2 (bt a0 (ji11)) ((bt a0 (ji11)) == 46))))) = some r := H; have A15 := Aside0.mk A150; clear A150
         by_cases c16 : t235 = true
         ·
          subst c16; have H1 : (weirref05_name.j2 k2 a0 a1 x5_2 (bt a0 (ji11)) true) = some r := by rw [if_pos rfl] at H; exact H
          clear H; have H := H1; clear H1; have H' := Aside0.mk H; clear H
          go_wp2_with (first | ((with_reducible refine gate_callee (f := 112) rfl ?_); refine goesL_ (some 31) rfl rfl Try.func112 (by kernel_rfl) rfl #[.int .u8 (bt a0 (ji11))] rfl (by (try simp only [List.map_toArray, List.map_cons, List.map_nil]); first | done | (simp only [hji11]; rfl) | rfl | (simp only [List.length_drop, List.length_take]; rfl)) ?_; (with_reducible refine (weirref05_letter.calls (bt a0 (ji11)) true _ A15.out).mono ?_); rintro e w' ⟨rfl, ⟨nd, rfl⟩⟩; refine ⟨_, rfl, ?_⟩))
          go_meet
          case rel => exact ⟨_, (true), ff_, H', ⟨by have := HJ2.out; have := HK2.out; first | omega | exact Nat.le_refl _⟩, by repeat (first | exact Drawn0.refl _ | apply Drawn0.step)⟩
         ·
          replace c16 := Bool.eq_false_iff.mpr c16; subst c16; have H1 : ((weirref05_digit.f (bt a0 (ji11))).bind fun t236 => (if t236 = true then (weirref05_name.j2 k2 a0 a1 x5_2 (bt a0 (ji11)) true) else (weirref05_name.j2 k2 a0 a1 x5_2 (bt a0 (ji11)) ((bt a0 (ji11)) == 46)))) = some r := by rw [if_neg (show ¬ (false = true) by decide)] at H; exact H
          clear H; have H := H1; clear H1; replace H := Option.bind_eq_some_iff.mp H; obtain ⟨t236, A170, H⟩ := H; replace H : (if t236 = true then (weirref05_name.j2 k2 a0 a1 x5_2 (bt a0 (ji11)) true) else (weirref05_name.j2 k2 a0 a1 x5_2 (bt a0 (ji11)) ((bt a0 (ji11)) == 46))) = some r := H; have A17 := Aside0.mk A170; clear A170
          by_cases c18 : t236 = true
          ·
           subst c18; have H1 : (weirref05_name.j2 k2 a0 a1 x5_2 (bt a0 (ji11)) true) = some r := by rw [if_pos rfl] at H; exact H
           clear H; have H := H1; clear H1; have H' := Aside0.mk H; clear H
           go_wp2_with (first | ((with_reducible refine gate_callee (f := 112) rfl ?_); refine goesL_ (some 31) rfl rfl Try.func112 (by kernel_rfl) rfl #[.int .u8 (bt a0 (ji11))] rfl (by (try simp only [List.map_toArray, List.map_cons, List.map_nil]); first | done | (simp only [hji11]; rfl) | rfl | (simp only [List.length_drop, List.length_take]; rfl)) ?_; (with_reducible refine (weirref05_letter.calls (bt a0 (ji11)) false _ A15.out).mono ?_); rintro e w' ⟨rfl, ⟨nd, rfl⟩⟩; refine ⟨_, rfl, ?_⟩) | (go_at_call 113; (with_reducible refine (weirref05_digit.calls (bt a0 (ji11)) true _ A17.out).mono ?_); rintro e w' ⟨rfl, ⟨nd, rfl⟩⟩))
           go_meet
           case rel => exact ⟨_, (true), ff_, H', ⟨by have := HJ2.out; have := HK2.out; first | omega | exact Nat.le_refl _⟩, by repeat (first | exact Drawn0.refl _ | apply Drawn0.step)⟩
          ·
           replace c18 := Bool.eq_false_iff.mpr c18; subst c18; have H1 : (weirref05_name.j2 k2 a0 a1 x5_2 (bt a0 (ji11)) ((bt a0 (ji11)) == 46)) = some r := by rw [if_neg (show ¬ (false = true) by decide)] at H; exact H
           clear H; have H := H1; clear H1; have H' := Aside0.mk H; clear H
           go_wp2_with (first | ((with_reducible refine gate_callee (f := 112) rfl ?_); refine goesL_ (some 31) rfl rfl Try.func112 (by kernel_rfl) rfl #[.int .u8 (bt a0 (ji11))] rfl (by (try simp only [List.map_toArray, List.map_cons, List.map_nil]); first | done | (simp only [hji11]; rfl) | rfl | (simp only [List.length_drop, List.length_take]; rfl)) ?_; (with_reducible refine (weirref05_letter.calls (bt a0 (ji11)) false _ A15.out).mono ?_); rintro e w' ⟨rfl, ⟨nd, rfl⟩⟩; refine ⟨_, rfl, ?_⟩) | (go_at_call 113; (with_reducible refine (weirref05_digit.calls (bt a0 (ji11)) false _ A17.out).mono ?_); rintro e w' ⟨rfl, ⟨nd, rfl⟩⟩))
           go_meet
           case rel => exact ⟨_, (((bt a0 (ji11)) == 46)), (by first | rfl | (simp; done) | (simp only [← hji11] <;> (first | rfl | simp)) | (simp [*]; done)), H', ⟨by have := HJ2.out; have := HK2.out; first | omega | exact Nat.le_refl _⟩, by repeat (first | exact Drawn0.refl _ | apply Drawn0.step)⟩
        case rest =>
         clear HC14; (try clear c10b0); (try clear c12b0); (try clear p13); (try clear q13); (try clear hx13); obtain ⟨kq, x7_13, rfl, HA, HJ13, ⟨mc13, rfl⟩⟩ := hcut
         cases kq with
         | zero => exact absurd HA.out (by simp [weirref05_name.j2])
         | succ kj13 =>
          have H := HA.out; clear HA; simp only [weirref05_name.j2] at H; have HC19 := Aside0.mk H; clear H
          go_upto_region 7 with (fail)
          go_cut [54] (fun v54 wc => ∃ (kq : Nat) (x54_18 : Bool), v54 = .bool x54_18 ∧ Aside0 (weirref05_name.j3 kq a0 a1 x5_2 x7_13 x54_18 = some r) ∧ Aside0 (kq ≤ kj13) ∧ Drawn0 w wc)
          case first =>
           have H := HC19.out; clear HC19
           by_cases c20 : (bt a0 (ji11)) = 43
           ·
            rw [if_pos c20] at H; have c20b0 : ((bt a0 (ji11)) == 43) = true := beq_iff_eq.mpr c20; have c20b1 : ((bt a0 (ji11)) != 43) = false := bne_eq_false_iff_eq.mpr c20; clear c20
            (first | rw [c20b0] | (simp only [i64_w, i32_w]; rw [c20b0]) | skip)
            have H' := Aside0.mk H; clear H; go_wp2; go_meet
            case rel => exact ⟨_, (decide ((wrap64 ((wrap64 (a1 + x5_2)) + 1)) < (a0.size : Int))), ff_, H', ⟨by have := HJ2.out; have := HK2.out; have := HJ13.out; first | omega | exact Nat.le_refl _⟩, by repeat (first | exact Drawn0.refl _ | apply Drawn0.step)⟩
           ·
            rw [if_neg c20] at H; have c20b0 : ((bt a0 (ji11)) == 43) = false := beq_eq_false_iff_ne.mpr c20; have c20b1 : ((bt a0 (ji11)) != 43) = true := bne_iff_ne.mpr c20
            (first | rw [c20b0] | (simp only [i64_w, i32_w]; rw [c20b0]) | skip)
            by_cases c21 : (bt a0 (ji11)) = 45
            ·
             rw [if_pos c21] at H; have c21b0 : ((bt a0 (ji11)) == 45) = true := beq_iff_eq.mpr c21; have c21b1 : ((bt a0 (ji11)) != 45) = false := bne_eq_false_iff_eq.mpr c21; clear c21; have H' := Aside0.mk H; clear H; go_wp2; go_meet
             case rel => exact ⟨_, (decide ((wrap64 ((wrap64 (a1 + x5_2)) + 1)) < (a0.size : Int))), ff_, H', ⟨by have := HJ2.out; have := HK2.out; have := HJ13.out; first | omega | exact Nat.le_refl _⟩, by repeat (first | exact Drawn0.refl _ | apply Drawn0.step)⟩
            ·
             rw [if_neg c21] at H; have c21b0 : ((bt a0 (ji11)) == 45) = false := beq_eq_false_iff_ne.mpr c21; have c21b1 : ((bt a0 (ji11)) != 45) = true := bne_iff_ne.mpr c21; have H' := Aside0.mk H; clear H; go_wp2; go_meet
             case rel => exact ⟨_, (false), ff_, H', ⟨by have := HJ2.out; have := HK2.out; have := HJ13.out; first | omega | exact Nat.le_refl _⟩, by repeat (first | exact Drawn0.refl _ | apply Drawn0.step)⟩
          case rest =>
           clear HC19; obtain ⟨kq, x54_18, rfl, HA, HJ18, ⟨mc18, rfl⟩⟩ := hcut
           cases kq with
           | zero => exact absurd HA.out (by simp [weirref05_name.j3])
           | succ kj18 =>
            have H := HA.out; clear HA; simp only [weirref05_name.j3] at H
            by_cases c22 : x54_18 = true
            ·
             subst c22; have H1 : (if 0 ≤ (wrap64 ((wrap64 (a1 + x5_2)) + 1)) then (if (wrap64 ((wrap64 (a1 + x5_2)) + 1)) < (a0.size : Int) then ((weirref05_letter.f (bt a0 (wrap64 ((wrap64 (a1 + x5_2)) + 1)))).bind fun t237 => (if t237 = true then (weirref05_name.l0 kj18 a0 a1 (wrap64 (x5_2 + 1))) else ((weirref05_digit.f (bt a0 (wrap64 ((wrap64 (a1 + x5_2)) + 1)))).bind fun t238 => (if t238 = true then (weirref05_name.l0 kj18 a0 a1 (wrap64 (x5_2 + 1))) else (some x5_2))))) else (none)) else (none)) = some r := by rw [if_pos rfl] at H; exact H
             clear H; have H := H1; clear H1; obtain ⟨ji23, hji23⟩ : ∃ j_ : Int, (wrap64 ((wrap64 (a1 + x5_2)) + 1)) = j_ := ⟨_, rfl⟩; replace H : (if 0 ≤ (ji23) then (if (ji23) < (a0.size : Int) then ((weirref05_letter.f (bt a0 (ji23))).bind fun t237 => (if t237 = true then (weirref05_name.l0 kj18 a0 a1 (wrap64 (x5_2 + 1))) else ((weirref05_digit.f (bt a0 (ji23))).bind fun t238 => (if t238 = true then (weirref05_name.l0 kj18 a0 a1 (wrap64 (x5_2 + 1))) else (some x5_2))))) else (none)) else (none)) = some r := by first | (rw [hji23] at H; exact H) | (simp only [hji23] at H ⊢; exact H)
             have hji23w : (IntKind.i64.wrap ((wrap64 (a1 + x5_2)) + 1)) = ji23 := (i64_w _).trans hji23; have hji23x := hji23
             (try rw [hji11] at hji23x)
             have hji23y := hji23w
             (try rw [hji11] at hji23y)
             by_cases c24 : 0 ≤ (ji23)
             ·
              rw [if_pos c24] at H; have c24b0 : decide (0 ≤ (ji23)) = true := decide_eq_true c24; clear c24
              by_cases c25 : (ji23) < (a0.size : Int)
              ·
               rw [if_pos c25] at H; have c25b0 : decide ((ji23) < (a0.size : Int)) = true := decide_eq_true c25; clear c25; replace H := Option.bind_eq_some_iff.mp H; obtain ⟨t237, A270, H⟩ := H; replace H : (if t237 = true then (weirref05_name.l0 kj18 a0 a1 (wrap64 (x5_2 + 1))) else ((weirref05_digit.f (bt a0 (ji23))).bind fun t238 => (if t238 = true then (weirref05_name.l0 kj18 a0 a1 (wrap64 (x5_2 + 1))) else (some x5_2)))) = some r := H; have A27 := Aside0.mk A270; clear A270
               by_cases c28 : t237 = true
               ·
                subst c28; have H1 : (weirref05_name.l0 kj18 a0 a1 (wrap64 (x5_2 + 1))) = some r := by rw [if_pos rfl] at H; exact H
                clear H; have H := H1; clear H1; have H' := Aside0.mk H; clear H; have p26 : 0 ≤ ((ji23) : Int) := dt_; have q26 : (ji23) < (a0.size : Int) := dt_; have hx26 := bt_at a0 (ji23); replace p26 := eq_true p26; replace q26 := eq_true q26
                go_wp2_with (first | ((with_reducible refine gate_callee (f := 112) rfl ?_); refine goesL_ (some 61) rfl rfl Try.func112 (by kernel_rfl) rfl #[.int .u8 (bt a0 (ji23))] rfl (by (try simp only [List.map_toArray, List.map_cons, List.map_nil]); first | done | (simp only [hji23]; rfl) | rfl | (simp only [List.length_drop, List.length_take]; rfl)) ?_; (with_reducible refine (weirref05_letter.calls (bt a0 (ji23)) true _ A27.out).mono ?_); rintro e w' ⟨rfl, ⟨nd, rfl⟩⟩; refine ⟨_, rfl, ?_⟩))
                go_roundg kj18
                case measure => have := HJ2.out; have := HK2.out; have := HJ13.out; have := HJ18.out; omega
                case rel => exact ⟨(wrap64 (x5_2 + 1)), ff_, H', ⟨by have := HJ2.out; have := HK2.out; have := HJ13.out; have := HJ18.out; omega⟩, by repeat (first | exact Drawn0.refl _ | apply Drawn0.step)⟩
               ·
                replace c28 := Bool.eq_false_iff.mpr c28; subst c28; have H1 : ((weirref05_digit.f (bt a0 (ji23))).bind fun t238 => (if t238 = true then (weirref05_name.l0 kj18 a0 a1 (wrap64 (x5_2 + 1))) else (some x5_2))) = some r := by rw [if_neg (show ¬ (false = true) by decide)] at H; exact H
                clear H; have H := H1; clear H1; replace H := Option.bind_eq_some_iff.mp H; obtain ⟨t238, A300, H⟩ := H; replace H : (if t238 = true then (weirref05_name.l0 kj18 a0 a1 (wrap64 (x5_2 + 1))) else (some x5_2)) = some r := H; have A30 := Aside0.mk A300; clear A300
                by_cases c31 : t238 = true
                ·
                 subst c31; have H1 : (weirref05_name.l0 kj18 a0 a1 (wrap64 (x5_2 + 1))) = some r := by rw [if_pos rfl] at H; exact H
                 clear H; have H := H1; clear H1; have H' := Aside0.mk H; clear H; have p26 : 0 ≤ ((ji23) : Int) := dt_; have q26 : (ji23) < (a0.size : Int) := dt_; have hx26 := bt_at a0 (ji23); replace p26 := eq_true p26; replace q26 := eq_true q26
                 go_wp2_with (first | ((with_reducible refine gate_callee (f := 112) rfl ?_); refine goesL_ (some 61) rfl rfl Try.func112 (by kernel_rfl) rfl #[.int .u8 (bt a0 (ji23))] rfl (by (try simp only [List.map_toArray, List.map_cons, List.map_nil]); first | done | (simp only [hji23]; rfl) | rfl | (simp only [List.length_drop, List.length_take]; rfl)) ?_; (with_reducible refine (weirref05_letter.calls (bt a0 (ji23)) false _ A27.out).mono ?_); rintro e w' ⟨rfl, ⟨nd, rfl⟩⟩; refine ⟨_, rfl, ?_⟩; have p29 : 0 ≤ ((ji23) : Int) := dt_; have q29 : (ji23) < (a0.size : Int) := dt_; have hx29 := bt_at a0 (ji23); replace p29 := eq_true p29; replace q29 := eq_true q29) | (go_at_call 113; (with_reducible refine (weirref05_digit.calls (bt a0 (ji23)) true _ A30.out).mono ?_); rintro e w' ⟨rfl, ⟨nd, rfl⟩⟩))
                 go_roundg kj18
                 case measure => have := HJ2.out; have := HK2.out; have := HJ13.out; have := HJ18.out; omega
                 case rel => exact ⟨(wrap64 (x5_2 + 1)), ff_, H', ⟨by have := HJ2.out; have := HK2.out; have := HJ13.out; have := HJ18.out; omega⟩, by repeat (first | exact Drawn0.refl _ | apply Drawn0.step)⟩
                ·
                 replace c31 := Bool.eq_false_iff.mpr c31; subst c31; have H1 : (some x5_2) = some r := by rw [if_neg (show ¬ (false = true) by decide)] at H; exact H
                 clear H; have H := H1; clear H1; obtain rfl := Option.some.inj H; have p26 : 0 ≤ ((ji23) : Int) := dt_; have q26 : (ji23) < (a0.size : Int) := dt_; have hx26 := bt_at a0 (ji23); replace p26 := eq_true p26; replace q26 := eq_true q26
                 go_wp2_with (first | ((with_reducible refine gate_callee (f := 112) rfl ?_); refine goesL_ (some 61) rfl rfl Try.func112 (by kernel_rfl) rfl #[.int .u8 (bt a0 (ji23))] rfl (by (try simp only [List.map_toArray, List.map_cons, List.map_nil]); first | done | (simp only [hji23]; rfl) | rfl | (simp only [List.length_drop, List.length_take]; rfl)) ?_; (with_reducible refine (weirref05_letter.calls (bt a0 (ji23)) false _ A27.out).mono ?_); rintro e w' ⟨rfl, ⟨nd, rfl⟩⟩; refine ⟨_, rfl, ?_⟩; have p29 : 0 ≤ ((ji23) : Int) := dt_; have q29 : (ji23) < (a0.size : Int) := dt_; have hx29 := bt_at a0 (ji23); replace p29 := eq_true p29; replace q29 := eq_true q29) | (go_at_call 113; (with_reducible refine (weirref05_digit.calls (bt a0 (ji23)) false _ A30.out).mono ?_); rintro e w' ⟨rfl, ⟨nd, rfl⟩⟩))
                 go_ret
                 exact ⟨by first | rfl | (simp; done) | (simp only [← hji11, ← hji23] <;> (first | rfl | simp)) | (simp [*]; done), by repeat (first | exact Drawn0.refl _ | apply Drawn0.step)⟩
              ·
               rw [if_neg c25] at H; exact absurd H (by simp)
             ·
              rw [if_neg c24] at H; exact absurd H (by simp)
            ·
             replace c22 := Bool.eq_false_iff.mpr c22; subst c22; have H1 : (if x7_13 = true then (weirref05_name.l0 kj18 a0 a1 (wrap64 (x5_2 + 1))) else (some x5_2)) = some r := by rw [if_neg (show ¬ (false = true) by decide)] at H; exact H
             clear H; have H := H1; clear H1
             by_cases c32 : x7_13 = true
             ·
              subst c32; have H1 : (weirref05_name.l0 kj18 a0 a1 (wrap64 (x5_2 + 1))) = some r := by rw [if_pos rfl] at H; exact H
              clear H; have H := H1; clear H1; have H' := Aside0.mk H; clear H; go_wp2
              go_roundg kj18
              case measure => have := HJ2.out; have := HK2.out; have := HJ13.out; have := HJ18.out; omega
              case rel => exact ⟨(wrap64 (x5_2 + 1)), ff_, H', ⟨by have := HJ2.out; have := HK2.out; have := HJ13.out; have := HJ18.out; omega⟩, by repeat (first | exact Drawn0.refl _ | apply Drawn0.step)⟩
             ·
              replace c32 := Bool.eq_false_iff.mpr c32; subst c32; have H1 : (some x5_2) = some r := by rw [if_neg (show ¬ (false = true) by decide)] at H; exact H
              clear H; have H := H1; clear H1; obtain rfl := Option.some.inj H; go_wp2
              go_ret
              exact ⟨by first | rfl | (simp; done) | (simp only [← hji11] <;> (first | rfl | simp)) | (simp [*]; done), by repeat (first | exact Drawn0.refl _ | apply Drawn0.step)⟩
       ·
        rw [if_neg c12] at H; exact absurd H (by simp)
      ·
       rw [if_neg c10] at H; have c10b0 : decide ((wrap64 (a1 + x5_2)) < (a0.size : Int)) = false := decide_eq_false c10; clear c10; obtain rfl := Option.some.inj H; go_wp2
       go_ret
       exact ⟨ff_, by repeat (first | exact Drawn0.refl _ | apply Drawn0.step)⟩

/-! ### weirref05_Name: function 61 -/
def weirref05_Name.f (k : Nat) (a0 : ByteArray) : Option (Bool) := if (a0.size : Int) > 0 then (if (a0.size : Int) ≤ 64 then ((weirref05_name.f k a0 0).bind fun t239 => (some (t239 == (a0.size : Int)))) else (some false)) else (some false)
theorem weirref05_Name.mono : ∀ a0 k, LeO (weirref05_Name.f k a0) (weirref05_Name.f (k + 1) a0) := by
 intro a0 k; unfold weirref05_Name.f
 repeat' first
   | (with_reducible exact weirref05_name.mono _ _ _)
   | (with_reducible exact LeO.refl _)
   | (with_reducible exact LeO.none _)
   | (with_reducible refine LeO.ite ?_ ?_)
   | (with_reducible refine LeO.bind ?_ (fun _ => ?_))
   | exact weirref05_name.mono _ _ _
   | exact LeO.none _
   | refine LeO.ite ?_ ?_
   | refine LeO.bind ?_ (fun _ => ?_)
set_option maxHeartbeats 8000000 in
set_option maxRecDepth 100000 in
theorem weirref05_Name.calls (k : Nat) (a0 : ByteArray) (r : Bool) (w : World) (h : weirref05_Name.f k a0 = some r) :
  Calls Try.prog 61 #[.string a0] w fun e w' => e = .returned (.bool r) ∧ Drawn0 w w' := by
 have H : (if (a0.size : Int) > 0 then (if (a0.size : Int) ≤ 64 then ((weirref05_name.f k a0 0).bind fun t239 => (some (t239 == (a0.size : Int)))) else (some false)) else (some false)) = some r := h; clear h
 by_cases c2 : (a0.size : Int) > 0
 ·
  rw [if_pos c2] at H; have c2b0 : decide (0 < (a0.size : Int)) = true := decide_eq_true c2; have c2b1 : decide (0 < a0.size) = true := decide_eq_true (by omega); clear c2
  by_cases c3 : (a0.size : Int) ≤ 64
  ·
   rw [if_pos c3] at H; have c3b0 : decide ((a0.size : Int) ≤ 64) = true := decide_eq_true c3; have c3b1 : decide (a0.size ≤ 64) = true := decide_eq_true (by omega); clear c3; replace H := Option.bind_eq_some_iff.mp H; obtain ⟨t239, A40, H⟩ := H; replace H : (some (t239 == (a0.size : Int))) = some r := H; have A4 := Aside0.mk A40; clear A40; obtain rfl := Option.some.inj H; go_enter Try.func61, Try.ntmps61
   go_wp2_with (first | (go_at_call 98; (with_reducible refine (weirref05_name.calls k a0 0 t239 _ A4.out).mono ?_); rintro e w' ⟨rfl, ⟨nd, rfl⟩⟩))
   go_ret
   exact ⟨ff_, by repeat (first | exact Drawn0.refl _ | apply Drawn0.step)⟩
  ·
   rw [if_neg c3] at H; have c3b0 : decide ((a0.size : Int) ≤ 64) = false := decide_eq_false c3; have c3b1 : decide (a0.size ≤ 64) = false := decide_eq_false (by omega); clear c3; obtain rfl := Option.some.inj H; go_enter Try.func61, Try.ntmps61; go_wp2
   go_ret
   exact ⟨ff_, by repeat (first | exact Drawn0.refl _ | apply Drawn0.step)⟩
 ·
  rw [if_neg c2] at H; have c2b0 : decide (0 < (a0.size : Int)) = false := decide_eq_false c2; have c2b1 : decide (0 < a0.size) = false := decide_eq_false (by omega); clear c2; obtain rfl := Option.some.inj H; go_enter Try.func61, Try.ntmps61; go_wp2
  go_ret
  exact ⟨ff_, by repeat (first | exact Drawn0.refl _ | apply Drawn0.step)⟩

end Go.Proofs.Ytemhpbdlonfikaa.P
-- Printed by xprint.py, a program of this session over the kit's printer.
namespace Go.Proofs.Ytemhpbdlonfikaa.P
open Go.RowKit Go.Proofs.YtemhpbdlonfikaaW.PrintWords Go.Proofs.YtemhpbdlonfikaaW.PrintLast Go.Proofs.YtemhpbdlonfikaaW.PrintMore
attribute [local go_sem] max2_int min2_int max_two min_two max_three min_three max_four min_four   -- for this text's walks alone

/-! ### weirref09_uses: function 99 -/
def weirref09_uses.j0 : Nat → Int → Bool → Option (Bool × Bool × Bool × Bool)
 | 0, _, _ => none
 | _ + 1, x6, x11 => if x11 = true then (some (true, false, true, false)) else (if x6 = 4 then (some (false, false, true, true)) else (if x6 = 5 then (some (false, true, true, false)) else (if x6 = 8 then (some (false, true, true, false)) else (some (false, false, false, false)))))
def weirref09_uses.f (k : Nat) (a0 : Int) : Option (Bool × Bool × Bool × Bool) := if a0 = 1 then (some (true, false, false, true)) else (if a0 = 2 then (some (true, true, false, false)) else (if a0 = 3 then (weirref09_uses.j0 k a0 (a0 == 3)) else (if a0 = 7 then (weirref09_uses.j0 k a0 (a0 == 7)) else (weirref09_uses.j0 k a0 (a0 == 9)))))
theorem weirref09_uses.mono_l : ∀ k, (∀ y0 y1, LeO (weirref09_uses.j0 k y0 y1) (weirref09_uses.j0 (k + 1) y0 y1))
 | 0 => fun _ _ r h => by simp [weirref09_uses.j0] at h
 | k + 1 => by
  have ih0 := weirref09_uses.mono_l k
  ·
   intro y0 y1; unfold weirref09_uses.j0
   repeat' first
   | (with_reducible exact ih0 _ _)
   | (with_reducible exact LeO.refl _)
   | (with_reducible exact LeO.none _)
   | (with_reducible refine LeO.ite ?_ ?_)
   | (with_reducible refine LeO.bind ?_ (fun _ => ?_))
   | exact ih0 _ _
   | exact LeO.none _
   | refine LeO.ite ?_ ?_
   | refine LeO.bind ?_ (fun _ => ?_)
theorem weirref09_uses.mono : ∀ a0 k, LeO (weirref09_uses.f k a0) (weirref09_uses.f (k + 1) a0) := by
 intro a0 k; have ih0 := weirref09_uses.mono_l k; unfold weirref09_uses.f
 repeat' first
   | (with_reducible exact ih0 _ _)
   | (with_reducible exact LeO.refl _)
   | (with_reducible exact LeO.none _)
   | (with_reducible refine LeO.ite ?_ ?_)
   | (with_reducible refine LeO.bind ?_ (fun _ => ?_))
   | exact ih0 _ _
   | exact LeO.none _
   | refine LeO.ite ?_ ?_
   | refine LeO.bind ?_ (fun _ => ?_)
set_option maxHeartbeats 8000000 in
set_option maxRecDepth 100000 in
theorem weirref09_uses.calls (k : Nat) (a0 : Int) (r1 : Bool) (r2 : Bool) (r3 : Bool) (r4 : Bool) (w : World) (h : weirref09_uses.f k a0 = some (r1, r2, r3, r4)) :
  Calls Try.prog 99 #[.int .i64 a0] w fun e w' => e = .returned (.tuple #[.bool r1, .bool r2, .bool r3, .bool r4]) ∧ Drawn0 w w' := by
 have H : (if a0 = 1 then (some (true, false, false, true)) else (if a0 = 2 then (some (true, true, false, false)) else (if a0 = 3 then (weirref09_uses.j0 k a0 (a0 == 3)) else (if a0 = 7 then (weirref09_uses.j0 k a0 (a0 == 7)) else (weirref09_uses.j0 k a0 (a0 == 9)))))) = some (r1, r2, r3, r4) := h; clear h
 by_cases c2 : a0 = 1
 ·
  rw [if_pos c2] at H; have c2b0 : (a0 == 1) = true := beq_iff_eq.mpr c2; have c2b1 : (a0 != 1) = false := bne_eq_false_iff_eq.mpr c2; clear c2; simp only [Option.some.injEq, Prod.mk.injEq] at H; obtain ⟨rfl, rfl, rfl, rfl⟩ := H; go_enter Try.func99, Try.ntmps99; go_wp2; refine bodyPost_ret (results_list (rs := [.tmp 2, .tmp 3, .tmp 4, .tmp 5]) rfl (by simp) (.tmp (.tmp (.tmp (.tmp .nil))))) rfl ?_; exact ⟨ff_, by repeat (first | exact Drawn0.refl _ | apply Drawn0.step)⟩
 ·
  rw [if_neg c2] at H; have c2b0 : (a0 == 1) = false := beq_eq_false_iff_ne.mpr c2; have c2b1 : (a0 != 1) = true := bne_iff_ne.mpr c2
  by_cases c3 : a0 = 2
  ·
   rw [if_pos c3] at H; have c3b0 : (a0 == 2) = true := beq_iff_eq.mpr c3; have c3b1 : (a0 != 2) = false := bne_eq_false_iff_eq.mpr c3; clear c3; simp only [Option.some.injEq, Prod.mk.injEq] at H; obtain ⟨rfl, rfl, rfl, rfl⟩ := H; go_enter Try.func99, Try.ntmps99; go_wp2; refine bodyPost_ret (results_list (rs := [.tmp 2, .tmp 3, .tmp 4, .tmp 5]) rfl (by simp) (.tmp (.tmp (.tmp (.tmp .nil))))) rfl ?_; exact ⟨ff_, by repeat (first | exact Drawn0.refl _ | apply Drawn0.step)⟩
  ·
   rw [if_neg c3] at H; have c3b0 : (a0 == 2) = false := beq_eq_false_iff_ne.mpr c3; have c3b1 : (a0 != 2) = true := bne_iff_ne.mpr c3; have HC4 := Aside0.mk H; clear H; go_enter Try.func99, Try.ntmps99
   go_upto_if 11 with (fail)
   go_cut [11] (fun v11 wc => ∃ (kq : Nat) (x11_3 : Bool), v11 = .bool x11_3 ∧ Aside0 (weirref09_uses.j0 kq a0 x11_3 = some (r1, r2, r3, r4)) ∧ Aside0 (kq ≤ k) ∧ Drawn0 w wc)
   case first =>
    have H := HC4.out; clear HC4
    by_cases c5 : a0 = 3
    ·
     rw [if_pos c5] at H; have c5b0 : (a0 == 3) = true := beq_iff_eq.mpr c5; have c5b1 : (a0 != 3) = false := bne_eq_false_iff_eq.mpr c5; clear c5
     (first | rw [c5b0] | (simp only [i64_w, i32_w]; rw [c5b0]) | skip)
     have H' := Aside0.mk H; clear H; go_wp2; go_meet
     case rel => exact ⟨_, ((a0 == 3)), ff_, H', ⟨by first | omega | exact Nat.le_refl _⟩, by repeat (first | exact Drawn0.refl _ | apply Drawn0.step)⟩
    ·
     rw [if_neg c5] at H; have c5b0 : (a0 == 3) = false := beq_eq_false_iff_ne.mpr c5; have c5b1 : (a0 != 3) = true := bne_iff_ne.mpr c5
     (first | rw [c5b0] | (simp only [i64_w, i32_w]; rw [c5b0]) | skip)
     by_cases c6 : a0 = 7
     ·
      rw [if_pos c6] at H; have c6b0 : (a0 == 7) = true := beq_iff_eq.mpr c6; have c6b1 : (a0 != 7) = false := bne_eq_false_iff_eq.mpr c6; clear c6; have H' := Aside0.mk H; clear H; go_wp2; go_meet
      case rel => exact ⟨_, ((a0 == 7)), ff_, H', ⟨by first | omega | exact Nat.le_refl _⟩, by repeat (first | exact Drawn0.refl _ | apply Drawn0.step)⟩
     ·
      rw [if_neg c6] at H; have c6b0 : (a0 == 7) = false := beq_eq_false_iff_ne.mpr c6; have c6b1 : (a0 != 7) = true := bne_iff_ne.mpr c6; have H' := Aside0.mk H; clear H; go_wp2; go_meet
      case rel => exact ⟨_, ((a0 == 9)), ff_, H', ⟨by first | omega | exact Nat.le_refl _⟩, by repeat (first | exact Drawn0.refl _ | apply Drawn0.step)⟩
   case rest =>
    clear HC4; (try clear c2); (try clear c2b0); (try clear c2b1); (try clear c3); (try clear c3b0); (try clear c3b1); obtain ⟨kq, x11_3, rfl, HA, HJ3, ⟨mc3, rfl⟩⟩ := hcut
    cases kq with
    | zero => exact absurd HA.out (by simp [weirref09_uses.j0])
    | succ kj3 =>
     have H := HA.out; clear HA; simp only [weirref09_uses.j0] at H
     by_cases c7 : x11_3 = true
     ·
      subst c7; have H1 : (some (true, false, true, false)) = some (r1, r2, r3, r4) := by rw [if_pos rfl] at H; exact H
      clear H; have H := H1; clear H1; simp only [Option.some.injEq, Prod.mk.injEq] at H; obtain ⟨rfl, rfl, rfl, rfl⟩ := H; go_wp2; refine bodyPost_ret (results_list (rs := [.tmp 2, .tmp 3, .tmp 4, .tmp 5]) rfl (by simp) (.tmp (.tmp (.tmp (.tmp .nil))))) rfl ?_; exact ⟨ff_, by repeat (first | exact Drawn0.refl _ | apply Drawn0.step)⟩
     ·
      replace c7 := Bool.eq_false_iff.mpr c7; subst c7; have H1 : (if a0 = 4 then (some (false, false, true, true)) else (if a0 = 5 then (some (false, true, true, false)) else (if a0 = 8 then (some (false, true, true, false)) else (some (false, false, false, false))))) = some (r1, r2, r3, r4) := by rw [if_neg (show ¬ (false = true) by decide)] at H; exact H
      clear H; have H := H1; clear H1
      by_cases c8 : a0 = 4
      ·
       rw [if_pos c8] at H; have c8b0 : (a0 == 4) = true := beq_iff_eq.mpr c8; have c8b1 : (a0 != 4) = false := bne_eq_false_iff_eq.mpr c8; clear c8; simp only [Option.some.injEq, Prod.mk.injEq] at H; obtain ⟨rfl, rfl, rfl, rfl⟩ := H; go_wp2; refine bodyPost_ret (results_list (rs := [.tmp 2, .tmp 3, .tmp 4, .tmp 5]) rfl (by simp) (.tmp (.tmp (.tmp (.tmp .nil))))) rfl ?_; exact ⟨ff_, by repeat (first | exact Drawn0.refl _ | apply Drawn0.step)⟩
      ·
       rw [if_neg c8] at H; have c8b0 : (a0 == 4) = false := beq_eq_false_iff_ne.mpr c8; have c8b1 : (a0 != 4) = true := bne_iff_ne.mpr c8
       by_cases c9 : a0 = 5
       ·
        rw [if_pos c9] at H; have c9b0 : (a0 == 5) = true := beq_iff_eq.mpr c9; have c9b1 : (a0 != 5) = false := bne_eq_false_iff_eq.mpr c9; clear c9; simp only [Option.some.injEq, Prod.mk.injEq] at H; obtain ⟨rfl, rfl, rfl, rfl⟩ := H; go_wp2; refine bodyPost_ret (results_list (rs := [.tmp 2, .tmp 3, .tmp 4, .tmp 5]) rfl (by simp) (.tmp (.tmp (.tmp (.tmp .nil))))) rfl ?_; exact ⟨ff_, by repeat (first | exact Drawn0.refl _ | apply Drawn0.step)⟩
       ·
        rw [if_neg c9] at H; have c9b0 : (a0 == 5) = false := beq_eq_false_iff_ne.mpr c9; have c9b1 : (a0 != 5) = true := bne_iff_ne.mpr c9
        by_cases c10 : a0 = 8
        ·
         rw [if_pos c10] at H; have c10b0 : (a0 == 8) = true := beq_iff_eq.mpr c10; have c10b1 : (a0 != 8) = false := bne_eq_false_iff_eq.mpr c10; clear c10; simp only [Option.some.injEq, Prod.mk.injEq] at H; obtain ⟨rfl, rfl, rfl, rfl⟩ := H; go_wp2; refine bodyPost_ret (results_list (rs := [.tmp 2, .tmp 3, .tmp 4, .tmp 5]) rfl (by simp) (.tmp (.tmp (.tmp (.tmp .nil))))) rfl ?_; exact ⟨ff_, by repeat (first | exact Drawn0.refl _ | apply Drawn0.step)⟩
        ·
         rw [if_neg c10] at H; have c10b0 : (a0 == 8) = false := beq_eq_false_iff_ne.mpr c10; have c10b1 : (a0 != 8) = true := bne_iff_ne.mpr c10; simp only [Option.some.injEq, Prod.mk.injEq] at H; obtain ⟨rfl, rfl, rfl, rfl⟩ := H; go_wp2; refine bodyPost_ret (results_list (rs := [.tmp 2, .tmp 3, .tmp 4, .tmp 5]) rfl (by simp) (.tmp (.tmp (.tmp (.tmp .nil))))) rfl ?_; exact ⟨ff_, by repeat (first | exact Drawn0.refl _ | apply Drawn0.step)⟩

/-! ### weirref09_number: function 100 -/
def weirref09_number.l0 : Nat → List ByteArray → ByteArray → Int → Option (Int)
 | 0, _, _, _ => none
 | k + 1, x0, x1, x5 => if x5 < (x0.length : Int) then (if 0 ≤ x5 then (if (rdOf ByteArray.empty x0 x5).toList = x1.toList then (some x5) else (weirref09_number.l0 k x0 x1 (wrap64 (x5 + 1)))) else (none)) else (some (-1))
def weirref09_number.f (k : Nat) (l0 : List ByteArray) (a1 : ByteArray) : Option (Int) := weirref09_number.l0 k l0 a1 0
theorem weirref09_number.mono_l : ∀ k, (∀ y0 y1 y2, LeO (weirref09_number.l0 k y0 y1 y2) (weirref09_number.l0 (k + 1) y0 y1 y2))
 | 0 => fun _ _ _ r h => by simp [weirref09_number.l0] at h
 | k + 1 => by
  have ih0 := weirref09_number.mono_l k
  ·
   intro y0 y1 y2; unfold weirref09_number.l0
   repeat' first
   | (with_reducible exact ih0 _ _ _)
   | (with_reducible exact LeO.refl _)
   | (with_reducible exact LeO.none _)
   | (with_reducible refine LeO.ite ?_ ?_)
   | (with_reducible refine LeO.bind ?_ (fun _ => ?_))
   | exact ih0 _ _ _
   | exact LeO.none _
   | refine LeO.ite ?_ ?_
   | refine LeO.bind ?_ (fun _ => ?_)
theorem weirref09_number.mono : ∀ a0 a1 k, LeO (weirref09_number.f k a0 a1) (weirref09_number.f (k + 1) a0 a1) := by
 intro a0 a1 k; have ih0 := weirref09_number.mono_l k; unfold weirref09_number.f
 repeat' first
   | (with_reducible exact ih0 _ _ _)
   | (with_reducible exact LeO.refl _)
   | (with_reducible exact LeO.none _)
   | (with_reducible refine LeO.ite ?_ ?_)
   | (with_reducible refine LeO.bind ?_ (fun _ => ?_))
   | exact ih0 _ _ _
   | exact LeO.none _
   | refine LeO.ite ?_ ?_
   | refine LeO.bind ?_ (fun _ => ?_)
set_option maxHeartbeats 8000000 in
set_option maxRecDepth 100000 in
theorem weirref09_number.calls (k : Nat) (A0 : Option Addr) (c0 : Nat) (l0 : List ByteArray) (a1 : ByteArray) (r : Int) (w : World) (hr0 : Kd.C Kd.string w A0 l0.length l0) (hc0 : l0.length ≤ c0) (h : weirref09_number.f k l0 a1 = some r) :
  Calls Try.prog 100 #[.slice A0 l0.length c0, .string a1] w fun e w' => e = .returned (.int .i64 r) ∧ Drawn0 w w' := by
 have HR0 := Aside0.mk hr0; have HC0 := Aside0.mk hc0; clear hr0 hc0; have H : (weirref09_number.l0 k l0 a1 0) = some r := h; clear h; have H' := Aside0.mk H; clear H; go_enter Try.func100, Try.ntmps100; go_wp2
 go_loopg [5] k (fun kq v5 w' => ∃ (x5_1 : Int), v5 = .int .i64 x5_1 ∧ Aside0 (weirref09_number.l0 kq l0 a1 x5_1 = some r) ∧ Aside0 (kq ≤ k) ∧ Drawn0 w w')
 case atStart => exact ⟨(0), ff_, H', ⟨Nat.le_refl _⟩, by repeat (first | exact Drawn0.refl _ | apply Drawn0.step)⟩
 case round =>
  clear H'; obtain ⟨x5_1, rfl, HA, HK1, ⟨m1, rfl⟩⟩ := hrel
  cases gk with
  | zero => exact absurd HA.out (by simp [weirref09_number.l0])
  | succ k1 =>
   have H := HA.out; clear HA; simp only [weirref09_number.l0] at H
   by_cases c3 : x5_1 < (l0.length : Int)
   ·
    rw [if_pos c3] at H; have c3b0 : decide (x5_1 < (l0.length : Int)) = true := decide_eq_true c3; clear c3
    by_cases c4 : 0 ≤ x5_1
    ·
     rw [if_pos c4] at H; have c4b0 : decide (0 ≤ x5_1) = true := decide_eq_true c4; clear c4
     by_cases c5 : (rdOf ByteArray.empty l0 x5_1).toList = a1.toList
     ·
      rw [if_pos c5] at H; have c5b0 : ((rdOf ByteArray.empty l0 x5_1).toList == a1.toList) = true := beq_iff_eq.mpr c5; have c5b1 : ((rdOf ByteArray.empty l0 x5_1).toList != a1.toList) = false := bne_eq_false_iff_eq.mpr c5; clear c5; obtain rfl := Option.some.inj H; have p240 : 0 ≤ (x5_1 : Int) := dt_; have q240 : x5_1 < (l0.length : Int) := dt_; obtain ⟨ad240, e240, hx240_0⟩ := Kd.at_string HR0.out x5_1 p240 q240; cases e240; replace p240 := eq_true p240; replace q240 := eq_true q240; go_wp2
      go_ret
      exact ⟨ff_, by repeat (first | exact Drawn0.refl _ | apply Drawn0.step)⟩
     ·
      rw [if_neg c5] at H; have c5b0 : ((rdOf ByteArray.empty l0 x5_1).toList == a1.toList) = false := beq_eq_false_iff_ne.mpr c5; have c5b1 : ((rdOf ByteArray.empty l0 x5_1).toList != a1.toList) = true := bne_iff_ne.mpr c5; have H' := Aside0.mk H; clear H; have p240 : 0 ≤ (x5_1 : Int) := dt_; have q240 : x5_1 < (l0.length : Int) := dt_; obtain ⟨ad240, e240, hx240_0⟩ := Kd.at_string HR0.out x5_1 p240 q240; cases e240; replace p240 := eq_true p240; replace q240 := eq_true q240; go_wp2
      go_roundg k1
      case measure => have := HK1.out; omega
      case rel => exact ⟨(wrap64 (x5_1 + 1)), ff_, H', ⟨by have := HK1.out; omega⟩, by repeat (first | exact Drawn0.refl _ | apply Drawn0.step)⟩
    ·
     rw [if_neg c4] at H; exact absurd H (by simp)
   ·
    rw [if_neg c3] at H; have c3b0 : decide (x5_1 < (l0.length : Int)) = false := decide_eq_false c3; clear c3; obtain rfl := Option.some.inj H; go_wp2
    go_ret
    exact ⟨ff_, by repeat (first | exact Drawn0.refl _ | apply Drawn0.step)⟩

end Go.Proofs.Ytemhpbdlonfikaa.P
