-- Printed by xprint.py, a program of this session over the kit's printer.
import Derived.Test.YtemhpbdlonfikaaP3
import Derived.Test.YtemhpbdlonfikaaP14
import Derived.Test.YtemhpbdlonfikaaP26
namespace Go.Proofs.Ytemhpbdlonfikaa.P
open Go.RowKit Go.Proofs.YtemhpbdlonfikaaW.PrintWords Go.Proofs.YtemhpbdlonfikaaW.PrintLast Go.Proofs.YtemhpbdlonfikaaW.PrintMore
attribute [local go_sem] max2_int min2_int max_two min_two max_three min_three max_four min_four   -- for this text's walks alone

/-! ### weirref04_Take: function 93 -/
mutual
def weirref04_Take.j0 : Nat → ByteArray → Int → Bool → Option (Int × Int × Int)
 | 0, _, _, _ => none
 | k + 1, x0, x1, x19 => if x19 = true then (some (0, 0, 40)) else (weirref04_Take.l0 k x0 x1 0 0)
def weirref04_Take.l0 : Nat → ByteArray → Int → Int → Int → Option (Int × Int × Int)
 | 0, _, _, _, _ => none
 | k + 1, x0, x1, x7, x8 => if (wrap64 (x1 + x8)) < (x0.size : Int) then (weirref04_Take.j2 k x0 x1 x7 x8 (decide (x8 < 10))) else (weirref04_Take.j2 k x0 x1 x7 x8 false)
def weirref04_Take.j2 : Nat → ByteArray → Int → Int → Int → Bool → Option (Int × Int × Int)
 | 0, _, _, _, _, _ => none
 | k + 1, x0, x1, x7, x8, x29 => if x29 = true then (if 0 ≤ (wrap64 (x1 + x8)) then (if (wrap64 (x1 + x8)) < (x0.size : Int) then (if x8 = 9 then (weirref04_Take.j3 k x0 x1 x7 x8 (bt x0 (wrap64 (x1 + x8))) (IntKind.u64.wrap (Int.tmod (bt x0 (wrap64 (x1 + x8))) 128)) (decide ((IntKind.u64.wrap (Int.tmod (bt x0 (wrap64 (x1 + x8))) 128)) > 1))) else (weirref04_Take.j3 k x0 x1 x7 x8 (bt x0 (wrap64 (x1 + x8))) (IntKind.u64.wrap (Int.tmod (bt x0 (wrap64 (x1 + x8))) 128)) false)) else (none)) else (none)) else (some (0, 0, 40))
def weirref04_Take.j3 : Nat → ByteArray → Int → Int → Int → Int → Int → Bool → Option (Int × Int × Int)
 | 0, _, _, _, _, _, _, _ => none
 | k + 1, x0, x1, x7, x8, x9, x10, x45 => if x45 = true then (some (0, 0, 40)) else (if 0 ≤ (wrap64 (7 * x8)) then (if x9 ≥ 128 then (weirref04_Take.l0 k x0 x1 (Go.bits .or .u64 x7 (shl .u64 x10 (wrap64 (7 * x8)))) (wrap64 (x8 + 1))) else (if x9 = 0 then (weirref04_Take.j4 k (Go.bits .or .u64 x7 (shl .u64 x10 (wrap64 (7 * x8)))) x8 (decide (x8 > 0))) else (weirref04_Take.j4 k (Go.bits .or .u64 x7 (shl .u64 x10 (wrap64 (7 * x8)))) x8 false))) else (none))
def weirref04_Take.j4 : Nat → Int → Int → Bool → Option (Int × Int × Int)
 | 0, _, _, _ => none
 | _ + 1, x7, x8, x59 => if x59 = true then (some (0, 0, 40)) else (if (Int.tmod x7 2) = 1 then (some (wrap64 ((wrap64 (-(wrap64 (x7 / 2)))) - 1), wrap64 (x8 + 1), 0)) else (some (wrap64 (x7 / 2), wrap64 (x8 + 1), 0)))
end
def weirref04_Take.f (k : Nat) (a0 : ByteArray) (a1 : Int) : Option (Int × Int × Int) := if a1 < 0 then (weirref04_Take.j0 k a0 a1 true) else (weirref04_Take.j0 k a0 a1 (decide (a1 ≥ (a0.size : Int))))
theorem weirref04_Take.mono_l : ∀ k, (∀ y0 y1 y2, LeO (weirref04_Take.j0 k y0 y1 y2) (weirref04_Take.j0 (k + 1) y0 y1 y2)) ∧ (∀ y0 y1 y2 y3, LeO (weirref04_Take.l0 k y0 y1 y2 y3) (weirref04_Take.l0 (k + 1) y0 y1 y2 y3)) ∧ (∀ y0 y1 y2 y3 y4, LeO (weirref04_Take.j2 k y0 y1 y2 y3 y4) (weirref04_Take.j2 (k + 1) y0 y1 y2 y3 y4)) ∧ (∀ y0 y1 y2 y3 y4 y5 y6, LeO (weirref04_Take.j3 k y0 y1 y2 y3 y4 y5 y6) (weirref04_Take.j3 (k + 1) y0 y1 y2 y3 y4 y5 y6)) ∧ (∀ y0 y1 y2, LeO (weirref04_Take.j4 k y0 y1 y2) (weirref04_Take.j4 (k + 1) y0 y1 y2))
 | 0 => ⟨fun _ _ _ r h => by simp [weirref04_Take.j0] at h, fun _ _ _ _ r h => by simp [weirref04_Take.l0] at h, fun _ _ _ _ _ r h => by simp [weirref04_Take.j2] at h, fun _ _ _ _ _ _ _ r h => by simp [weirref04_Take.j3] at h, fun _ _ _ r h => by simp [weirref04_Take.j4] at h⟩
 | k + 1 => by
  obtain ⟨ih0, ih1, ih2, ih3, ih4⟩ := weirref04_Take.mono_l k; refine ⟨?_, ?_, ?_, ?_, ?_⟩; intro y0 y1 y2; unfold weirref04_Take.j0; rotate_left; intro y0 y1 y2 y3; unfold weirref04_Take.l0; rotate_left; intro y0 y1 y2 y3 y4; unfold weirref04_Take.j2; rotate_left; intro y0 y1 y2 y3 y4 y5 y6; unfold weirref04_Take.j3; rotate_left; intro y0 y1 y2; unfold weirref04_Take.j4; rotate_left
  all_goals (repeat' first
   | (with_reducible exact ih0 _ _ _)
   | (with_reducible exact ih1 _ _ _ _)
   | (with_reducible exact ih2 _ _ _ _ _)
   | (with_reducible exact ih3 _ _ _ _ _ _ _)
   | (with_reducible exact ih4 _ _ _)
   | (with_reducible exact LeO.refl _)
   | (with_reducible exact LeO.none _)
   | (with_reducible refine LeO.ite ?_ ?_)
   | (with_reducible refine LeO.bind ?_ (fun _ => ?_))
   | exact ih0 _ _ _
   | exact ih1 _ _ _ _
   | exact ih2 _ _ _ _ _
   | exact ih3 _ _ _ _ _ _ _
   | exact ih4 _ _ _
   | exact LeO.none _
   | refine LeO.ite ?_ ?_
   | refine LeO.bind ?_ (fun _ => ?_))
theorem weirref04_Take.mono : ∀ a0 a1 k, LeO (weirref04_Take.f k a0 a1) (weirref04_Take.f (k + 1) a0 a1) := by
 intro a0 a1 k; obtain ⟨ih0, ih1, ih2, ih3, ih4⟩ := weirref04_Take.mono_l k; unfold weirref04_Take.f
 repeat' first
   | (with_reducible exact ih0 _ _ _)
   | (with_reducible exact ih1 _ _ _ _)
   | (with_reducible exact ih2 _ _ _ _ _)
   | (with_reducible exact ih3 _ _ _ _ _ _ _)
   | (with_reducible exact ih4 _ _ _)
   | (with_reducible exact LeO.refl _)
   | (with_reducible exact LeO.none _)
   | (with_reducible refine LeO.ite ?_ ?_)
   | (with_reducible refine LeO.bind ?_ (fun _ => ?_))
   | exact ih0 _ _ _
   | exact ih1 _ _ _ _
   | exact ih2 _ _ _ _ _
   | exact ih3 _ _ _ _ _ _ _
   | exact ih4 _ _ _
   | exact LeO.none _
   | refine LeO.ite ?_ ?_
   | refine LeO.bind ?_ (fun _ => ?_)
set_option maxHeartbeats 8000000 in
set_option maxRecDepth 100000 in
theorem weirref04_Take.calls (k : Nat) (a0 : ByteArray) (a1 : Int) (r1 : Int) (r2 : Int) (r3 : Int) (w : World) (h : weirref04_Take.f k a0 a1 = some (r1, r2, r3)) :
  Calls Try.prog 93 #[.string a0, .int .i64 a1] w fun e w' => e = .returned (.tuple #[.int .i64 r1, .int .i64 r2, .int .i64 r3]) ∧ Drawn0 w w' := by
 have H : (if a1 < 0 then (weirref04_Take.j0 k a0 a1 true) else (weirref04_Take.j0 k a0 a1 (decide (a1 ≥ (a0.size : Int))))) = some (r1, r2, r3) := h; clear h; have HC3 := Aside0.mk H; clear H; go_enter Try.func93, Try.ntmps93
 go_upto_region 1 with (fail)
 go_cut [19] (fun v19 wc => ∃ (kq : Nat) (x19_2 : Bool), v19 = .bool x19_2 ∧ Aside0 (weirref04_Take.j0 kq a0 a1 x19_2 = some (r1, r2, r3)) ∧ Aside0 (kq ≤ k) ∧ Drawn0 w wc)
 case first =>
  have H := HC3.out; clear HC3
  by_cases c4 : a1 < 0
  ·
   rw [if_pos c4] at H; have c4b0 : decide (a1 < 0) = true := decide_eq_true c4; clear c4
   (first | rw [c4b0] | (simp only [i64_w, i32_w]; rw [c4b0]) | skip)
   have H' := Aside0.mk H; clear H; go_wp2; go_meet
   case rel => exact ⟨_, (true), ff_, H', ⟨by first | omega | exact Nat.le_refl _⟩, by repeat (first | exact Drawn0.refl _ | apply Drawn0.step)⟩
  ·
   rw [if_neg c4] at H; have c4b0 : decide (a1 < 0) = false := decide_eq_false c4; clear c4
   (first | rw [c4b0] | (simp only [i64_w, i32_w]; rw [c4b0]) | skip)
   have H' := Aside0.mk H; clear H; go_wp2; go_meet
   case rel => exact ⟨_, (decide (a1 ≥ (a0.size : Int))), ff_, H', ⟨by first | omega | exact Nat.le_refl _⟩, by repeat (first | exact Drawn0.refl _ | apply Drawn0.step)⟩
 case rest =>
  clear HC3; obtain ⟨kq, x19_2, rfl, HA, HJ2, ⟨mc2, rfl⟩⟩ := hcut
  cases kq with
  | zero => exact absurd HA.out (by simp [weirref04_Take.j0])
  | succ kj2 =>
   have H := HA.out; clear HA; simp only [weirref04_Take.j0] at H
   by_cases c5 : x19_2 = true
   ·
    subst c5; have H1 : (some (0, 0, 40)) = some (r1, r2, r3) := by rw [if_pos rfl] at H; exact H
    clear H; have H := H1; clear H1; simp only [Option.some.injEq, Prod.mk.injEq] at H; obtain ⟨rfl, rfl, rfl⟩ := H; go_wp2
    go_ret3
    exact ⟨ff_, by repeat (first | exact Drawn0.refl _ | apply Drawn0.step)⟩
   ·
    replace c5 := Bool.eq_false_iff.mpr c5; subst c5; have H1 : (weirref04_Take.l0 kj2 a0 a1 0 0) = some (r1, r2, r3) := by rw [if_neg (show ¬ (false = true) by decide)] at H; exact H
    clear H; have H := H1; clear H1; have H' := Aside0.mk H; clear H; go_wp2
    go_loopg [7, 8] kj2 (fun kq v7 v8 w' => ∃ (x7_2 : Int) (x8_2 : Int), v7 = .int .u64 x7_2 ∧ v8 = .int .i64 x8_2 ∧ Aside0 (weirref04_Take.l0 kq a0 a1 x7_2 x8_2 = some (r1, r2, r3)) ∧ Aside0 (kq ≤ kj2) ∧ Drawn0 w w')
    case atStart => exact ⟨(0), (0), ff_, ff_, H', ⟨Nat.le_refl _⟩, by repeat (first | exact Drawn0.refl _ | apply Drawn0.step)⟩
    case round =>
     clear H'; (try clear c5); obtain ⟨x7_2, x8_2, rfl, rfl, HA, HK2, ⟨m2, rfl⟩⟩ := hrel
     cases gk with
     | zero => exact absurd HA.out (by simp [weirref04_Take.l0])
     | succ k2 =>
      have H := HA.out; clear HA; simp only [weirref04_Take.l0] at H; have HC6 := Aside0.mk H; clear H
      go_upto_region 5 with (fail)
      go_cut [29] (fun v29 wc => ∃ (kq : Nat) (x29_5 : Bool), v29 = .bool x29_5 ∧ Aside0 (weirref04_Take.j2 kq a0 a1 x7_2 x8_2 x29_5 = some (r1, r2, r3)) ∧ Aside0 (kq ≤ k2) ∧ Drawn0 w wc)
      case first =>
       have H := HC6.out; clear HC6
       by_cases c7 : (wrap64 (a1 + x8_2)) < (a0.size : Int)
       ·
        rw [if_pos c7] at H; have c7b0 : decide ((wrap64 (a1 + x8_2)) < (a0.size : Int)) = true := decide_eq_true c7; clear c7
        (first | rw [c7b0] | (simp only [i64_w, i32_w]; rw [c7b0]) | skip)
        have H' := Aside0.mk H; clear H; go_wp2; go_meet
        case rel => exact ⟨_, (decide (x8_2 < 10)), ff_, H', ⟨by have := HJ2.out; have := HK2.out; first | omega | exact Nat.le_refl _⟩, by repeat (first | exact Drawn0.refl _ | apply Drawn0.step)⟩
       ·
        rw [if_neg c7] at H; have c7b0 : decide ((wrap64 (a1 + x8_2)) < (a0.size : Int)) = false := decide_eq_false c7; clear c7
        (first | rw [c7b0] | (simp only [i64_w, i32_w]; rw [c7b0]) | skip)
        have H' := Aside0.mk H; clear H; go_wp2; go_meet
        case rel => exact ⟨_, (false), ff_, H', ⟨by have := HJ2.out; have := HK2.out; first | omega | exact Nat.le_refl _⟩, by repeat (first | exact Drawn0.refl _ | apply Drawn0.step)⟩
      case rest =>
       clear HC6; obtain ⟨kq, x29_5, rfl, HA, HJ5, ⟨mc5, rfl⟩⟩ := hcut
       cases kq with
       | zero => exact absurd HA.out (by simp [weirref04_Take.j2])
       | succ kj5 =>
        have H := HA.out; clear HA; simp only [weirref04_Take.j2] at H
        by_cases c8 : x29_5 = true
        ·
         subst c8; have H1 : (if 0 ≤ (wrap64 (a1 + x8_2)) then (if (wrap64 (a1 + x8_2)) < (a0.size : Int) then (if x8_2 = 9 then (weirref04_Take.j3 kj5 a0 a1 x7_2 x8_2 (bt a0 (wrap64 (a1 + x8_2))) (IntKind.u64.wrap (Int.tmod (bt a0 (wrap64 (a1 + x8_2))) 128)) (decide ((IntKind.u64.wrap (Int.tmod (bt a0 (wrap64 (a1 + x8_2))) 128)) > 1))) else (weirref04_Take.j3 kj5 a0 a1 x7_2 x8_2 (bt a0 (wrap64 (a1 + x8_2))) (IntKind.u64.wrap (Int.tmod (bt a0 (wrap64 (a1 + x8_2))) 128)) false)) else (none)) else (none)) = some (r1, r2, r3) := by rw [if_pos rfl] at H; exact H
         clear H; have H := H1; clear H1; obtain ⟨ji9, hji9⟩ : ∃ j_ : Int, (wrap64 (a1 + x8_2)) = j_ := ⟨_, rfl⟩; replace H : (if 0 ≤ (ji9) then (if (ji9) < (a0.size : Int) then (if x8_2 = 9 then (weirref04_Take.j3 kj5 a0 a1 x7_2 x8_2 (bt a0 (ji9)) (IntKind.u64.wrap (Int.tmod (bt a0 (ji9)) 128)) (decide ((IntKind.u64.wrap (Int.tmod (bt a0 (ji9)) 128)) > 1))) else (weirref04_Take.j3 kj5 a0 a1 x7_2 x8_2 (bt a0 (ji9)) (IntKind.u64.wrap (Int.tmod (bt a0 (ji9)) 128)) false)) else (none)) else (none)) = some (r1, r2, r3) := by first | (rw [hji9] at H; exact H) | (simp only [hji9] at H ⊢; exact H)
         have hji9w : (IntKind.i64.wrap (a1 + x8_2)) = ji9 := (i64_w _).trans hji9
         by_cases c10 : 0 ≤ (ji9)
         ·
          rw [if_pos c10] at H; have c10b0 : decide (0 ≤ (ji9)) = true := decide_eq_true c10; clear c10
          by_cases c11 : (ji9) < (a0.size : Int)
          ·
           rw [if_pos c11] at H; have c11b0 : decide ((ji9) < (a0.size : Int)) = true := decide_eq_true c11; clear c11; have HC13 := Aside0.mk H; clear H; have p12 : 0 ≤ ((ji9) : Int) := dt_; have q12 : (ji9) < (a0.size : Int) := dt_; have hx12 := bt_at a0 (ji9); replace p12 := eq_true p12; replace q12 := eq_true q12
           go_upto_region 9 with (fail)
           go_cut [45] (fun v45 wc => ∃ (kq : Nat) (x45_12 : Bool), v45 = .bool x45_12 ∧ Aside0 (weirref04_Take.j3 kq a0 a1 x7_2 x8_2 (bt a0 (ji9)) (IntKind.u64.wrap (Int.tmod (bt a0 (ji9)) 128)) x45_12 = some (r1, r2, r3)) ∧ Aside0 (kq ≤ kj5) ∧ Drawn0 w wc)
           case first =>
            have H := HC13.out; clear HC13
            by_cases c14 : x8_2 = 9
            ·
             rw [if_pos c14] at H; have c14b0 : (x8_2 == 9) = true := beq_iff_eq.mpr c14; have c14b1 : (x8_2 != 9) = false := bne_eq_false_iff_eq.mpr c14; clear c14
             (first | rw [c14b0] | (simp only [i64_w, i32_w]; rw [c14b0]) | skip)
             have H' := Aside0.mk H; clear H; go_wp2; go_meet
             case rel => exact ⟨_, (decide ((IntKind.u64.wrap (Int.tmod (bt a0 (ji9)) 128)) > 1)), (by first | rfl | (simp; done) | (simp only [← hji9] <;> (first | rfl | simp)) | (simp [*]; done)), H', ⟨by have := HJ2.out; have := HK2.out; have := HJ5.out; first | omega | exact Nat.le_refl _⟩, by repeat (first | exact Drawn0.refl _ | apply Drawn0.step)⟩
            ·
             rw [if_neg c14] at H; have c14b0 : (x8_2 == 9) = false := beq_eq_false_iff_ne.mpr c14; have c14b1 : (x8_2 != 9) = true := bne_iff_ne.mpr c14
             (first | rw [c14b0] | (simp only [i64_w, i32_w]; rw [c14b0]) | skip)
             have H' := Aside0.mk H; clear H; go_wp2; go_meet
             case rel => exact ⟨_, (false), ff_, H', ⟨by have := HJ2.out; have := HK2.out; have := HJ5.out; first | omega | exact Nat.le_refl _⟩, by repeat (first | exact Drawn0.refl _ | apply Drawn0.step)⟩
           case rest =>
            clear HC13; (try clear c8); (try clear c10b0); (try clear c11b0); (try clear p12); (try clear q12); (try clear hx12); obtain ⟨kq, x45_12, rfl, HA, HJ12, ⟨mc12, rfl⟩⟩ := hcut
            cases kq with
            | zero => exact absurd HA.out (by simp [weirref04_Take.j3])
            | succ kj12 =>
             have H := HA.out; clear HA; simp only [weirref04_Take.j3] at H
             by_cases c15 : x45_12 = true
             ·
              subst c15; have H1 : (some (0, 0, 40)) = some (r1, r2, r3) := by rw [if_pos rfl] at H; exact H
              clear H; have H := H1; clear H1; simp only [Option.some.injEq, Prod.mk.injEq] at H; obtain ⟨rfl, rfl, rfl⟩ := H; go_wp2
              go_ret3
              exact ⟨by first | rfl | (simp; done) | (simp only [← hji9] <;> (first | rfl | simp)) | (simp [*]; done), by repeat (first | exact Drawn0.refl _ | apply Drawn0.step)⟩
             ·
              replace c15 := Bool.eq_false_iff.mpr c15; subst c15; have H1 : (if 0 ≤ (wrap64 (7 * x8_2)) then (if (bt a0 (ji9)) ≥ 128 then (weirref04_Take.l0 kj12 a0 a1 (Go.bits .or .u64 x7_2 (shl .u64 (IntKind.u64.wrap (Int.tmod (bt a0 (ji9)) 128)) (wrap64 (7 * x8_2)))) (wrap64 (x8_2 + 1))) else (if (bt a0 (ji9)) = 0 then (weirref04_Take.j4 kj12 (Go.bits .or .u64 x7_2 (shl .u64 (IntKind.u64.wrap (Int.tmod (bt a0 (ji9)) 128)) (wrap64 (7 * x8_2)))) x8_2 (decide (x8_2 > 0))) else (weirref04_Take.j4 kj12 (Go.bits .or .u64 x7_2 (shl .u64 (IntKind.u64.wrap (Int.tmod (bt a0 (ji9)) 128)) (wrap64 (7 * x8_2)))) x8_2 false))) else (none)) = some (r1, r2, r3) := by rw [if_neg (show ¬ (false = true) by decide)] at H; exact H
              clear H; have H := H1; clear H1; obtain ⟨ji16, hji16⟩ : ∃ j_ : Int, (wrap64 (7 * x8_2)) = j_ := ⟨_, rfl⟩; replace H : (if 0 ≤ (ji16) then (if (bt a0 (ji9)) ≥ 128 then (weirref04_Take.l0 kj12 a0 a1 (Go.bits .or .u64 x7_2 (shl .u64 (IntKind.u64.wrap (Int.tmod (bt a0 (ji9)) 128)) (ji16))) (wrap64 (x8_2 + 1))) else (if (bt a0 (ji9)) = 0 then (weirref04_Take.j4 kj12 (Go.bits .or .u64 x7_2 (shl .u64 (IntKind.u64.wrap (Int.tmod (bt a0 (ji9)) 128)) (ji16))) x8_2 (decide (x8_2 > 0))) else (weirref04_Take.j4 kj12 (Go.bits .or .u64 x7_2 (shl .u64 (IntKind.u64.wrap (Int.tmod (bt a0 (ji9)) 128)) (ji16))) x8_2 false))) else (none)) = some (r1, r2, r3) := by first | (rw [hji16] at H; exact H) | (simp only [hji16] at H ⊢; exact H)
              have hji16w : (IntKind.i64.wrap (7 * x8_2)) = ji16 := (i64_w _).trans hji16
              by_cases c17 : 0 ≤ (ji16)
              ·
               rw [if_pos c17] at H; have c17b0 := eq_true c17; have c17b1 : decide (0 ≤ (ji16)) = true := decide_eq_true c17; clear c17; obtain ⟨ji18, hji18⟩ : ∃ j_ : Int, (shl .u64 (IntKind.u64.wrap (Int.tmod (bt a0 (ji9)) 128)) (ji16)) = j_ := ⟨_, rfl⟩; replace H : (if (bt a0 (ji9)) ≥ 128 then (weirref04_Take.l0 kj12 a0 a1 (Go.bits .or .u64 x7_2 (ji18)) (wrap64 (x8_2 + 1))) else (if (bt a0 (ji9)) = 0 then (weirref04_Take.j4 kj12 (Go.bits .or .u64 x7_2 (ji18)) x8_2 (decide (x8_2 > 0))) else (weirref04_Take.j4 kj12 (Go.bits .or .u64 x7_2 (ji18)) x8_2 false))) = some (r1, r2, r3) := by first | (rw [hji18] at H; exact H) | (simp only [hji18] at H ⊢; exact H)
               have hji18_ : (IntKind.u64.wrap ((IntKind.u64.wrap (Int.tmod (bt a0 (ji9)) 128)) * 2 ^ min (ji16).toNat 64)) = ji18 := hji18; have hji18z : (ji16) ≤ 64 → (IntKind.u64.wrap ((IntKind.u64.wrap (Int.tmod (bt a0 (ji9)) 128)) * 2 ^ (ji16).toNat)) = ji18 := shl_small hji18
               by_cases c19 : (bt a0 (ji9)) ≥ 128
               ·
                rw [if_pos c19] at H; have c19b0 : decide (128 ≤ (bt a0 (ji9))) = true := decide_eq_true c19; clear c19; have H' := Aside0.mk H; clear H; go_wp2
                go_roundg kj12
                case measure => have := HJ2.out; have := HK2.out; have := HJ5.out; have := HJ12.out; omega
                case rel => exact ⟨(Go.bits .or .u64 x7_2 (ji18)), (wrap64 (x8_2 + 1)), (by first | rfl | (simp; done) | (simp only [← hji18] <;> (first | rfl | simp)) | (simp [*]; done)), ff_, H', ⟨by have := HJ2.out; have := HK2.out; have := HJ5.out; have := HJ12.out; omega⟩, by repeat (first | exact Drawn0.refl _ | apply Drawn0.step)⟩
               ·
                rw [if_neg c19] at H; have c19b0 : decide (128 ≤ (bt a0 (ji9))) = false := decide_eq_false c19; clear c19; have HC20 := Aside0.mk H; clear H
                go_upto_region 13 with (fail)
                go_cut [59] (fun v59 wc => ∃ (kq : Nat) (x59_19 : Bool), v59 = .bool x59_19 ∧ Aside0 (weirref04_Take.j4 kq (Go.bits .or .u64 x7_2 (ji18)) x8_2 x59_19 = some (r1, r2, r3)) ∧ Aside0 (kq ≤ kj12) ∧ Drawn0 w wc)
                case first =>
                 have H := HC20.out; clear HC20
                 by_cases c21 : (bt a0 (ji9)) = 0
                 ·
                  rw [if_pos c21] at H; have c21b0 : ((bt a0 (ji9)) == 0) = true := beq_iff_eq.mpr c21; have c21b1 : ((bt a0 (ji9)) != 0) = false := bne_eq_false_iff_eq.mpr c21; clear c21
                  (first | rw [c21b0] | (simp only [i64_w, i32_w]; rw [c21b0]) | skip)
                  have H' := Aside0.mk H; clear H; go_wp2; go_meet
                  case rel => exact ⟨_, (decide (x8_2 > 0)), ff_, H', ⟨by have := HJ2.out; have := HK2.out; have := HJ5.out; have := HJ12.out; first | omega | exact Nat.le_refl _⟩, by repeat (first | exact Drawn0.refl _ | apply Drawn0.step)⟩
                 ·
                  rw [if_neg c21] at H; have c21b0 : ((bt a0 (ji9)) == 0) = false := beq_eq_false_iff_ne.mpr c21; have c21b1 : ((bt a0 (ji9)) != 0) = true := bne_iff_ne.mpr c21
                  (first | rw [c21b0] | (simp only [i64_w, i32_w]; rw [c21b0]) | skip)
                  have H' := Aside0.mk H; clear H; go_wp2; go_meet
                  case rel => exact ⟨_, (false), ff_, H', ⟨by have := HJ2.out; have := HK2.out; have := HJ5.out; have := HJ12.out; first | omega | exact Nat.le_refl _⟩, by repeat (first | exact Drawn0.refl _ | apply Drawn0.step)⟩
                case rest =>
                 clear HC20; (try clear c15); (try clear c17b0); (try clear c17b1); (try clear c19b0); obtain ⟨kq, x59_19, rfl, HA, HJ19, ⟨mc19, rfl⟩⟩ := hcut
                 cases kq with
                 | zero => exact absurd HA.out (by simp [weirref04_Take.j4])
                 | succ kj19 =>
                  have H := HA.out; clear HA; simp only [weirref04_Take.j4] at H
                  by_cases c22 : x59_19 = true
                  ·
                   subst c22; have H1 : (some (0, 0, 40)) = some (r1, r2, r3) := by rw [if_pos rfl] at H; exact H
                   clear H; have H := H1; clear H1; simp only [Option.some.injEq, Prod.mk.injEq] at H; obtain ⟨rfl, rfl, rfl⟩ := H; go_wp2
                   go_ret3
                   exact ⟨by first | rfl | (simp; done) | (simp only [← hji9, ← hji16, ← hji18] <;> (first | rfl | simp)) | (simp [*]; done), by repeat (first | exact Drawn0.refl _ | apply Drawn0.step)⟩
                  ·
                   replace c22 := Bool.eq_false_iff.mpr c22; subst c22; have H1 : (if (Int.tmod (Go.bits .or .u64 x7_2 (ji18)) 2) = 1 then (some (wrap64 ((wrap64 (-(wrap64 ((Go.bits .or .u64 x7_2 (ji18)) / 2)))) - 1), wrap64 (x8_2 + 1), 0)) else (some (wrap64 ((Go.bits .or .u64 x7_2 (ji18)) / 2), wrap64 (x8_2 + 1), 0))) = some (r1, r2, r3) := by rw [if_neg (show ¬ (false = true) by decide)] at H; exact H
                   clear H; have H := H1; clear H1
                   by_cases c23 : (Int.tmod (Go.bits .or .u64 x7_2 (ji18)) 2) = 1
                   ·
                    rw [if_pos c23] at H; have c23b0 : ((Int.tmod (Go.bits .or .u64 x7_2 (ji18)) 2) == 1) = true := beq_iff_eq.mpr c23; have c23b1 : ((Int.tmod (Go.bits .or .u64 x7_2 (ji18)) 2) != 1) = false := bne_eq_false_iff_eq.mpr c23; clear c23; simp only [Option.some.injEq, Prod.mk.injEq] at H; obtain ⟨rfl, rfl, rfl⟩ := H; go_wp2
                    go_ret3
                    exact ⟨by first | rfl | (simp; done) | (simp only [← hji9, ← hji16, ← hji18] <;> (first | rfl | simp)) | (simp [*]; done), by repeat (first | exact Drawn0.refl _ | apply Drawn0.step)⟩
                   ·
                    rw [if_neg c23] at H; have c23b0 : ((Int.tmod (Go.bits .or .u64 x7_2 (ji18)) 2) == 1) = false := beq_eq_false_iff_ne.mpr c23; have c23b1 : ((Int.tmod (Go.bits .or .u64 x7_2 (ji18)) 2) != 1) = true := bne_iff_ne.mpr c23; simp only [Option.some.injEq, Prod.mk.injEq] at H; obtain ⟨rfl, rfl, rfl⟩ := H; go_wp2
                    go_ret3
                    exact ⟨by first | rfl | (simp; done) | (simp only [← hji9, ← hji16, ← hji18] <;> (first | rfl | simp)) | (simp [*]; done), by repeat (first | exact Drawn0.refl _ | apply Drawn0.step)⟩
              ·
               rw [if_neg c17] at H; exact absurd H (by simp)
          ·
           rw [if_neg c11] at H; exact absurd H (by simp)
         ·
          rw [if_neg c10] at H; exact absurd H (by simp)
        ·
         replace c8 := Bool.eq_false_iff.mpr c8; subst c8; have H1 : (some (0, 0, 40)) = some (r1, r2, r3) := by rw [if_neg (show ¬ (false = true) by decide)] at H; exact H
         clear H; have H := H1; clear H1; simp only [Option.some.injEq, Prod.mk.injEq] at H; obtain ⟨rfl, rfl, rfl⟩ := H; go_wp2
         go_ret3
         exact ⟨ff_, by repeat (first | exact Drawn0.refl _ | apply Drawn0.step)⟩

/-- A state of type 111 at block g of W; what its slices lead to came in by w0. -/
def IsS111 (w0 W : World) (g : Nat) (f0 : ByteArray) (f1 : Int) (f2 : Bool) : Prop := W.heap[g]? = some (.cells #[.string f0, .int .i64 f1, .bool f2] 111 (0, 0)) ∧ w0.heap.size ≤ g
theorem IsS111.grown {w0 W : World} {g : Nat} {f0 : ByteArray} {f1 : Int} {f2 : Bool} {W1 : World} {row : Option Nat} (h : IsS111 w0 W g f0 f1 f2) (hw : W.grownBy W1 row) (hne : some g ≠ row) : IsS111 w0 W1 g f0 f1 f2 := by
 obtain ⟨hb, hg⟩ := h; exact ⟨blk_grown hb hw hne, hg⟩
theorem IsS111.fresh {w0 W : World} {g : Nat} {f0 : ByteArray} {f1 : Int} {f2 : Bool} (h : IsS111 w0 W g f0 f1 f2) : ∀ k, W.heap.size ≤ k → k ≠ g := by
 obtain ⟨hb, hg⟩ := h; exact Kd.freshB hb
theorem IsS111.kept {w0 W : World} {g : Nat} {f0 : ByteArray} {f1 : Int} {f2 : Bool} {W1 : World} {S : Nat → Prop} (h : IsS111 w0 W g f0 f1 f2) (hk : Kept W W1 S) (hne : ¬ S g) : IsS111 w0 W1 g f0 f1 f2 := by
 obtain ⟨hb, hg⟩ := h; exact ⟨blk_kept hb hk hne, hg⟩
theorem IsS111.below {w0 W : World} {g : Nat} {f0 : ByteArray} {f1 : Int} {f2 : Bool} {W1 : World} (h : IsS111 w0 W g f0 f1 f2) (hw : Below W.heap.size W W1) : IsS111 w0 W1 g f0 f1 f2 := h.grown (grown_of_below hw none) (by simp)
theorem IsS111.alloc {w0 W : World} {g : Nat} {f0 : ByteArray} {f1 : Int} {f2 : Bool} (h : IsS111 w0 W g f0 f1 f2) (o : Obj) : IsS111 w0 (W.alloc o) g f0 f1 f2 := h.below (below_alloc (Below.refl _ _) o)
theorem IsS111.drewN {w0 W : World} {g : Nat} {f0 : ByteArray} {f1 : Int} {f2 : Bool} (h : IsS111 w0 W g f0 f1 f2) (m : Nat) : IsS111 w0 (W.drewN m) g f0 f1 f2 := h
theorem IsS111.drew {w0 W : World} {g : Nat} {f0 : ByteArray} {f1 : Int} {f2 : Bool} (h : IsS111 w0 W g f0 f1 f2) : IsS111 w0 W.drew g f0 f1 f2 := h
theorem IsS111.at_ {w0 W : World} {g : Nat} {f0 : ByteArray} {f1 : Int} {f2 : Bool} {w' : World} {m : Nat} (hq : W.drewN m = w') (h : IsS111 w0 W g f0 f1 f2) : IsS111 w0 w' g f0 f1 f2 := by subst hq; exact IsS111.drewN h m
theorem IsS111.lt {w0 W : World} {g : Nat} {f0 : ByteArray} {f1 : Int} {f2 : Bool} (h : IsS111 w0 W g f0 f1 f2) : g < W.heap.size := by
 obtain ⟨hb, hg⟩ := h; exact blk_lt hb
theorem IsS111.ge {w0 W : World} {g : Nat} {f0 : ByteArray} {f1 : Int} {f2 : Bool} (h : IsS111 w0 W g f0 f1 f2) : w0.heap.size ≤ g := by
 obtain ⟨hb, hg⟩ := h; exact hg
theorem IsS111.far {w0 W : World} {g : Nat} {f0 : ByteArray} {f1 : Int} {f2 : Bool} {p : Addr} (h : IsS111 w0 W g f0 f1 f2) (hne : g ≠ p.block) (u : Value) : IsS111 w0 (W.setCell p u) g f0 f1 f2 := by
 obtain ⟨hb, hg⟩ := h; exact ⟨blk_far hb hne u, hg⟩
theorem cellS111_0 {W : World} {g : Nat} {f0 : ByteArray} {f1 : Int} {f2 : Bool} (h : W.heap[g]? = some (.cells #[.string f0, .int .i64 f1, .bool f2] 111 (0, 0))) : W.cell? ⟨g, 0, none⟩ = some (.string f0) := (blk_cell h 0).trans rfl
theorem IsS111.set_0 {w0 W : World} {g : Nat} {f0 : ByteArray} {f1 : Int} {f2 : Bool} (h : IsS111 w0 W g f0 f1 f2) (x : ByteArray) : IsS111 w0 (W.setCell ⟨g, 0, none⟩ (.string x)) g x f1 f2 := by
 obtain ⟨hb, hg⟩ := h; exact ⟨by simpa using blk_set hb 0 (.string x), hg⟩
theorem cellS111_1 {W : World} {g : Nat} {f0 : ByteArray} {f1 : Int} {f2 : Bool} (h : W.heap[g]? = some (.cells #[.string f0, .int .i64 f1, .bool f2] 111 (0, 0))) : W.cell? ⟨g, 1, none⟩ = some (.int .i64 f1) := (blk_cell h 1).trans rfl
theorem IsS111.set_1 {w0 W : World} {g : Nat} {f0 : ByteArray} {f1 : Int} {f2 : Bool} (h : IsS111 w0 W g f0 f1 f2) (x : Int) : IsS111 w0 (W.setCell ⟨g, 1, none⟩ (.int .i64 x)) g f0 x f2 := by
 obtain ⟨hb, hg⟩ := h; exact ⟨by simpa using blk_set hb 1 (.int .i64 x), hg⟩
theorem cellS111_2 {W : World} {g : Nat} {f0 : ByteArray} {f1 : Int} {f2 : Bool} (h : W.heap[g]? = some (.cells #[.string f0, .int .i64 f1, .bool f2] 111 (0, 0))) : W.cell? ⟨g, 2, none⟩ = some (.bool f2) := (blk_cell h 2).trans rfl
theorem IsS111.set_2 {w0 W : World} {g : Nat} {f0 : ByteArray} {f1 : Int} {f2 : Bool} (h : IsS111 w0 W g f0 f1 f2) (x : Bool) : IsS111 w0 (W.setCell ⟨g, 2, none⟩ (.bool x)) g f0 f1 x := by
 obtain ⟨hb, hg⟩ := h; exact ⟨by simpa using blk_set hb 2 (.bool x), hg⟩
theorem IsS111.new (w0 W : World) (f0 : ByteArray) (f1 : Int) (f2 : Bool) (hB : Below w0.heap.size w0 W) : IsS111 w0 (W.alloc (.cells #[.string f0, .int .i64 f1, .bool f2] 111)) W.heap.size f0 f1 f2 := ⟨by simpa using heap_alloc_new W _, hB.size⟩

/-- Steps of a state of type 111, and of what lies below beside it (automatic parameters). -/
theorem is111_ {p q : Prop} (h : Aside0 q) (t : q → p := by intro h_; repeat (first | (with_reducible first | exact h_ | apply IsS111.alloc | apply IsS111.drewN | apply IsS111.drew | apply IsS111.set_0 | apply IsS111.set_1 | apply IsS111.set_2) | (refine IsS111.far ?_ (Aside0.out (by assumption)) _) | exact h_)) : p := t h.out
theorem bel111_ {p : Prop} (h : p := by repeat (first | (with_reducible first | exact HB.out | apply below_alloc | apply pw_below_drewN | apply below_drew1 | refine below_set ?_ (Aside0.out (by assumption)) | refine below_set ?_ (IsS111.ge (Aside0.out (by assumption)))) | exact HB.out)) : p := h
/-! ### weirref11_reader_take: function 49 -/
def weirref11_reader_take.f (k : Nat) (s0_0 : ByteArray) (s0_1 : Int) (s0_2 : Bool) : Option (Int × ByteArray × Int × Bool) := (weirref04_Take.f k s0_0 s0_1).bind fun bt667 => (if bt667.2.2 = 0 then (some (bt667.1, s0_0, wrap64 (s0_1 + bt667.2.1), s0_2)) else (some (0, s0_0, s0_1, true)))
theorem weirref11_reader_take.mono : ∀ a0 a1 a2 k, LeO (weirref11_reader_take.f k a0 a1 a2) (weirref11_reader_take.f (k + 1) a0 a1 a2) := by
 intro a0 a1 a2 k; unfold weirref11_reader_take.f
 repeat' first
   | (with_reducible exact weirref04_Take.mono _ _ _)
   | (with_reducible exact LeO.refl _)
   | (with_reducible exact LeO.none _)
   | (with_reducible refine LeO.ite ?_ ?_)
   | (with_reducible refine LeO.bind ?_ (fun _ => ?_))
   | exact weirref04_Take.mono _ _ _
   | exact LeO.none _
   | refine LeO.ite ?_ ?_
   | refine LeO.bind ?_ (fun _ => ?_)
set_option maxHeartbeats 8000000 in
set_option maxRecDepth 100000 in
theorem weirref11_reader_take.calls (k : Nat) (g : Nat) (s0_0 : ByteArray) (s0_1 : Int) (s0_2 : Bool) (r1 : Int) (r2 : ByteArray) (r3 : Int) (r4 : Bool) (w0 w : World) (hI : IsS111 w0 w g s0_0 s0_1 s0_2) (hB : Below w0.heap.size w0 w) (h : weirref11_reader_take.f k s0_0 s0_1 s0_2 = some (r1, r2, r3, r4)) :
  Calls Try.prog 49 #[.pointer (some ⟨g, 0, none⟩)] w fun e w' => e = .returned (.int .i64 r1) ∧ IsS111 w0 w' g r2 r3 r4 ∧ Below w0.heap.size w0 w' ∧ KeepBut w w' g none := by
 have HI0 := Aside0.mk hI; have HK := Aside0.mk (KeepBut.refl w g none); have HL := Aside0.mk hB.size; clear hI; have HW0 := Aside0.mk hB.size; have HB := Aside0.mk hB; clear hB; have H : ((weirref04_Take.f k s0_0 s0_1).bind fun bt667 => (if bt667.2.2 = 0 then (some (bt667.1, s0_0, wrap64 (s0_1 + bt667.2.1), s0_2)) else (some (0, s0_0, s0_1, true)))) = some (r1, r2, r3, r4) := h; clear h; replace H := Option.bind_eq_some_iff.mp H; obtain ⟨⟨t667, t668, t669⟩, A20, H⟩ := H; replace H : (if t669 = 0 then (some (t667, s0_0, wrap64 (s0_1 + t668), s0_2)) else (some (0, s0_0, s0_1, true))) = some (r1, r2, r3, r4) := H; have A2 := Aside0.mk A20; clear A20
 by_cases c3 : t669 = 0
 ·
  rw [if_pos c3] at H; have c3b0 : (t669 == 0) = true := beq_iff_eq.mpr c3; have c3b1 : (t669 != 0) = false := bne_eq_false_iff_eq.mpr c3; clear c3; simp only [Option.some.injEq, Prod.mk.injEq] at H; obtain ⟨rfl, rfl, rfl, rfl⟩ := H; obtain ⟨HGz4, hgz4⟩ := HI0.out; have z4_0 := cellS111_0 HGz4; have z4_1 := cellS111_1 HGz4; have z4_2 := cellS111_2 HGz4; have y4_0 := blk_frozen HGz4 0; have y4_1 := blk_frozen HGz4 1; have y4_2 := blk_frozen HGz4 2; clear HGz4 hgz4; go_enter Try.func49, Try.ntmps49
  go_wp2_with (first | (go_at_call 93; (with_reducible refine (weirref04_Take.calls k s0_0 s0_1 t667 t668 t669 _ A2.out).mono ?_); rintro e w' ⟨rfl, ⟨nd, rfl⟩⟩; (try first | exact ⟨rfl, _, World.drewN_drewN _ _ _⟩ | exact ⟨rfl, _, Eq.trans (World.drewN_drewN _ _ _) (congrArg (World.drewN _) (Nat.add_assoc _ _ _))⟩)))
  repeat (go_quiet (first | (go_at_call 93; (with_reducible refine (weirref04_Take.calls k s0_0 s0_1 t667 t668 t669 _ A2.out).mono ?_); rintro e w' ⟨rfl, ⟨nd, rfl⟩⟩; (try first | exact ⟨rfl, _, World.drewN_drewN _ _ _⟩ | exact ⟨rfl, _, Eq.trans (World.drewN_drewN _ _ _) (congrArg (World.drewN _) (Nat.add_assoc _ _ _))⟩))); try go_wp2_with (first | (go_at_call 93; (with_reducible refine (weirref04_Take.calls k s0_0 s0_1 t667 t668 t669 _ A2.out).mono ?_); rintro e w' ⟨rfl, ⟨nd, rfl⟩⟩; (try first | exact ⟨rfl, _, World.drewN_drewN _ _ _⟩ | exact ⟨rfl, _, Eq.trans (World.drewN_drewN _ _ _) (congrArg (World.drewN _) (Nat.add_assoc _ _ _))⟩))))
  go_ret
  exact ⟨ee_, is111_ HI0, bel111_, by repeat (first | (with_reducible first | exact HK.out | apply KeepBut.set_ | apply keep_drewN | apply keep_drew | apply keep_alloc) | exact HK.out)⟩
 ·
  rw [if_neg c3] at H; have c3b0 : (t669 == 0) = false := beq_eq_false_iff_ne.mpr c3; have c3b1 : (t669 != 0) = true := bne_iff_ne.mpr c3; simp only [Option.some.injEq, Prod.mk.injEq] at H; obtain ⟨rfl, rfl, rfl, rfl⟩ := H; obtain ⟨HGz5, hgz5⟩ := HI0.out; have z5_0 := cellS111_0 HGz5; have z5_1 := cellS111_1 HGz5; have z5_2 := cellS111_2 HGz5; have y5_0 := blk_frozen HGz5 0; have y5_1 := blk_frozen HGz5 1; have y5_2 := blk_frozen HGz5 2; clear HGz5 hgz5; go_enter Try.func49, Try.ntmps49
  go_wp2_with (first | (go_at_call 93; (with_reducible refine (weirref04_Take.calls k s0_0 s0_1 t667 t668 t669 _ A2.out).mono ?_); rintro e w' ⟨rfl, ⟨nd, rfl⟩⟩; (try first | exact ⟨rfl, _, World.drewN_drewN _ _ _⟩ | exact ⟨rfl, _, Eq.trans (World.drewN_drewN _ _ _) (congrArg (World.drewN _) (Nat.add_assoc _ _ _))⟩)))
  repeat (go_quiet (first | (go_at_call 93; (with_reducible refine (weirref04_Take.calls k s0_0 s0_1 t667 t668 t669 _ A2.out).mono ?_); rintro e w' ⟨rfl, ⟨nd, rfl⟩⟩; (try first | exact ⟨rfl, _, World.drewN_drewN _ _ _⟩ | exact ⟨rfl, _, Eq.trans (World.drewN_drewN _ _ _) (congrArg (World.drewN _) (Nat.add_assoc _ _ _))⟩))); try go_wp2_with (first | (go_at_call 93; (with_reducible refine (weirref04_Take.calls k s0_0 s0_1 t667 t668 t669 _ A2.out).mono ?_); rintro e w' ⟨rfl, ⟨nd, rfl⟩⟩; (try first | exact ⟨rfl, _, World.drewN_drewN _ _ _⟩ | exact ⟨rfl, _, Eq.trans (World.drewN_drewN _ _ _) (congrArg (World.drewN _) (Nat.add_assoc _ _ _))⟩))))
  go_ret
  exact ⟨ee_, is111_ HI0, bel111_, by repeat (first | (with_reducible first | exact HK.out | apply KeepBut.set_ | apply keep_drewN | apply keep_drew | apply keep_alloc) | exact HK.out)⟩

/-! ### weirref11_reader_small: function 48 -/
def weirref11_reader_small.f (k : Nat) (s0_0 : ByteArray) (s0_1 : Int) (s0_2 : Bool) (a1 : Int) : Option (Int × ByteArray × Int × Bool) := (weirref11_reader_take.f k s0_0 s0_1 s0_2).bind fun bt670 => (if bt670.1 < 0 then (some (0, bt670.2.1, bt670.2.2.1, true)) else (if bt670.1 > a1 then (some (0, bt670.2.1, bt670.2.2.1, true)) else (some (bt670.1, bt670.2.1, bt670.2.2.1, bt670.2.2.2))))
theorem weirref11_reader_small.mono : ∀ a0 a1 a2 a3 k, LeO (weirref11_reader_small.f k a0 a1 a2 a3) (weirref11_reader_small.f (k + 1) a0 a1 a2 a3) := by
 intro a0 a1 a2 a3 k; unfold weirref11_reader_small.f
 repeat' first
   | (with_reducible exact weirref11_reader_take.mono _ _ _ _)
   | (with_reducible exact LeO.refl _)
   | (with_reducible exact LeO.none _)
   | (with_reducible refine LeO.ite ?_ ?_)
   | (with_reducible refine LeO.bind ?_ (fun _ => ?_))
   | exact weirref11_reader_take.mono _ _ _ _
   | exact LeO.none _
   | refine LeO.ite ?_ ?_
   | refine LeO.bind ?_ (fun _ => ?_)
set_option maxHeartbeats 8000000 in
set_option maxRecDepth 100000 in
theorem weirref11_reader_small.calls (k : Nat) (g : Nat) (s0_0 : ByteArray) (s0_1 : Int) (s0_2 : Bool) (a1 : Int) (r1 : Int) (r2 : ByteArray) (r3 : Int) (r4 : Bool) (w0 w : World) (hI : IsS111 w0 w g s0_0 s0_1 s0_2) (hB : Below w0.heap.size w0 w) (h : weirref11_reader_small.f k s0_0 s0_1 s0_2 a1 = some (r1, r2, r3, r4)) :
  Calls Try.prog 48 #[.pointer (some ⟨g, 0, none⟩), .int .i64 a1] w fun e w' => e = .returned (.int .i64 r1) ∧ IsS111 w0 w' g r2 r3 r4 ∧ Below w0.heap.size w0 w' ∧ KeepBut w w' g none := by
 have HI0 := Aside0.mk hI; have HK := Aside0.mk (KeepBut.refl w g none); have HL := Aside0.mk hB.size; clear hI; have HW0 := Aside0.mk hB.size; have HB := Aside0.mk hB; clear hB; have H : ((weirref11_reader_take.f k s0_0 s0_1 s0_2).bind fun bt670 => (if bt670.1 < 0 then (some (0, bt670.2.1, bt670.2.2.1, true)) else (if bt670.1 > a1 then (some (0, bt670.2.1, bt670.2.2.1, true)) else (some (bt670.1, bt670.2.1, bt670.2.2.1, bt670.2.2.2))))) = some (r1, r2, r3, r4) := h; clear h; replace H := Option.bind_eq_some_iff.mp H; obtain ⟨⟨t670, t671, t672, t673⟩, A30, H⟩ := H; replace H : (if t670 < 0 then (some (0, t671, t672, true)) else (if t670 > a1 then (some (0, t671, t672, true)) else (some (t670, t671, t672, t673)))) = some (r1, r2, r3, r4) := H; have A3 := Aside0.mk A30; clear A30
 by_cases c4 : t670 < 0
 ·
  rw [if_pos c4] at H; have c4b0 : decide (t670 < 0) = true := decide_eq_true c4; clear c4; simp only [Option.some.injEq, Prod.mk.injEq] at H; obtain ⟨rfl, rfl, rfl, rfl⟩ := H; go_enter Try.func48, Try.ntmps48
  go_wp2_with (first | ((with_reducible refine gate_callee (f := 49) rfl ?_); refine goesL_ (some 7) rfl rfl Try.func49 (by kernel_rfl) rfl #[.pointer (some ⟨g, 0, none⟩)] rfl ag_ ?_; (with_reducible refine (weirref11_reader_take.calls k g s0_0 s0_1 s0_2 t670 t671 t672 t673 w0 _ ?side1 ?side2 A3.out).mono ?_); (case side1 => exact is111_ HI0); (case side2 => exact bel111_); rintro e w5 ⟨rfl, hi, hb, hk⟩; refine ⟨_, rfl, ?_⟩; replace HK := Aside0.mk (KeepBut.trans (by repeat (first | (with_reducible first | exact HK.out | apply KeepBut.set_ | apply keep_drewN | apply keep_drew | apply keep_alloc) | exact HK.out)) hk (.inl rfl)); replace HB := Aside0.mk (hb); replace HI0 := Aside0.mk (hi); (try clear hb); (try clear hb2); (try clear hk); (try clear hi); obtain ⟨HGz6, hgz6⟩ := HI0.out; have z6_0 := cellS111_0 HGz6; have z6_1 := cellS111_1 HGz6; have z6_2 := cellS111_2 HGz6; have y6_0 := blk_frozen HGz6 0; have y6_1 := blk_frozen HGz6 1; have y6_2 := blk_frozen HGz6 2; clear HGz6 hgz6))
  go_ret
  exact ⟨ee_, is111_ HI0, bel111_, by repeat (first | (with_reducible first | exact HK.out | apply KeepBut.set_ | apply keep_drewN | apply keep_drew | apply keep_alloc) | exact HK.out)⟩
 ·
  rw [if_neg c4] at H; have c4b0 : decide (t670 < 0) = false := decide_eq_false c4; clear c4
  by_cases c7 : t670 > a1
  ·
   rw [if_pos c7] at H; have c7b0 : decide (a1 < t670) = true := decide_eq_true c7; clear c7; simp only [Option.some.injEq, Prod.mk.injEq] at H; obtain ⟨rfl, rfl, rfl, rfl⟩ := H; go_enter Try.func48, Try.ntmps48
   go_wp2_with (first | ((with_reducible refine gate_callee (f := 49) rfl ?_); refine goesL_ (some 7) rfl rfl Try.func49 (by kernel_rfl) rfl #[.pointer (some ⟨g, 0, none⟩)] rfl ag_ ?_; (with_reducible refine (weirref11_reader_take.calls k g s0_0 s0_1 s0_2 t670 t671 t672 t673 w0 _ ?side1 ?side2 A3.out).mono ?_); (case side1 => exact is111_ HI0); (case side2 => exact bel111_); rintro e w8 ⟨rfl, hi, hb, hk⟩; refine ⟨_, rfl, ?_⟩; replace HK := Aside0.mk (KeepBut.trans (by repeat (first | (with_reducible first | exact HK.out | apply KeepBut.set_ | apply keep_drewN | apply keep_drew | apply keep_alloc) | exact HK.out)) hk (.inl rfl)); replace HB := Aside0.mk (hb); replace HI0 := Aside0.mk (hi); (try clear hb); (try clear hb2); (try clear hk); (try clear hi); obtain ⟨HGz9, hgz9⟩ := HI0.out; have z9_0 := cellS111_0 HGz9; have z9_1 := cellS111_1 HGz9; have z9_2 := cellS111_2 HGz9; have y9_0 := blk_frozen HGz9 0; have y9_1 := blk_frozen HGz9 1; have y9_2 := blk_frozen HGz9 2; clear HGz9 hgz9))
   go_ret
   exact ⟨ee_, is111_ HI0, bel111_, by repeat (first | (with_reducible first | exact HK.out | apply KeepBut.set_ | apply keep_drewN | apply keep_drew | apply keep_alloc) | exact HK.out)⟩
  ·
   rw [if_neg c7] at H; have c7b0 : decide (a1 < t670) = false := decide_eq_false c7; clear c7; simp only [Option.some.injEq, Prod.mk.injEq] at H; obtain ⟨rfl, rfl, rfl, rfl⟩ := H; go_enter Try.func48, Try.ntmps48
   go_wp2_with (first | ((with_reducible refine gate_callee (f := 49) rfl ?_); refine goesL_ (some 7) rfl rfl Try.func49 (by kernel_rfl) rfl #[.pointer (some ⟨g, 0, none⟩)] rfl ag_ ?_; (with_reducible refine (weirref11_reader_take.calls k g s0_0 s0_1 s0_2 t670 t671 t672 t673 w0 _ ?side1 ?side2 A3.out).mono ?_); (case side1 => exact is111_ HI0); (case side2 => exact bel111_); rintro e w10 ⟨rfl, hi, hb, hk⟩; refine ⟨_, rfl, ?_⟩; replace HK := Aside0.mk (KeepBut.trans (by repeat (first | (with_reducible first | exact HK.out | apply KeepBut.set_ | apply keep_drewN | apply keep_drew | apply keep_alloc) | exact HK.out)) hk (.inl rfl)); replace HB := Aside0.mk (hb); replace HI0 := Aside0.mk (hi); (try clear hb); (try clear hb2); (try clear hk); (try clear hi)))
   go_ret
   exact ⟨ee_, is111_ HI0, bel111_, by repeat (first | (with_reducible first | exact HK.out | apply KeepBut.set_ | apply keep_drewN | apply keep_drew | apply keep_alloc) | exact HK.out)⟩

end Go.Proofs.Ytemhpbdlonfikaa.P
