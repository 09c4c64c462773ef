/- The contract of the document's Register, whose table is an array of sixteen texts in memory, in the printer's form. -/
import Derived.Test.YtemhpbdlonfikaaP0
import Derived.Outline
import Derived.Test.YtemhpbdlonfikaaP7
import Derived.Test.YtemhpbdlonfikaaP1
import Derived.Test.YtemhpbdlonfikaaP2
import Derived.Test.YtemhpbdlonfikaaP3
import Derived.Test.YtemhpbdlonfikaaP4
import Derived.Test.YtemhpbdlonfikaaP5
import Derived.Test.YtemhpbdlonfikaaP6
import Derived.Test.YtemhpbdlonfikaaP18
namespace Go.Proofs.Ytemhpbdlonfikaa.P
open Go.RowKit Go.Proofs.YtemhpbdlonfikaaW.PrintWords

def regNames : List ByteArray := [⟨#[69, 65, 88]⟩, ⟨#[69, 66, 88]⟩, ⟨#[69, 67, 88]⟩, ⟨#[69, 68, 88]⟩, ⟨#[69, 83, 73]⟩, ⟨#[69, 68, 73]⟩, ⟨#[69, 66, 80]⟩, ⟨#[69, 83, 80]⟩, ⟨#[82, 56]⟩, ⟨#[82, 57]⟩, ⟨#[82, 49, 48]⟩, ⟨#[82, 49, 49]⟩, ⟨#[82, 49, 50]⟩, ⟨#[82, 49, 51]⟩, ⟨#[82, 49, 52]⟩, ⟨#[82, 49, 53]⟩]
theorem regNames_length : regNames.length = 16 := rfl
/-- The name with a number. -/
def nth (k : Nat) : ByteArray := regNames.getD k ⟨#[]⟩
/-- Stands a text among the first k names? -/
def among (s : ByteArray) (k : Nat) : Bool := (regNames.take k).any fun x => x.toList == s.toList
theorem among_step (s : ByteArray) (k : Nat) (hk : k < 16) : among s (k + 1) = (among s k || (nth k).toList == s.toList) := by
  unfold among nth
  rw [List.take_succ_eq_append_getElem (by rw [regNames_length]; exact hk), List.any_append]
  simp [List.getD_eq_getElem?_getD, List.getElem?_eq_getElem (show k < regNames.length by rw [regNames_length]; exact hk)]

theorem among_all {s : ByteArray} {k : Nat} (h : among s k = true) : among s 16 = true := by
  have e : among s 16 = regNames.any fun x => x.toList == s.toList := by unfold among; rw [List.take_of_length_le (by rw [regNames_length]; omega)]
  rw [e]
  unfold among at h
  obtain ⟨x, hx, hq⟩ := List.any_eq_true.1 h
  exact List.any_eq_true.2 ⟨x, List.mem_of_mem_take hx, hq⟩
/-- Is a text one of the sixteen names? -/
def weirref09_Register.f (a0 : ByteArray) : Option Bool := some (among a0 16)

set_option maxHeartbeats 4000000 in
set_option maxRecDepth 100000 in
theorem weirref09_Register.calls (a0 : ByteArray) (r : Bool) (w : World) (h : weirref09_Register.f a0 = some r) :
    Calls Try.prog 97 #[.string a0] w fun e w' => e = .returned (.bool r) ∧ Below w.heap.size w w' := by
  obtain rfl := Option.some.inj h
  clear h
  have hua := Try.underlying177
  have hus := Try.underlying9
  go_enter Try.func97, Try.ntmps97
  go_wp2
  obtain ⟨W, hW⟩ : ∃ W, w.alloc (Obj.cells (regNames.map Value.string).toArray 177) = W := ⟨_, rfl⟩
  have hc : Aside0 (∀ k : Nat, k < 16 → W.cell? ⟨w.heap.size, k, none⟩ = some (.string (nth k))) := by
    refine ⟨fun k hk => ?_⟩
    rw [← hW, World.cell?_alloc_new]
    unfold nth
    simp [List.getD_eq_getElem?_getD, List.getElem?_eq_getElem (show k < regNames.length by rw [regNames_length]; exact hk)]
  have hB : Aside0 (Below w.heap.size w W) := ⟨by rw [← hW]; exact (Below.refl _ _).alloc (Nat.le_refl _) _⟩
  simp only [regNames, List.map_cons, List.map_nil] at hW
  rw [hW]
  clear hW
  go_loop [4] (fun i => ∃ k : Nat, k ≤ 16 ∧ i = .int .i64 k ∧ Aside0 (among a0 k = false)) (fun i => 16 - (intOf i).toNat)
  case atStart => exact ⟨0, by omega, rfl, ⟨rfl⟩⟩
  case round =>
    obtain ⟨k, hk, rfl, ha⟩ := hrel
    by_cases hlt : k < 16
    · have hck := hc.out k hlt
      have hs := among_step a0 k hlt
      rw [ha.out, Bool.false_or] at hs
      by_cases he : ((nth k).toList == a0.toList) = true
      · have hfin : Aside0 (among a0 16 = true) := ⟨among_all (hs.trans he)⟩
        clear hs
        go_wp2
        go_ret
        exact ⟨by rw [hfin.out]; rfl, hB.out⟩
      · have he' : ((nth k).toList == a0.toList) = false := by simpa using he
        have hs' := Aside0.mk (hs.trans he')
        clear hs he
        go_wp2
        go_round
        case rel => exact ⟨k + 1, by omega, by go_num, hs'⟩
        case measure => simp [intOf]; omega
    · have hge : 16 ≤ k := by omega
      have hfin : Aside0 (among a0 16 = false) := ⟨by rw [← ha.out, show k = 16 by omega]⟩
      clear ha hlt
      go_wp2
      go_ret
      exact ⟨by rw [hfin.out]; rfl, hB.out⟩
end Go.Proofs.Ytemhpbdlonfikaa.P
-- Printed by xprint.py, a program of this session over the kit's printer.
-- Printed by xprint.py, a program of this session over the kit's printer.
namespace Go.Proofs.Ytemhpbdlonfikaa.P
open Go.RowKit Go.Proofs.YtemhpbdlonfikaaW.PrintWords Go.Proofs.YtemhpbdlonfikaaW.PrintLast Go.Proofs.YtemhpbdlonfikaaW.PrintMore
attribute [local go_sem] max2_int min2_int max_two min_two max_three min_three max_four min_four   -- for this text's walks alone

/-! ### weirref05_letter: function 112 -/
def weirref05_letter.f (a0 : Int) : Option (Bool) := if a0 ≥ 97 then (if a0 ≤ 122 then (some true) else (if a0 ≥ 65 then (if a0 ≤ 90 then (some true) else (some (a0 == 95))) else (some (a0 == 95)))) else (if a0 ≥ 65 then (if a0 ≤ 90 then (some true) else (some (a0 == 95))) else (some (a0 == 95)))
set_option maxHeartbeats 8000000 in
set_option maxRecDepth 100000 in
theorem weirref05_letter.calls (a0 : Int) (r : Bool) (w : World) (h : weirref05_letter.f a0 = some r) :
  Calls Try.prog 112 #[.int .u8 a0] w fun e w' => e = .returned (.bool r) ∧ Drawn0 w w' := by
 have H : (if a0 ≥ 97 then (if a0 ≤ 122 then (some true) else (if a0 ≥ 65 then (if a0 ≤ 90 then (some true) else (some (a0 == 95))) else (some (a0 == 95)))) else (if a0 ≥ 65 then (if a0 ≤ 90 then (some true) else (some (a0 == 95))) else (some (a0 == 95)))) = some r := h; clear h
 by_cases c2 : a0 ≥ 97
 ·
  rw [if_pos c2] at H; have c2b0 : decide (97 ≤ a0) = true := decide_eq_true c2; clear c2
  by_cases c3 : a0 ≤ 122
  ·
   rw [if_pos c3] at H; have c3b0 : decide (a0 ≤ 122) = true := decide_eq_true c3; clear c3; obtain rfl := Option.some.inj H; go_enter Try.func112, Try.ntmps112; go_wp2
   go_ret
   exact ⟨ff_, by repeat (first | exact Drawn0.refl _ | apply Drawn0.step)⟩
  ·
   rw [if_neg c3] at H; have c3b0 : decide (a0 ≤ 122) = false := decide_eq_false c3; clear c3
   by_cases c4 : a0 ≥ 65
   ·
    rw [if_pos c4] at H; have c4b0 : decide (65 ≤ a0) = true := decide_eq_true c4; clear c4
    by_cases c5 : a0 ≤ 90
    ·
     rw [if_pos c5] at H; have c5b0 : decide (a0 ≤ 90) = true := decide_eq_true c5; clear c5; obtain rfl := Option.some.inj H; go_enter Try.func112, Try.ntmps112; go_wp2
     go_ret
     exact ⟨ff_, by repeat (first | exact Drawn0.refl _ | apply Drawn0.step)⟩
    ·
     rw [if_neg c5] at H; have c5b0 : decide (a0 ≤ 90) = false := decide_eq_false c5; clear c5; obtain rfl := Option.some.inj H; go_enter Try.func112, Try.ntmps112; go_wp2
     go_ret
     exact ⟨ff_, by repeat (first | exact Drawn0.refl _ | apply Drawn0.step)⟩
   ·
    rw [if_neg c4] at H; have c4b0 : decide (65 ≤ a0) = false := decide_eq_false c4; clear c4; obtain rfl := Option.some.inj H; go_enter Try.func112, Try.ntmps112; go_wp2
    go_ret
    exact ⟨ff_, by repeat (first | exact Drawn0.refl _ | apply Drawn0.step)⟩
 ·
  rw [if_neg c2] at H; have c2b0 : decide (97 ≤ a0) = false := decide_eq_false c2; clear c2
  by_cases c6 : a0 ≥ 65
  ·
   rw [if_pos c6] at H; have c6b0 : decide (65 ≤ a0) = true := decide_eq_true c6; clear c6
   by_cases c7 : a0 ≤ 90
   ·
    rw [if_pos c7] at H; have c7b0 : decide (a0 ≤ 90) = true := decide_eq_true c7; clear c7; obtain rfl := Option.some.inj H; go_enter Try.func112, Try.ntmps112; go_wp2
    go_ret
    exact ⟨ff_, by repeat (first | exact Drawn0.refl _ | apply Drawn0.step)⟩
   ·
    rw [if_neg c7] at H; have c7b0 : decide (a0 ≤ 90) = false := decide_eq_false c7; clear c7; obtain rfl := Option.some.inj H; go_enter Try.func112, Try.ntmps112; go_wp2
    go_ret
    exact ⟨ff_, by repeat (first | exact Drawn0.refl _ | apply Drawn0.step)⟩
  ·
   rw [if_neg c6] at H; have c6b0 : decide (65 ≤ a0) = false := decide_eq_false c6; clear c6; obtain rfl := Option.some.inj H; go_enter Try.func112, Try.ntmps112; go_wp2
   go_ret
   exact ⟨ff_, by repeat (first | exact Drawn0.refl _ | apply Drawn0.step)⟩

/-! ### weirref05_digit: function 113 -/
def weirref05_digit.f (a0 : Int) : Option (Bool) := if a0 ≥ 48 then (some (decide (a0 ≤ 57))) else (some false)
set_option maxHeartbeats 8000000 in
set_option maxRecDepth 100000 in
theorem weirref05_digit.calls (a0 : Int) (r : Bool) (w : World) (h : weirref05_digit.f a0 = some r) :
  Calls Try.prog 113 #[.int .u8 a0] w fun e w' => e = .returned (.bool r) ∧ Drawn0 w w' := by
 have H : (if a0 ≥ 48 then (some (decide (a0 ≤ 57))) else (some false)) = some r := h; clear h
 by_cases c2 : a0 ≥ 48
 ·
  rw [if_pos c2] at H; have c2b0 : decide (48 ≤ a0) = true := decide_eq_true c2; clear c2; obtain rfl := Option.some.inj H; go_enter Try.func113, Try.ntmps113; go_wp2
  go_ret
  exact ⟨ff_, by repeat (first | exact Drawn0.refl _ | apply Drawn0.step)⟩
 ·
  rw [if_neg c2] at H; have c2b0 : decide (48 ≤ a0) = false := decide_eq_false c2; clear c2; obtain rfl := Option.some.inj H; go_enter Try.func113, Try.ntmps113; go_wp2
  go_ret
  exact ⟨ff_, by repeat (first | exact Drawn0.refl _ | apply Drawn0.step)⟩

/-! ### weirref05_name: function 98 -/
mutual
def weirref05_name.j0 : Nat → ByteArray → Int → Bool → Option (Int)
 | 0, _, _, _ => none
 | k + 1, x0, x1, x18 => if x18 = true then (some 0) else (weirref05_name.l0 k x0 x1 1)
def weirref05_name.l0 : Nat → ByteArray → Int → Int → Option (Int)
 | 0, _, _, _ => none
 | k + 1, x0, x1, x5 => if (wrap64 (x1 + x5)) < (x0.size : Int) then (if 0 ≤ (wrap64 (x1 + x5)) then ((weirref05_letter.f (bt x0 (wrap64 (x1 + x5)))).bind fun t235 => (if t235 = true then (weirref05_name.j2 k x0 x1 x5 (bt x0 (wrap64 (x1 + x5))) true) else ((weirref05_digit.f (bt x0 (wrap64 (x1 + x5)))).bind fun t236 => (if t236 = true then (weirref05_name.j2 k x0 x1 x5 (bt x0 (wrap64 (x1 + x5))) true) else (weirref05_name.j2 k x0 x1 x5 (bt x0 (wrap64 (x1 + x5))) ((bt x0 (wrap64 (x1 + x5))) == 46)))))) else (none)) else (some x5)
def weirref05_name.j2 : Nat → ByteArray → Int → Int → Int → Bool → Option (Int)
 | 0, _, _, _, _, _ => none
 | k + 1, x0, x1, x5, x6, x7 => if x6 = 43 then (weirref05_name.j3 k x0 x1 x5 x7 (decide ((wrap64 ((wrap64 (x1 + x5)) + 1)) < (x0.size : Int)))) else (if x6 = 45 then (weirref05_name.j3 k x0 x1 x5 x7 (decide ((wrap64 ((wrap64 (x1 + x5)) + 1)) < (x0.size : Int)))) else (weirref05_name.j3 k x0 x1 x5 x7 false))
def weirref05_name.j3 : Nat → ByteArray → Int → Int → Bool → Bool → Option (Int)
 | 0, _, _, _, _, _ => none
 | k + 1, x0, x1, x5, x7, x54 => if x54 = true then (if 0 ≤ (wrap64 ((wrap64 (x1 + x5)) + 1)) then (if (wrap64 ((wrap64 (x1 + x5)) + 1)) < (x0.size : Int) then ((weirref05_letter.f (bt x0 (wrap64 ((wrap64 (x1 + x5)) + 1)))).bind fun t237 => (if t237 = true then (weirref05_name.l0 k x0 x1 (wrap64 (x5 + 1))) else ((weirref05_digit.f (bt x0 (wrap64 ((wrap64 (x1 + x5)) + 1)))).bind fun t238 => (if t238 = true then (weirref05_name.l0 k x0 x1 (wrap64 (x5 + 1))) else (some x5))))) else (none)) else (none)) else (if x7 = true then (weirref05_name.l0 k x0 x1 (wrap64 (x5 + 1))) else (some x5))
end
def weirref05_name.f (k : Nat) (a0 : ByteArray) (a1 : Int) : Option (Int) := if a1 ≥ (a0.size : Int) then (weirref05_name.j0 k a0 a1 true) else (if 0 ≤ a1 then (if a1 < (a0.size : Int) then ((weirref05_letter.f (bt a0 a1)).bind fun t234 => (weirref05_name.j0 k a0 a1 (!t234))) else (none)) else (none))
theorem weirref05_name.mono_l : ∀ k, (∀ y0 y1 y2, LeO (weirref05_name.j0 k y0 y1 y2) (weirref05_name.j0 (k + 1) y0 y1 y2)) ∧ (∀ y0 y1 y2, LeO (weirref05_name.l0 k y0 y1 y2) (weirref05_name.l0 (k + 1) y0 y1 y2)) ∧ (∀ y0 y1 y2 y3 y4, LeO (weirref05_name.j2 k y0 y1 y2 y3 y4) (weirref05_name.j2 (k + 1) y0 y1 y2 y3 y4)) ∧ (∀ y0 y1 y2 y3 y4, LeO (weirref05_name.j3 k y0 y1 y2 y3 y4) (weirref05_name.j3 (k + 1) y0 y1 y2 y3 y4))
 | 0 => ⟨fun _ _ _ r h => by simp [weirref05_name.j0] at h, fun _ _ _ r h => by simp [weirref05_name.l0] at h, fun _ _ _ _ _ r h => by simp [weirref05_name.j2] at h, fun _ _ _ _ _ r h => by simp [weirref05_name.j3] at h⟩
 | k + 1 => by
  obtain ⟨ih0, ih1, ih2, ih3⟩ := weirref05_name.mono_l k; refine ⟨?_, ?_, ?_, ?_⟩; intro y0 y1 y2; unfold weirref05_name.j0; rotate_left; intro y0 y1 y2; unfold weirref05_name.l0; rotate_left; intro y0 y1 y2 y3 y4; unfold weirref05_name.j2; rotate_left; intro y0 y1 y2 y3 y4; unfold weirref05_name.j3; rotate_left
  all_goals (repeat' first
   | (with_reducible exact ih0 _ _ _)
   | (with_reducible exact ih1 _ _ _)
   | (with_reducible exact ih2 _ _ _ _ _)
   | (with_reducible exact ih3 _ _ _ _ _)
   | (with_reducible exact LeO.refl _)
   | (with_reducible exact LeO.none _)
   | (with_reducible refine LeO.ite ?_ ?_)
   | (with_reducible refine LeO.bind ?_ (fun _ => ?_))
   | exact ih0 _ _ _
   | exact ih1 _ _ _
   | exact ih2 _ _ _ _ _
   | exact ih3 _ _ _ _ _
   | exact LeO.none _
   | refine LeO.ite ?_ ?_
   | refine LeO.bind ?_ (fun _ => ?_))
theorem weirref05_name.mono : ∀ a0 a1 k, LeO (weirref05_name.f k a0 a1) (weirref05_name.f (k + 1) a0 a1) := by
 intro a0 a1 k; obtain ⟨ih0, ih1, ih2, ih3⟩ := weirref05_name.mono_l k; unfold weirref05_name.f
 repeat' first
   | (with_reducible exact ih0 _ _ _)
   | (with_reducible exact ih1 _ _ _)
   | (with_reducible exact ih2 _ _ _ _ _)
   | (with_reducible exact ih3 _ _ _ _ _)
   | (with_reducible exact LeO.refl _)
   | (with_reducible exact LeO.none _)
   | (with_reducible refine LeO.ite ?_ ?_)
   | (with_reducible refine LeO.bind ?_ (fun _ => ?_))
   | exact ih0 _ _ _
   | exact ih1 _ _ _
   | exact ih2 _ _ _ _ _
   | exact ih3 _ _ _ _ _
   | exact LeO.none _
   | refine LeO.ite ?_ ?_
   | refine LeO.bind ?_ (fun _ => ?_)
set_option maxHeartbeats 8000000 in
set_option maxRecDepth 100000 in
theorem weirref05_name.calls (k : Nat) (a0 : ByteArray) (a1 : Int) (r : Int) (w : World) (h : weirref05_name.f k a0 a1 = some r) :
  Calls Try.prog 98 #[.string a0, .int .i64 a1] w fun e w' => e = .returned (.int .i64 r) ∧ Drawn0 w w' := by
 have H : (if a1 ≥ (a0.size : Int) then (weirref05_name.j0 k a0 a1 true) else (if 0 ≤ a1 then (if a1 < (a0.size : Int) then ((weirref05_letter.f (bt a0 a1)).bind fun t234 => (weirref05_name.j0 k a0 a1 (!t234))) else (none)) else (none))) = some r := h; clear h; have HC3 := Aside0.mk H; clear H; go_enter Try.func98, Try.ntmps98
 go_upto_region 1 with (fail)
 go_cut [18] (fun v18 wc => ∃ (kq : Nat) (x18_2 : Bool), v18 = .bool x18_2 ∧ Aside0 (weirref05_name.j0 kq a0 a1 x18_2 = some r) ∧ Aside0 (kq ≤ k) ∧ Drawn0 w wc)
 case first =>
  have H := HC3.out; clear HC3
  by_cases c4 : a1 ≥ (a0.size : Int)
  ·
   rw [if_pos c4] at H; have c4b0 : decide ((a0.size : Int) ≤ a1) = true := decide_eq_true c4; clear c4
   (first | rw [c4b0] | (simp only [i64_w, i32_w]; rw [c4b0]) | skip)
   have H' := Aside0.mk H; clear H; go_wp2; go_meet
   case rel => exact ⟨_, (true), ff_, H', ⟨by first | omega | exact Nat.le_refl _⟩, by repeat (first | exact Drawn0.refl _ | apply Drawn0.step)⟩
  ·
   rw [if_neg c4] at H; have c4b0 : decide ((a0.size : Int) ≤ a1) = false := decide_eq_false c4; clear c4
   (first | rw [c4b0] | (simp only [i64_w, i32_w]; rw [c4b0]) | skip)
   by_cases c5 : 0 ≤ a1
   ·
    rw [if_pos c5] at H; have c5b0 : decide (0 ≤ a1) = true := decide_eq_true c5; clear c5
    by_cases c6 : a1 < (a0.size : Int)
    ·
     rw [if_pos c6] at H; have c6b0 : decide (a1 < (a0.size : Int)) = true := decide_eq_true c6; clear c6; replace H := Option.bind_eq_some_iff.mp H; obtain ⟨t234, A80, H⟩ := H; replace H : (weirref05_name.j0 k a0 a1 (!t234)) = some r := H; have A8 := Aside0.mk A80; clear A80; have H' := Aside0.mk H; clear H; have p7 : 0 ≤ (a1 : Int) := dt_; have q7 : a1 < (a0.size : Int) := dt_; have hx7 := bt_at a0 a1; replace p7 := eq_true p7; replace q7 := eq_true q7
     go_wp2_with (first | (go_at_call 112; (with_reducible refine (weirref05_letter.calls (bt a0 a1) t234 _ A8.out).mono ?_); rintro e w' ⟨rfl, ⟨nd, rfl⟩⟩))
     go_meet
     case rel => exact ⟨_, (!t234), ff_, H', ⟨by first | omega | exact Nat.le_refl _⟩, by repeat (first | exact Drawn0.refl _ | apply Drawn0.step)⟩
    ·
     rw [if_neg c6] at H; exact absurd H (by simp)
   ·
    rw [if_neg c5] at H; exact absurd H (by simp)
 case rest =>
  clear HC3; obtain ⟨kq, x18_2, rfl, HA, HJ2, ⟨mc2, rfl⟩⟩ := hcut
  cases kq with
  | zero => exact absurd HA.out (by simp [weirref05_name.j0])
  | succ kj2 =>
   have H := HA.out; clear HA; simp only [weirref05_name.j0] at H
   by_cases c9 : x18_2 = true
   ·
    subst c9; have H1 : (some 0) = some r := by rw [if_pos rfl] at H; exact H
    clear H; have H := H1; clear H1; obtain rfl := Option.some.inj H; go_wp2
    go_ret
    exact ⟨ff_, by repeat (first | exact Drawn0.refl _ | apply Drawn0.step)⟩
   ·
    replace c9 := Bool.eq_false_iff.mpr c9; subst c9; have H1 : (weirref05_name.l0 kj2 a0 a1 1) = some r := by rw [if_neg (show ¬ (false = true) by decide)] at H; exact H
    clear H; have H := H1; clear H1; have H' := Aside0.mk H; clear H; go_wp2
    go_loopg [5] kj2 (fun kq v5 w' => ∃ (x5_2 : Int), v5 = .int .i64 x5_2 ∧ Aside0 (weirref05_name.l0 kq a0 a1 x5_2 = some r) ∧ Aside0 (kq ≤ kj2) ∧ Drawn0 w w')
    case atStart => exact ⟨(1), ff_, H', ⟨Nat.le_refl _⟩, by repeat (first | exact Drawn0.refl _ | apply Drawn0.step)⟩
    case round =>
     clear H'; (try clear c9); obtain ⟨x5_2, rfl, HA, HK2, ⟨m2, rfl⟩⟩ := hrel
     cases gk with
     | zero => exact absurd HA.out (by simp [weirref05_name.l0])
     | succ k2 =>
      have H := HA.out; clear HA; simp only [weirref05_name.l0] at H
      by_cases c10 : (wrap64 (a1 + x5_2)) < (a0.size : Int)
      ·
       rw [if_pos c10] at H; have c10b0 : decide ((wrap64 (a1 + x5_2)) < (a0.size : Int)) = true := decide_eq_true c10; clear c10; obtain ⟨ji11, hji11⟩ : ∃ j_ : Int, (wrap64 (a1 + x5_2)) = j_ := ⟨_, rfl⟩; replace H : (if 0 ≤ (ji11) then ((weirref05_letter.f (bt a0 (ji11))).bind fun t235 => (if t235 = true then (weirref05_name.j2 k2 a0 a1 x5_2 (bt a0 (ji11)) true) else ((weirref05_digit.f (bt a0 (ji11))).bind fun t236 => (if t236 = true then (weirref05_name.j2 k2 a0 a1 x5_2 (bt a0 (ji11)) true) else (weirref05_name.j2 k2 a0 a1 x5_2 (bt a0 (ji11)) ((bt a0 (ji11)) == 46)))))) else (none)) = some r := by first | (rw [hji11] at H; exact H) | (simp only [hji11] at H ⊢; exact H)
       (try rw [hji11] at c10b0)
       have hji11w : (IntKind.i64.wrap (a1 + x5_2)) = ji11 := (i64_w _).trans hji11
       by_cases c12 : 0 ≤ (ji11)
       ·
        rw [if_pos c12] at H; have c12b0 : decide (0 ≤ (ji11)) = true := decide_eq_true c12; clear c12; have HC14 := Aside0.mk H; clear H; have p13 : 0 ≤ ((ji11) : Int) := dt_; have q13 : (ji11) < (a0.size : Int) := dt_; have hx13 := bt_at a0 (ji11); replace p13 := eq_true p13; replace q13 := eq_true q13
        go_upto_region 6 with (fail)
        go_cut [7] (fun v7 wc => ∃ (kq : Nat) (x7_13 : Bool), v7 = .bool x7_13 ∧ Aside0 (weirref05_name.j2 kq a0 a1 x5_2 (bt a0 (ji11)) x7_13 = some r) ∧ Aside0 (kq ≤ k2) ∧ Drawn0 w wc)
        case first =>
         have H := HC14.out; clear HC14; replace H := Option.bind_eq_some_iff.mp H; obtain ⟨t235, A150, H⟩ := H; replace H : (if t235 = true then (weirref05_name.j2 k2 a0 a1 x5_2 (bt a0 (ji11)) true) else ((weirref05_digit.f (bt a0 (ji11))).bind fun t236 => (if t236 = true then (weirref05_name.j2 k2 a0 a1 x5_2 (bt a0 (ji11)) true) else (weirref05_name.j2 k2 a0 a1 x5_2 (bt a0 (ji11)) ((bt a0 (ji11)) == 46))))) = some r := H; have A15 := Aside0.mk A150; clear A150
         by_cases c16 : t235 = true
         ·
          subst c16; have H1 : (weirref05_name.j2 k2 a0 a1 x5_2 (bt a0 (ji11)) true) = some r := by rw [if_pos rfl] at H; exact H
          clear H; have H := H1; clear H1; have H' := Aside0.mk H; clear H
          go_wp2_with (first | ((with_reducible refine gate_callee (f := 112) rfl ?_); refine goesL_ (some 31) rfl rfl Try.func112 (by kernel_rfl) rfl #[.int .u8 (bt a0 (ji11))] rfl (by (try simp only [List.map_toArray, List.map_cons, List.map_nil]); first | done | (simp only [hji11]; rfl) | rfl | (simp only [List.length_drop, List.length_take]; rfl)) ?_; (with_reducible refine (weirref05_letter.calls (bt a0 (ji11)) true _ A15.out).mono ?_); rintro e w' ⟨rfl, ⟨nd, rfl⟩⟩; refine ⟨_, rfl, ?_⟩))
          go_meet
          case rel => exact ⟨_, (true), ff_, H', ⟨by have := HJ2.out; have := HK2.out; first | omega | exact Nat.le_refl _⟩, by repeat (first | exact Drawn0.refl _ | apply Drawn0.step)⟩
         ·
          replace c16 := Bool.eq_false_iff.mpr c16; subst c16; have H1 : ((weirref05_digit.f (bt a0 (ji11))).bind fun t236 => (if t236 = true then (weirref05_name.j2 k2 a0 a1 x5_2 (bt a0 (ji11)) true) else (weirref05_name.j2 k2 a0 a1 x5_2 (bt a0 (ji11)) ((bt a0 (ji11)) == 46)))) = some r := by rw [if_neg (show ¬ (false = true) by decide)] at H; exact H
          clear H; have H := H1; clear H1; replace H := Option.bind_eq_some_iff.mp H; obtain ⟨t236, A170, H⟩ := H; replace H : (if t236 = true then (weirref05_name.j2 k2 a0 a1 x5_2 (bt a0 (ji11)) true) else (weirref05_name.j2 k2 a0 a1 x5_2 (bt a0 (ji11)) ((bt a0 (ji11)) == 46))) = some r := H; have A17 := Aside0.mk A170; clear A170
          by_cases c18 : t236 = true
          ·
           subst c18; have H1 : (weirref05_name.j2 k2 a0 a1 x5_2 (bt a0 (ji11)) true) = some r := by rw [if_pos rfl] at H; exact H
           clear H; have H := H1; clear H1; have H' := Aside0.mk H; clear H
           go_wp2_with (first | ((with_reducible refine gate_callee (f := 112) rfl ?_); refine goesL_ (some 31) rfl rfl Try.func112 (by kernel_rfl) rfl #[.int .u8 (bt a0 (ji11))] rfl (by (try simp only [List.map_toArray, List.map_cons, List.map_nil]); first | done | (simp only [hji11]; rfl) | rfl | (simp only [List.length_drop, List.length_take]; rfl)) ?_; (with_reducible refine (weirref05_letter.calls (bt a0 (ji11)) false _ A15.out).mono ?_); rintro e w' ⟨rfl, ⟨nd, rfl⟩⟩; refine ⟨_, rfl, ?_⟩) | (go_at_call 113; (with_reducible refine (weirref05_digit.calls (bt a0 (ji11)) true _ A17.out).mono ?_); rintro e w' ⟨rfl, ⟨nd, rfl⟩⟩))
           go_meet
           case rel => exact ⟨_, (true), ff_, H', ⟨by have := HJ2.out; have := HK2.out; first | omega | exact Nat.le_refl _⟩, by repeat (first | exact Drawn0.refl _ | apply Drawn0.step)⟩
          ·
           replace c18 := Bool.eq_false_iff.mpr c18; subst c18; have H1 : (weirref05_name.j2 k2 a0 a1 x5_2 (bt a0 (ji11)) ((bt a0 (ji11)) == 46)) = some r := by rw [if_neg (show ¬ (false = true) by decide)] at H; exact H
           clear H; have H := H1; clear H1; have H' := Aside0.mk H; clear H
           go_wp2_with (first | ((with_reducible refine gate_callee (f := 112) rfl ?_); refine goesL_ (some 31) rfl rfl Try.func112 (by kernel_rfl) rfl #[.int .u8 (bt a0 (ji11))] rfl (by (try simp only [List.map_toArray, List.map_cons, List.map_nil]); first | done | (simp only [hji11]; rfl) | rfl | (simp only [List.length_drop, List.length_take]; rfl)) ?_; (with_reducible refine (weirref05_letter.calls (bt a0 (ji11)) false _ A15.out).mono ?_); rintro e w' ⟨rfl, ⟨nd, rfl⟩⟩; refine ⟨_, rfl, ?_⟩) | (go_at_call 113; (with_reducible refine (weirref05_digit.calls (bt a0 (ji11)) false _ A17.out).mono ?_); rintro e w' ⟨rfl, ⟨nd, rfl⟩⟩))
           go_meet
           case rel => exact ⟨_, (((bt a0 (ji11)) == 46)), (by first | rfl | (simp; done) | (simp only [← hji11] <;> (first | rfl | simp)) | (simp [*]; done)), H', ⟨by have := HJ2.out; have := HK2.out; first | omega | exact Nat.le_refl _⟩, by repeat (first | exact Drawn0.refl _ | apply Drawn0.step)⟩
        case rest =>
         clear HC14; (try clear c10b0); (try clear c12b0); (try clear p13); (try clear q13); (try clear hx13); obtain ⟨kq, x7_13, rfl, HA, HJ13, ⟨mc13, rfl⟩⟩ := hcut
         cases kq with
         | zero => exact absurd HA.out (by simp [weirref05_name.j2])
         | succ kj13 =>
          have H := HA.out; clear HA; simp only [weirref05_name.j2] at H; have HC19 := Aside0.mk H; clear H
          go_upto_region 7 with (fail)
          go_cut [54] (fun v54 wc => ∃ (kq : Nat) (x54_18 : Bool), v54 = .bool x54_18 ∧ Aside0 (weirref05_name.j3 kq a0 a1 x5_2 x7_13 x54_18 = some r) ∧ Aside0 (kq ≤ kj13) ∧ Drawn0 w wc)
          case first =>
           have H := HC19.out; clear HC19
           by_cases c20 : (bt a0 (ji11)) = 43
           ·
            rw [if_pos c20] at H; have c20b0 : ((bt a0 (ji11)) == 43) = true := beq_iff_eq.mpr c20; have c20b1 : ((bt a0 (ji11)) != 43) = false := bne_eq_false_iff_eq.mpr c20; clear c20
            (first | rw [c20b0] | (simp only [i64_w, i32_w]; rw [c20b0]) | skip)
            have H' := Aside0.mk H; clear H; go_wp2; go_meet
            case rel => exact ⟨_, (decide ((wrap64 ((wrap64 (a1 + x5_2)) + 1)) < (a0.size : Int))), ff_, H', ⟨by have := HJ2.out; have := HK2.out; have := HJ13.out; first | omega | exact Nat.le_refl _⟩, by repeat (first | exact Drawn0.refl _ | apply Drawn0.step)⟩
           ·
            rw [if_neg c20] at H; have c20b0 : ((bt a0 (ji11)) == 43) = false := beq_eq_false_iff_ne.mpr c20; have c20b1 : ((bt a0 (ji11)) != 43) = true := bne_iff_ne.mpr c20
            (first | rw [c20b0] | (simp only [i64_w, i32_w]; rw [c20b0]) | skip)
            by_cases c21 : (bt a0 (ji11)) = 45
            ·
             rw [if_pos c21] at H; have c21b0 : ((bt a0 (ji11)) == 45) = true := beq_iff_eq.mpr c21; have c21b1 : ((bt a0 (ji11)) != 45) = false := bne_eq_false_iff_eq.mpr c21; clear c21; have H' := Aside0.mk H; clear H; go_wp2; go_meet
             case rel => exact ⟨_, (decide ((wrap64 ((wrap64 (a1 + x5_2)) + 1)) < (a0.size : Int))), ff_, H', ⟨by have := HJ2.out; have := HK2.out; have := HJ13.out; first | omega | exact Nat.le_refl _⟩, by repeat (first | exact Drawn0.refl _ | apply Drawn0.step)⟩
            ·
             rw [if_neg c21] at H; have c21b0 : ((bt a0 (ji11)) == 45) = false := beq_eq_false_iff_ne.mpr c21; have c21b1 : ((bt a0 (ji11)) != 45) = true := bne_iff_ne.mpr c21; have H' := Aside0.mk H; clear H; go_wp2; go_meet
             case rel => exact ⟨_, (false), ff_, H', ⟨by have := HJ2.out; have := HK2.out; have := HJ13.out; first | omega | exact Nat.le_refl _⟩, by repeat (first | exact Drawn0.refl _ | apply Drawn0.step)⟩
          case rest =>
           clear HC19; obtain ⟨kq, x54_18, rfl, HA, HJ18, ⟨mc18, rfl⟩⟩ := hcut
           cases kq with
           | zero => exact absurd HA.out (by simp [weirref05_name.j3])
           | succ kj18 =>
            have H := HA.out; clear HA; simp only [weirref05_name.j3] at H
            by_cases c22 : x54_18 = true
            ·
             subst c22; have H1 : (if 0 ≤ (wrap64 ((wrap64 (a1 + x5_2)) + 1)) then (if (wrap64 ((wrap64 (a1 + x5_2)) + 1)) < (a0.size : Int) then ((weirref05_letter.f (bt a0 (wrap64 ((wrap64 (a1 + x5_2)) + 1)))).bind fun t237 => (if t237 = true then (weirref05_name.l0 kj18 a0 a1 (wrap64 (x5_2 + 1))) else ((weirref05_digit.f (bt a0 (wrap64 ((wrap64 (a1 + x5_2)) + 1)))).bind fun t238 => (if t238 = true then (weirref05_name.l0 kj18 a0 a1 (wrap64 (x5_2 + 1))) else (some x5_2))))) else (none)) else (none)) = some r := by rw [if_pos rfl] at H; exact H
             clear H; have H := H1; clear H1; obtain ⟨ji23, hji23⟩ : ∃ j_ : Int, (wrap64 ((wrap64 (a1 + x5_2)) + 1)) = j_ := ⟨_, rfl⟩; replace H : (if 0 ≤ (ji23) then (if (ji23) < (a0.size : Int) then ((weirref05_letter.f (bt a0 (ji23))).bind fun t237 => (if t237 = true then (weirref05_name.l0 kj18 a0 a1 (wrap64 (x5_2 + 1))) else ((weirref05_digit.f (bt a0 (ji23))).bind fun t238 => (if t238 = true then (weirref05_name.l0 kj18 a0 a1 (wrap64 (x5_2 + 1))) else (some x5_2))))) else (none)) else (none)) = some r := by first | (rw [hji23] at H; exact H) | (simp only [hji23] at H ⊢; exact H)
             have hji23w : (IntKind.i64.wrap ((wrap64 (a1 + x5_2)) + 1)) = ji23 := (i64_w _).trans hji23; have hji23x := hji23
             (try rw [hji11] at hji23x)
             have hji23y := hji23w
             (try rw [hji11] at hji23y)
             by_cases c24 : 0 ≤ (ji23)
             ·
              rw [if_pos c24] at H; have c24b0 : decide (0 ≤ (ji23)) = true := decide_eq_true c24; clear c24
              by_cases c25 : (ji23) < (a0.size : Int)
              ·
               rw [if_pos c25] at H; have c25b0 : decide ((ji23) < (a0.size : Int)) = true := decide_eq_true c25; clear c25; replace H := Option.bind_eq_some_iff.mp H; obtain ⟨t237, A270, H⟩ := H; replace H : (if t237 = true then (weirref05_name.l0 kj18 a0 a1 (wrap64 (x5_2 + 1))) else ((weirref05_digit.f (bt a0 (ji23))).bind fun t238 => (if t238 = true then (weirref05_name.l0 kj18 a0 a1 (wrap64 (x5_2 + 1))) else (some x5_2)))) = some r := H; have A27 := Aside0.mk A270; clear A270
               by_cases c28 : t237 = true
               ·
                subst c28; have H1 : (weirref05_name.l0 kj18 a0 a1 (wrap64 (x5_2 + 1))) = some r := by rw [if_pos rfl] at H; exact H
                clear H; have H := H1; clear H1; have H' := Aside0.mk H; clear H; have p26 : 0 ≤ ((ji23) : Int) := dt_; have q26 : (ji23) < (a0.size : Int) := dt_; have hx26 := bt_at a0 (ji23); replace p26 := eq_true p26; replace q26 := eq_true q26
                go_wp2_with (first | ((with_reducible refine gate_callee (f := 112) rfl ?_); refine goesL_ (some 61) rfl rfl Try.func112 (by kernel_rfl) rfl #[.int .u8 (bt a0 (ji23))] rfl (by (try simp only [List.map_toArray, List.map_cons, List.map_nil]); first | done | (simp only [hji23]; rfl) | rfl | (simp only [List.length_drop, List.length_take]; rfl)) ?_; (with_reducible refine (weirref05_letter.calls (bt a0 (ji23)) true _ A27.out).mono ?_); rintro e w' ⟨rfl, ⟨nd, rfl⟩⟩; refine ⟨_, rfl, ?_⟩))
                go_roundg kj18
                case measure => have := HJ2.out; have := HK2.out; have := HJ13.out; have := HJ18.out; omega
                case rel => exact ⟨(wrap64 (x5_2 + 1)), ff_, H', ⟨by have := HJ2.out; have := HK2.out; have := HJ13.out; have := HJ18.out; omega⟩, by repeat (first | exact Drawn0.refl _ | apply Drawn0.step)⟩
               ·
                replace c28 := Bool.eq_false_iff.mpr c28; subst c28; have H1 : ((weirref05_digit.f (bt a0 (ji23))).bind fun t238 => (if t238 = true then (weirref05_name.l0 kj18 a0 a1 (wrap64 (x5_2 + 1))) else (some x5_2))) = some r := by rw [if_neg (show ¬ (false = true) by decide)] at H; exact H
                clear H; have H := H1; clear H1; replace H := Option.bind_eq_some_iff.mp H; obtain ⟨t238, A300, H⟩ := H; replace H : (if t238 = true then (weirref05_name.l0 kj18 a0 a1 (wrap64 (x5_2 + 1))) else (some x5_2)) = some r := H; have A30 := Aside0.mk A300; clear A300
                by_cases c31 : t238 = true
                ·
                 subst c31; have H1 : (weirref05_name.l0 kj18 a0 a1 (wrap64 (x5_2 + 1))) = some r := by rw [if_pos rfl] at H; exact H
                 clear H; have H := H1; clear H1; have H' := Aside0.mk H; clear H; have p26 : 0 ≤ ((ji23) : Int) := dt_; have q26 : (ji23) < (a0.size : Int) := dt_; have hx26 := bt_at a0 (ji23); replace p26 := eq_true p26; replace q26 := eq_true q26
                 go_wp2_with (first | ((with_reducible refine gate_callee (f := 112) rfl ?_); refine goesL_ (some 61) rfl rfl Try.func112 (by kernel_rfl) rfl #[.int .u8 (bt a0 (ji23))] rfl (by (try simp only [List.map_toArray, List.map_cons, List.map_nil]); first | done | (simp only [hji23]; rfl) | rfl | (simp only [List.length_drop, List.length_take]; rfl)) ?_; (with_reducible refine (weirref05_letter.calls (bt a0 (ji23)) false _ A27.out).mono ?_); rintro e w' ⟨rfl, ⟨nd, rfl⟩⟩; refine ⟨_, rfl, ?_⟩; have p29 : 0 ≤ ((ji23) : Int) := dt_; have q29 : (ji23) < (a0.size : Int) := dt_; have hx29 := bt_at a0 (ji23); replace p29 := eq_true p29; replace q29 := eq_true q29) | (go_at_call 113; (with_reducible refine (weirref05_digit.calls (bt a0 (ji23)) true _ A30.out).mono ?_); rintro e w' ⟨rfl, ⟨nd, rfl⟩⟩))
                 go_roundg kj18
                 case measure => have := HJ2.out; have := HK2.out; have := HJ13.out; have := HJ18.out; omega
                 case rel => exact ⟨(wrap64 (x5_2 + 1)), ff_, H', ⟨by have := HJ2.out; have := HK2.out; have := HJ13.out; have := HJ18.out; omega⟩, by repeat (first | exact Drawn0.refl _ | apply Drawn0.step)⟩
                ·
                 replace c31 := Bool.eq_false_iff.mpr c31; subst c31; have H1 : (some x5_2) = some r := by rw [if_neg (show ¬ (false = true) by decide)] at H; exact H
                 clear H; have H := H1; clear H1; obtain rfl := Option.some.inj H; have p26 : 0 ≤ ((ji23) : Int) := dt_; have q26 : (ji23) < (a0.size : Int) := dt_; have hx26 := bt_at a0 (ji23); replace p26 := eq_true p26; replace q26 := eq_true q26
                 go_wp2_with (first | ((with_reducible refine gate_callee (f := 112) rfl ?_); refine goesL_ (some 61) rfl rfl Try.func112 (by kernel_rfl) rfl #[.int .u8 (bt a0 (ji23))] rfl (by (try simp only [List.map_toArray, List.map_cons, List.map_nil]); first | done | (simp only [hji23]; rfl) | rfl | (simp only [List.length_drop, List.length_take]; rfl)) ?_; (with_reducible refine (weirref05_letter.calls (bt a0 (ji23)) false _ A27.out).mono ?_); rintro e w' ⟨rfl, ⟨nd, rfl⟩⟩; refine ⟨_, rfl, ?_⟩; have p29 : 0 ≤ ((ji23) : Int) := dt_; have q29 : (ji23) < (a0.size : Int) := dt_; have hx29 := bt_at a0 (ji23); replace p29 := eq_true p29; replace q29 := eq_true q29) | (go_at_call 113; (with_reducible refine (weirref05_digit.calls (bt a0 (ji23)) false _ A30.out).mono ?_); rintro e w' ⟨rfl, ⟨nd, rfl⟩⟩))
                 go_ret
                 exact ⟨by first | rfl | (simp; done) | (simp only [← hji11, ← hji23] <;> (first | rfl | simp)) | (simp [*]; done), by repeat (first | exact Drawn0.refl _ | apply Drawn0.step)⟩
              ·
               rw [if_neg c25] at H; exact absurd H (by simp)
             ·
              rw [if_neg c24] at H; exact absurd H (by simp)
            ·
             replace c22 := Bool.eq_false_iff.mpr c22; subst c22; have H1 : (if x7_13 = true then (weirref05_name.l0 kj18 a0 a1 (wrap64 (x5_2 + 1))) else (some x5_2)) = some r := by rw [if_neg (show ¬ (false = true) by decide)] at H; exact H
             clear H; have H := H1; clear H1
             by_cases c32 : x7_13 = true
             ·
              subst c32; have H1 : (weirref05_name.l0 kj18 a0 a1 (wrap64 (x5_2 + 1))) = some r := by rw [if_pos rfl] at H; exact H
              clear H; have H := H1; clear H1; have H' := Aside0.mk H; clear H; go_wp2
              go_roundg kj18
              case measure => have := HJ2.out; have := HK2.out; have := HJ13.out; have := HJ18.out; omega
              case rel => exact ⟨(wrap64 (x5_2 + 1)), ff_, H', ⟨by have := HJ2.out; have := HK2.out; have := HJ13.out; have := HJ18.out; omega⟩, by repeat (first | exact Drawn0.refl _ | apply Drawn0.step)⟩
             ·
              replace c32 := Bool.eq_false_iff.mpr c32; subst c32; have H1 : (some x5_2) = some r := by rw [if_neg (show ¬ (false = true) by decide)] at H; exact H
              clear H; have H := H1; clear H1; obtain rfl := Option.some.inj H; go_wp2
              go_ret
              exact ⟨by first | rfl | (simp; done) | (simp only [← hji11] <;> (first | rfl | simp)) | (simp [*]; done), by repeat (first | exact Drawn0.refl _ | apply Drawn0.step)⟩
       ·
        rw [if_neg c12] at H; exact absurd H (by simp)
      ·
       rw [if_neg c10] at H; have c10b0 : decide ((wrap64 (a1 + x5_2)) < (a0.size : Int)) = false := decide_eq_false c10; clear c10; obtain rfl := Option.some.inj H; go_wp2
       go_ret
       exact ⟨ff_, by repeat (first | exact Drawn0.refl _ | apply Drawn0.step)⟩

/-! ### weirref05_Name: function 61 -/
def weirref05_Name.f (k : Nat) (a0 : ByteArray) : Option (Bool) := if (a0.size : Int) > 0 then (if (a0.size : Int) ≤ 64 then ((weirref05_name.f k a0 0).bind fun t239 => (some (t239 == (a0.size : Int)))) else (some false)) else (some false)
theorem weirref05_Name.mono : ∀ a0 k, LeO (weirref05_Name.f k a0) (weirref05_Name.f (k + 1) a0) := by
 intro a0 k; unfold weirref05_Name.f
 repeat' first
   | (with_reducible exact weirref05_name.mono _ _ _)
   | (with_reducible exact LeO.refl _)
   | (with_reducible exact LeO.none _)
   | (with_reducible refine LeO.ite ?_ ?_)
   | (with_reducible refine LeO.bind ?_ (fun _ => ?_))
   | exact weirref05_name.mono _ _ _
   | exact LeO.none _
   | refine LeO.ite ?_ ?_
   | refine LeO.bind ?_ (fun _ => ?_)
set_option maxHeartbeats 8000000 in
set_option maxRecDepth 100000 in
theorem weirref05_Name.calls (k : Nat) (a0 : ByteArray) (r : Bool) (w : World) (h : weirref05_Name.f k a0 = some r) :
  Calls Try.prog 61 #[.string a0] w fun e w' => e = .returned (.bool r) ∧ Drawn0 w w' := by
 have H : (if (a0.size : Int) > 0 then (if (a0.size : Int) ≤ 64 then ((weirref05_name.f k a0 0).bind fun t239 => (some (t239 == (a0.size : Int)))) else (some false)) else (some false)) = some r := h; clear h
 by_cases c2 : (a0.size : Int) > 0
 ·
  rw [if_pos c2] at H; have c2b0 : decide (0 < (a0.size : Int)) = true := decide_eq_true c2; have c2b1 : decide (0 < a0.size) = true := decide_eq_true (by omega); clear c2
  by_cases c3 : (a0.size : Int) ≤ 64
  ·
   rw [if_pos c3] at H; have c3b0 : decide ((a0.size : Int) ≤ 64) = true := decide_eq_true c3; have c3b1 : decide (a0.size ≤ 64) = true := decide_eq_true (by omega); clear c3; replace H := Option.bind_eq_some_iff.mp H; obtain ⟨t239, A40, H⟩ := H; replace H : (some (t239 == (a0.size : Int))) = some r := H; have A4 := Aside0.mk A40; clear A40; obtain rfl := Option.some.inj H; go_enter Try.func61, Try.ntmps61
   go_wp2_with (first | (go_at_call 98; (with_reducible refine (weirref05_name.calls k a0 0 t239 _ A4.out).mono ?_); rintro e w' ⟨rfl, ⟨nd, rfl⟩⟩))
   go_ret
   exact ⟨ff_, by repeat (first | exact Drawn0.refl _ | apply Drawn0.step)⟩
  ·
   rw [if_neg c3] at H; have c3b0 : decide ((a0.size : Int) ≤ 64) = false := decide_eq_false c3; have c3b1 : decide (a0.size ≤ 64) = false := decide_eq_false (by omega); clear c3; obtain rfl := Option.some.inj H; go_enter Try.func61, Try.ntmps61; go_wp2
   go_ret
   exact ⟨ff_, by repeat (first | exact Drawn0.refl _ | apply Drawn0.step)⟩
 ·
  rw [if_neg c2] at H; have c2b0 : decide (0 < (a0.size : Int)) = false := decide_eq_false c2; have c2b1 : decide (0 < a0.size) = false := decide_eq_false (by omega); clear c2; obtain rfl := Option.some.inj H; go_enter Try.func61, Try.ntmps61; go_wp2
  go_ret
  exact ⟨ff_, by repeat (first | exact Drawn0.refl _ | apply Drawn0.step)⟩

end Go.Proofs.Ytemhpbdlonfikaa.P
-- Printed by xprint.py, a program of this session over the kit's printer.
-- Printed by xprint.py, a program of this session over the kit's printer.
-- Printed by xprint.py, a program of this session over the kit's printer.
-- Printed by xprint.py, a program of this session over the kit's printer.
namespace Go.Proofs.Ytemhpbdlonfikaa.P
open Go.RowKit Go.Proofs.YtemhpbdlonfikaaW.PrintWords Go.Proofs.YtemhpbdlonfikaaW.PrintLast Go.Proofs.YtemhpbdlonfikaaW.PrintMore
attribute [local go_sem] max2_int min2_int max_two min_two max_three min_three max_four min_four   -- for this text's walks alone

-- NOT PRINTED: function 35 (weirref11_Step)

-- NOT PRINTED: function 10 (weirref11_Play)

/-! ### weirlaw01_SameInts: function 11 -/
def weirlaw01_SameInts.l0 : Nat → List Int → List Int → Int → Option (Bool)
 | 0, _, _, _ => none
 | k + 1, x0, x1, x5 => if x5 < (x0.length : Int) then (if 0 ≤ x5 then (if x5 < (x1.length : Int) then (if (rd x0 x5) = (rd x1 x5) then (weirlaw01_SameInts.l0 k x0 x1 (wrap64 (x5 + 1))) else (some false)) else (none)) else (none)) else (some true)
def weirlaw01_SameInts.f (k : Nat) (l0 : List Int) (l1 : List Int) : Option (Bool) := if (l0.length : Int) = (l1.length : Int) then (weirlaw01_SameInts.l0 k l0 l1 0) else (some false)
theorem weirlaw01_SameInts.mono_l : ∀ k, (∀ y0 y1 y2, LeO (weirlaw01_SameInts.l0 k y0 y1 y2) (weirlaw01_SameInts.l0 (k + 1) y0 y1 y2))
 | 0 => fun _ _ _ r h => by simp [weirlaw01_SameInts.l0] at h
 | k + 1 => by
  have ih0 := weirlaw01_SameInts.mono_l k
  ·
   intro y0 y1 y2; unfold weirlaw01_SameInts.l0
   repeat' first
   | (with_reducible exact ih0 _ _ _)
   | (with_reducible exact LeO.refl _)
   | (with_reducible exact LeO.none _)
   | (with_reducible refine LeO.ite ?_ ?_)
   | (with_reducible refine LeO.bind ?_ (fun _ => ?_))
   | exact ih0 _ _ _
   | exact LeO.none _
   | refine LeO.ite ?_ ?_
   | refine LeO.bind ?_ (fun _ => ?_)
theorem weirlaw01_SameInts.mono : ∀ a0 a1 k, LeO (weirlaw01_SameInts.f k a0 a1) (weirlaw01_SameInts.f (k + 1) a0 a1) := by
 intro a0 a1 k; have ih0 := weirlaw01_SameInts.mono_l k; unfold weirlaw01_SameInts.f
 repeat' first
   | (with_reducible exact ih0 _ _ _)
   | (with_reducible exact LeO.refl _)
   | (with_reducible exact LeO.none _)
   | (with_reducible refine LeO.ite ?_ ?_)
   | (with_reducible refine LeO.bind ?_ (fun _ => ?_))
   | exact ih0 _ _ _
   | exact LeO.none _
   | refine LeO.ite ?_ ?_
   | refine LeO.bind ?_ (fun _ => ?_)
set_option maxHeartbeats 8000000 in
set_option maxRecDepth 100000 in
theorem weirlaw01_SameInts.calls (k : Nat) (A0 : Option Addr) (c0 : Nat) (l0 : List Int) (A1 : Option Addr) (c1 : Nat) (l1 : List Int) (r : Bool) (w : World) (hr0 : Kd.C (Kd.int .i64) w A0 l0.length l0) (hc0 : l0.length ≤ c0) (hr1 : Kd.C (Kd.int .i64) w A1 l1.length l1) (hc1 : l1.length ≤ c1) (h : weirlaw01_SameInts.f k l0 l1 = some r) :
  Calls Try.prog 11 #[.slice A0 l0.length c0, .slice A1 l1.length c1] w fun e w' => e = .returned (.bool r) ∧ Drawn0 w w' := by
 have HR0 := Aside0.mk hr0; have HC0 := Aside0.mk hc0; clear hr0 hc0; have HR1 := Aside0.mk hr1; have HC1 := Aside0.mk hc1; clear hr1 hc1; have H : (if (l0.length : Int) = (l1.length : Int) then (weirlaw01_SameInts.l0 k l0 l1 0) else (some false)) = some r := h; clear h
 by_cases c3 : (l0.length : Int) = (l1.length : Int)
 ·
  rw [if_pos c3] at H; have c3b0 : ((l0.length : Int) == (l1.length : Int)) = true := beq_iff_eq.mpr c3; have c3b1 : ((l0.length : Int) != (l1.length : Int)) = false := bne_eq_false_iff_eq.mpr c3; have c3b2 : (l0.length == l1.length) = true := by first | simpa using c3 | (simp at c3 ⊢; omega)
  clear c3; have H' := Aside0.mk H; clear H; go_enter Try.func11, Try.ntmps11; go_wp2
  repeat (go_quiet (fail); try go_wp2)
  go_loopg [5] k (fun kq v5 w' => ∃ (x5_1 : Int), v5 = .int .i64 x5_1 ∧ Aside0 (weirlaw01_SameInts.l0 kq l0 l1 x5_1 = some r) ∧ Aside0 (kq ≤ k) ∧ Drawn0 w w')
  case atStart => exact ⟨(0), ff_, H', ⟨Nat.le_refl _⟩, by repeat (first | exact Drawn0.refl _ | apply Drawn0.step)⟩
  case round =>
   clear H'; (try clear c1); (try clear c3b0); (try clear c3b1); (try clear c3b2); obtain ⟨x5_1, rfl, HA, HK1, ⟨m1, rfl⟩⟩ := hrel
   cases gk with
   | zero => exact absurd HA.out (by simp [weirlaw01_SameInts.l0])
   | succ k1 =>
    have H := HA.out; clear HA; simp only [weirlaw01_SameInts.l0] at H
    by_cases c4 : x5_1 < (l0.length : Int)
    ·
     rw [if_pos c4] at H; have c4b0 : decide (x5_1 < (l0.length : Int)) = true := decide_eq_true c4; clear c4
     by_cases c5 : 0 ≤ x5_1
     ·
      rw [if_pos c5] at H; have c5b0 : decide (0 ≤ x5_1) = true := decide_eq_true c5; clear c5
      by_cases c6 : x5_1 < (l1.length : Int)
      ·
       rw [if_pos c6] at H; have c6b0 : decide (x5_1 < (l1.length : Int)) = true := decide_eq_true c6; clear c6
       by_cases c7 : (rd l0 x5_1) = (rd l1 x5_1)
       ·
        rw [if_pos c7] at H; have c7b0 : ((rd l0 x5_1) == (rd l1 x5_1)) = true := beq_iff_eq.mpr c7; have c7b1 : ((rd l0 x5_1) != (rd l1 x5_1)) = false := bne_eq_false_iff_eq.mpr c7; clear c7; have H' := Aside0.mk H; clear H; have p389 : 0 ≤ (x5_1 : Int) := dt_; have q389 : x5_1 < (l0.length : Int) := dt_; obtain ⟨ad389, e389, hx389_0⟩ := Kd.at_int HR0.out x5_1 p389 q389; cases e389; replace p389 := eq_true p389; replace q389 := eq_true q389; have p390 : 0 ≤ (x5_1 : Int) := dt_; have q390 : x5_1 < (l1.length : Int) := dt_; obtain ⟨ad390, e390, hx390_0⟩ := Kd.at_int HR1.out x5_1 p390 q390; cases e390; replace p390 := eq_true p390; replace q390 := eq_true q390; go_wp2
        repeat (go_quiet (fail); try go_wp2)
        go_roundg k1
        case measure => have := HK1.out; omega
        case rel => exact ⟨(wrap64 (x5_1 + 1)), ff_, H', ⟨by have := HK1.out; omega⟩, by repeat (first | exact Drawn0.refl _ | apply Drawn0.step)⟩
       ·
        rw [if_neg c7] at H; have c7b0 : ((rd l0 x5_1) == (rd l1 x5_1)) = false := beq_eq_false_iff_ne.mpr c7; have c7b1 : ((rd l0 x5_1) != (rd l1 x5_1)) = true := bne_iff_ne.mpr c7; obtain rfl := Option.some.inj H; have p389 : 0 ≤ (x5_1 : Int) := dt_; have q389 : x5_1 < (l0.length : Int) := dt_; obtain ⟨ad389, e389, hx389_0⟩ := Kd.at_int HR0.out x5_1 p389 q389; cases e389; replace p389 := eq_true p389; replace q389 := eq_true q389; have p390 : 0 ≤ (x5_1 : Int) := dt_; have q390 : x5_1 < (l1.length : Int) := dt_; obtain ⟨ad390, e390, hx390_0⟩ := Kd.at_int HR1.out x5_1 p390 q390; cases e390; replace p390 := eq_true p390; replace q390 := eq_true q390; go_wp2
        repeat (go_quiet (fail); try go_wp2)
        go_ret
        exact ⟨ff_, by repeat (first | exact Drawn0.refl _ | apply Drawn0.step)⟩
      ·
       rw [if_neg c6] at H; exact absurd H (by simp)
     ·
      rw [if_neg c5] at H; exact absurd H (by simp)
    ·
     rw [if_neg c4] at H; have c4b0 : decide (x5_1 < (l0.length : Int)) = false := decide_eq_false c4; clear c4; obtain rfl := Option.some.inj H; go_wp2
     repeat (go_quiet (fail); try go_wp2)
     go_ret
     exact ⟨ff_, by repeat (first | exact Drawn0.refl _ | apply Drawn0.step)⟩
 ·
  rw [if_neg c3] at H; have c3b0 : ((l0.length : Int) == (l1.length : Int)) = false := beq_eq_false_iff_ne.mpr c3; have c3b1 : ((l0.length : Int) != (l1.length : Int)) = true := bne_iff_ne.mpr c3; have c3b2 : (l0.length == l1.length) = false := by first | simpa using c3 | (simp at c3 ⊢; omega)
  obtain rfl := Option.some.inj H; go_enter Try.func11, Try.ntmps11; go_wp2
  repeat (go_quiet (fail); try go_wp2)
  go_ret
  exact ⟨ff_, by repeat (first | exact Drawn0.refl _ | apply Drawn0.step)⟩

-- NOT PRINTED: function 3 (weirlaw11_ScPlays)

end Go.Proofs.Ytemhpbdlonfikaa.P
/- What a function holds: rows and blocks of its own, all apart; what lies below is as it was. -/

namespace Go.Proofs.Ytemhpbdlonfikaa.P
open Go Go.RowKit Go.Proofs.YtemhpbdlonfikaaW.PrintWords Go.Proofs.YtemhpbdlonfikaaW.PrintLast Go.Proofs.YtemhpbdlonfikaaW.PrintMore

/-- A row of one's own: its elements' type, their cells, its value, its length, its cells. -/
structure Rw where
  e : TypeId
  sz : Nat
  v : Value
  n : Nat
  xs : List Value
/-- A row of whole numbers. -/
def ri (e : TypeId) (v : Value) (l : List Int) : Rw := ⟨e, 1, v, l.length, nums .i64 l⟩
structure Bag (w : World) (rows : List Rw) (cells : List (Nat × TypeId × Array Value)) (W : World) : Prop where
  row : ∀ (j : Nat) (r : Rw), rows[j]? = some r → W.ownsRow w.heap.size r.e r.sz r.v r.n r.xs
  apart : ∀ (i j : Nat) (p q : Rw), i ≠ j → rows[i]? = some p → rows[j]? = some q → ∀ k, p.v.ownBlock = some k → q.v.ownBlock ≠ some k
  cell : ∀ c ∈ cells, w.heap.size ≤ c.1 ∧ W.heap[c.1]? = some (.cells c.2.2 c.2.1 (0, 0))
  away : ∀ c ∈ cells, ∀ (j : Nat) (r : Rw), rows[j]? = some r → r.v.ownBlock ≠ some c.1
  below : Below w.heap.size w W

variable {w W : World} {rows : List Rw} {cells : List (Nat × TypeId × Array Value)}

theorem Bag.nil (w : World) : Bag w [] [] w := ⟨by simp, by simp, by simp, by simp, Below.refl _ _⟩
theorem Bag.lt (h : Bag w rows cells W) {j : Nat} {r : Rw} (hj : rows[j]? = some r) {k : Nat} (hk : r.v.ownBlock = some k) : k < W.heap.size := own_lt (h.row j r hj) k hk
theorem Bag.cell_lt (h : Bag w rows cells W) {c : Nat × TypeId × Array Value} (hc : c ∈ cells) : c.1 < W.heap.size := (Array.getElem?_eq_some_iff.1 (h.cell c hc).2).1
theorem Bag.later (h : Bag w rows cells W) {W' : World} (hb : Below W.heap.size W W') : Bag w rows cells W' := by
  refine ⟨fun j r hj => ?_, h.apart, fun c hc => ⟨(h.cell c hc).1, ?_⟩, h.away, ?_⟩
  · exact (h.row j r hj).kept (row := none) ⟨hb.os, hb.tape, hb.output, hb.size, fun k hk _ => hb.block k hk⟩ (by cases hq : r.v.ownBlock with
      | none => exact .inl rfl
      | some g => exact .inr (fun e => by cases e))
  · exact (hb.block c.1 (h.cell_lt hc)).trans (h.cell c hc).2
  · exact below_then h.below h.below.size hb
theorem Bag.drewN (h : Bag w rows cells W) (m : Nat) : Bag w rows cells (W.drewN m) := h.later ⟨rfl, rfl, rfl, Nat.le_refl _, fun _ _ => rfl⟩
theorem Bag.drew (h : Bag w rows cells W) : Bag w rows cells W.drew := h.later (below_drew (Below.refl _ _))

/-- One row was written. -/
theorem Bag.wrote (h : Bag w rows cells W) {j : Nat} {r : Rw} (hj : rows[j]? = some r) {W' : World} {xs : List Value} (hr : W'.ownsRow w.heap.size r.e r.sz r.v r.n xs)
    (hb : Below w.heap.size w W') (hs : W.heap.size ≤ W'.heap.size) (hk : ∀ k, k < W.heap.size → some k ≠ r.v.ownBlock → W'.heap[k]? = W.heap[k]?) (hos : W'.os = W.os) (htape : W'.tape = W.tape) (hout : W'.output = W.output) :
    Bag w (rows.set j { r with xs := xs }) cells W' := by
  have hjl : j < rows.length := (List.getElem?_eq_some_iff.1 hj).1
  have key : ∀ (i : Nat) (p : Rw), (rows.set j { r with xs := xs })[i]? = some p → (i = j ∧ p = { r with xs := xs }) ∨ (i ≠ j ∧ rows[i]? = some p) := fun i p hp => by
    rw [List.getElem?_set] at hp
    split at hp
    · rename_i hij
      exact .inl ⟨hij.symm, (Option.some.inj hp).symm⟩
    · rename_i hij
      exact .inr ⟨fun e => hij e.symm, hp⟩
  have blk : ∀ (i : Nat) (p : Rw), (rows.set j { r with xs := xs })[i]? = some p → ∃ q, rows[i]? = some q ∧ q.v = p.v := fun i p hp => by
    rcases key i p hp with ⟨rfl, rfl⟩ | ⟨_, h1⟩
    · exact ⟨r, hj, rfl⟩
    · exact ⟨p, h1, rfl⟩
  refine ⟨fun i p hp => ?_, fun a b p q hab hp hq k hpk => ?_, fun c hc => ⟨(h.cell c hc).1, ?_⟩, fun c hc i p hp => ?_, hb⟩
  · rcases key i p hp with ⟨rfl, rfl⟩ | ⟨hne, h1⟩
    · exact hr
    · refine (h.row i p h1).kept (row := r.v.ownBlock) ⟨hos, htape, hout, hs, fun k hk1 hk2 => hk k hk1 (fun e => hk2 e)⟩ ?_
      cases hq : p.v.ownBlock with
      | none => exact .inl rfl
      | some g => exact .inr fun e => h.apart i j p r hne h1 hj g hq e.symm
  · obtain ⟨p', hp', e1⟩ := blk a p hp
    obtain ⟨q', hq', e2⟩ := blk b q hq
    rw [← e1] at hpk
    rw [← e2]
    exact h.apart a b p' q' hab hp' hq' k hpk
  · exact (hk c.1 (h.cell_lt hc) (fun e => h.away c hc j r hj e.symm)).trans (h.cell c hc).2
  · obtain ⟨p', hp', e1⟩ := blk i p hp
    rw [← e1]
    exact h.away c hc i p' hp'
/-- One cell of a row is stored. -/
theorem Bag.setRow (h : Bag w rows cells W) {j : Nat} {r : Rw} (hj : rows[j]? = some r) {g cap : Nat} (hv : r.v = .slice (some ⟨g, 0, none⟩) r.n cap) (i : Nat) (x : Value) :
    Bag w (rows.set j { r with xs := r.xs.set i x }) cells (W.setCell ⟨g, i, none⟩ x) := by
  have hr := h.row j r hj
  have hg : r.v.ownBlock = some g := by rw [hv]; rfl
  obtain ⟨h1, h2⟩ := (show W.ownsRow w.heap.size r.e r.sz (.slice (some ⟨g, 0, none⟩) r.n cap) r.n r.xs by rw [← hv]; exact hr).stored i x
  rw [← hv] at h1
  have hw : w.heap.size ≤ g := own_base hr g hg
  exact h.wrote hj h1 (h.below.grown h2 h.below.size (fun k e => by cases e; exact hw)) h2.size (fun k hk hne => h2.block k hk (fun e => hne (by rw [hg]; exact e))) h2.os h2.tape h2.output
/-- A cell of a row. -/
theorem Bag.at (h : Bag w rows cells W) {j : Nat} {r : Rw} (hj : rows[j]? = some r) {g n cap : Nat} (hv : r.v = .slice (some ⟨g, 0, none⟩) n cap) {i : Nat} {x : Value} (hi : r.xs[i]? = some x) :
    W.cell? ⟨g, i, none⟩ = some x ∧ W.frozen? ⟨g, i, none⟩ = false := by
  have hr := h.row j r hj
  constructor
  · have hc := hr.cells (g := g) (by rw [hv]; rfl) i x hi
    rwa [add_plain] at hc
  · rcases hr.2 with ⟨h', _⟩ | ⟨g', cap', cur, h', _, hh, _⟩
    · rw [hv] at h'; cases h'
    · have : g = g' := by rw [hv] at h'; injection h' with h'; injection h' with h'; injection h' with h'
      subst this
      simp [World.frozen?, hh]
/-- A block of cells. -/
theorem Bag.cellOf (h : Bag w rows cells W) {c : Nat × TypeId × Array Value} (hc : c ∈ cells) (i : Nat) (x : Value) (hx : c.2.2[i]? = some x) : W.cell? ⟨c.1, i, none⟩ = some x ∧ W.frozen? ⟨c.1, i, none⟩ = false :=
  ⟨by simp [World.cell?, (h.cell c hc).2, hx], by simp [World.frozen?, (h.cell c hc).2]⟩
theorem Bag.fresh (h : Bag w rows cells W) (t : TypeId) (vs : Array Value) : Bag w rows ((W.heap.size, t, vs) :: cells) (W.alloc (.cells vs t)) := by
  have h1 := h.later (W' := W.alloc (.cells vs t)) ((Below.refl _ W).alloc (Nat.le_refl _) _)
  refine ⟨h1.row, h1.apart, fun c hc => ?_, fun c hc j r hj e => ?_, h1.below⟩
  · rcases List.mem_cons.1 hc with rfl | hc
    · exact ⟨h.below.size, heap_alloc_new W _⟩
    · exact h1.cell c hc
  · rcases List.mem_cons.1 hc with rfl | hc
    · have := h.lt hj e
      exact absurd this (Nat.lt_irrefl _)
    · exact h.away c hc j r hj e
theorem Bag.loseCell {c : Nat × TypeId × Array Value} (h : Bag w rows (c :: cells) W) : Bag w rows cells W :=
  ⟨h.row, h.apart, fun d hd => h.cell d (by simp [hd]), fun d hd => h.away d (by simp [hd]), h.below⟩
end Go.Proofs.Ytemhpbdlonfikaa.P
