-- Printed by xprint.py, a program of this session over the kit's printer.
import Derived.Test.YtohpboblmmbjnaaP0
import Derived.Test.YtohpboblmmbjnaaP1
namespace Go.Proofs.Ytohpboblmmbjnaa.P
open Go.RowKit Go.Proofs.YtohpboblmmbjnaaW.PrintWords Go.Proofs.YtohpboblmmbjnaaW.PrintLast Go.Proofs.YtohpboblmmbjnaaW.PrintMore
attribute [local go_sem] max2_int min2_int max_two min_two max_three min_three max_four min_four   -- for this text's walks alone

-- NOT PRINTED: function 22 (weirlaw03_goes)

-- NOT PRINTED: function 35 (odo_Space_All_1)

-- NOT PRINTED: function 42 (slices_Clip_int_int)

-- NOT PRINTED: function 41 (odo_Space_walk_1)

-- NOT PRINTED: function 36 (odo_Space_walk)

-- NOT PRINTED: function 23 (odo_Space_All)

-- NOT PRINTED: function 24 (odo_Space_From)

-- NOT PRINTED: function 6 (weirlaw03_OdoWalks)

-- NOT PRINTED: function 7 (weirlaw03_OdoCounts)

/-! ### odo_product_at: function 61 -/
def odo_product_at.l0 : Nat → List Int → Int → List Int → Int → Option (List Int)
 | 0, _, _, _, _ => none
 | k + 1, x0, x1, x5, x6 => if x6 ≥ 0 then (if 0 ≤ x6 then (if x6 < (x0.length : Int) then (if (IntKind.u64.wrap (rd x0 x6)) = 0 then (none) else (if x6 < (x5.length : Int) then (odo_product_at.l0 k x0 (IntKind.u64.wrap (Int.tdiv x1 (IntKind.u64.wrap (rd x0 x6)))) (x5.set (x6 : Int).toNat (wrap64 (Int.tmod x1 (IntKind.u64.wrap (rd x0 x6))))) (wrap64 (x6 - 1))) else (none))) else (none)) else (none)) else (some x5)
def odo_product_at.f (k : Nat) (l0 : List Int) (a1 : Int) : Option (List Int) := if 0 ≤ (l0.length : Int) then (if ((l0.length : Int) : Int).toNat ≤ 35184372088832 then (odo_product_at.l0 k l0 a1 (List.replicate ((l0.length : Int) : Int).toNat 0) (wrap64 ((l0.length : Int) - 1))) else (none)) else (none)
theorem odo_product_at.mono_l : ∀ k, (∀ y0 y1 y2 y3, LeO (odo_product_at.l0 k y0 y1 y2 y3) (odo_product_at.l0 (k + 1) y0 y1 y2 y3))
 | 0 => fun _ _ _ _ r h => by simp [odo_product_at.l0] at h
 | k + 1 => by
  have ih0 := odo_product_at.mono_l k
  ·
   intro y0 y1 y2 y3; unfold odo_product_at.l0
   repeat' first
   | (with_reducible exact ih0 _ _ _ _)
   | (with_reducible exact LeO.refl _)
   | (with_reducible exact LeO.none _)
   | (with_reducible refine LeO.ite ?_ ?_)
   | (with_reducible refine LeO.bind ?_ (fun _ => ?_))
   | exact ih0 _ _ _ _
   | exact LeO.none _
   | refine LeO.ite ?_ ?_
   | refine LeO.bind ?_ (fun _ => ?_)
theorem odo_product_at.mono : ∀ a0 a1 k, LeO (odo_product_at.f k a0 a1) (odo_product_at.f (k + 1) a0 a1) := by
 intro a0 a1 k; have ih0 := odo_product_at.mono_l k; unfold odo_product_at.f
 repeat' first
   | (with_reducible exact ih0 _ _ _ _)
   | (with_reducible exact LeO.refl _)
   | (with_reducible exact LeO.none _)
   | (with_reducible refine LeO.ite ?_ ?_)
   | (with_reducible refine LeO.bind ?_ (fun _ => ?_))
   | exact ih0 _ _ _ _
   | exact LeO.none _
   | refine LeO.ite ?_ ?_
   | refine LeO.bind ?_ (fun _ => ?_)
set_option maxHeartbeats 8000000 in
set_option maxRecDepth 100000 in
theorem odo_product_at.calls (k : Nat) (A0 : Option Addr) (c0 : Nat) (l0 : List Int) (a1 : Int) (r : List Int) (w : World) (hr0 : Kd.C (Kd.int .i64) w A0 l0.length l0) (hc0 : l0.length ≤ c0) (h : odo_product_at.f k l0 a1 = some r) :
  Calls Try.prog 61 #[.slice A0 l0.length c0, .int .u64 a1] w fun e w' => ∃ v0_ : Value, e = .returned (v0_) ∧ Kd.R (Kd.int .i64) 3 w' w.heap.size (fun _ => True) v0_ r ∧ Below w.heap.size w w' := by
 have HR0 := Aside0.mk hr0; have HC0 := Aside0.mk hc0; clear hr0 hc0; have HB := Aside0.mk (Below.refl w.heap.size w); have H : (if 0 ≤ (l0.length : Int) then (if ((l0.length : Int) : Int).toNat ≤ 35184372088832 then (odo_product_at.l0 k l0 a1 (List.replicate ((l0.length : Int) : Int).toNat 0) (wrap64 ((l0.length : Int) - 1))) else (none)) else (none)) = some r := h; clear h
 by_cases c3 : 0 ≤ (l0.length : Int)
 ·
  rw [if_pos c3] at H; have c3b0 := eq_true c3; have c3b1 : decide (0 ≤ (l0.length : Int)) = true := decide_eq_true c3; clear c3
  by_cases c4 : ((l0.length : Int) : Int).toNat ≤ 35184372088832
  ·
   rw [if_pos c4] at H; have c4b0 := eq_true c4; have c4b1 : decide (((l0.length : Int) : Int).toNat ≤ 35184372088832) = true := decide_eq_true c4; clear c4; obtain ⟨y247, hy247⟩ : ∃ y_ : List Int, y_ = (List.replicate ((l0.length : Int) : Int).toNat 0) := ⟨_, rfl⟩; replace H : (odo_product_at.l0 k l0 a1 y247 (wrap64 ((l0.length : Int) - 1))) = some r := by first | (rw [hy247]; with_reducible exact H) | (have H2_ := (Option.bind_some _ _).symm.trans H; rw [hy247]; with_reducible exact H2_) | (have H2_ := (Option.bind_some _ _).symm.trans H; with_reducible exact H2_) | with_reducible exact H | (rw [hy247]; exact H) | exact H
   have Ny247 := Aside0.mk hy247; clear hy247; have H' := Aside0.mk H; clear H; go_enter Try.func61, Try.ntmps61
   go_wp2_with (first | ((with_reducible refine gate_dst (N := 9) rfl ?_); refine Kd.R_make (Kd.int .i64) _ 3 rfl (N := 9) rfl 22 _ _ rfl (l0.length : Int) rfl rfl Try.underlying22 (.int .i64 0) 8 info3 rfl (by decide) (by omega) 0 (ok := fun _ => True) (okp := fun _ => True) rfl (fun _ hk => hk) trivial (dt_) (Nat.le_trans (Nat.mul_le_mul_right _ (dt_ : (l0.length : Int).toNat ≤ 35184372088832)) (by omega)) (Below.refl _ _) (Nat.le_refl _) ?_; intro v248 w5 ho6 hb hg_ hnew_; clear hg_ hnew_; (first | rw [← Ny247.out] at ho6 | (simp only [Int.reduceToNat] at ho6; rw [← Ny247.out] at ho6)); have HO249 := Aside0.mk (Kd.R_lower ho6 (below_size bel_)); replace HB := bs_ w hb; clear hb ho6))
   go_loopg [1, 6] k (fun kq v1 v6 w' => ∃ (x1_1 : Int) (x5_1 : List Int) (x6_1 : Int), v1 = .int .u64 x1_1 ∧ v6 = .int .i64 x6_1 ∧ Aside0 (odo_product_at.l0 kq l0 x1_1 x5_1 x6_1 = some r) ∧ Aside0 (kq ≤ k) ∧ Aside0 (Kd.R (Kd.int .i64) 3 w' w.heap.size (fun _ => True) v248 x5_1) ∧ Aside0 (Below w.heap.size w w'))
   case atStart => exact ⟨(a1), (y247), (wrap64 ((l0.length : Int) - 1)), ff_, ff_, H', ⟨Nat.le_refl _⟩, ⟨rs_ HO249⟩, ⟨bel_⟩⟩
   case round =>
    clear H'; (try clear c3b0); (try clear c3b1); (try clear c4b0); (try clear c4b1); obtain ⟨x1_1, x5_1, x6_1, rfl, rfl, HA, HK1, HO_5, HB⟩ := hrel
    cases gk with
    | zero => exact absurd HA.out (by simp [odo_product_at.l0])
    | succ k1 =>
     have H := HA.out; clear HA; simp only [odo_product_at.l0] at H
     by_cases c7 : x6_1 ≥ 0
     ·
      rw [if_pos c7] at H; have c7b0 : decide (0 ≤ x6_1) = true := decide_eq_true c7; clear c7
      by_cases c8 : 0 ≤ x6_1
      ·
       rw [if_pos c8] at H; have c8b0 : decide (0 ≤ x6_1) = true := decide_eq_true c8; clear c8
       by_cases c9 : x6_1 < (l0.length : Int)
       ·
        rw [if_pos c9] at H; have c9b0 : decide (x6_1 < (l0.length : Int)) = true := decide_eq_true c9; clear c9
        by_cases c10 : (IntKind.u64.wrap (rd l0 x6_1)) = 0
        ·
         rw [if_pos c10] at H; exact absurd H (by simp)
        ·
         rw [if_neg c10] at H; have c10b0 : ((IntKind.u64.wrap (rd l0 x6_1)) == 0) = false := beq_eq_false_iff_ne.mpr c10; have c10b1 : ((IntKind.u64.wrap (rd l0 x6_1)) != 0) = true := bne_iff_ne.mpr c10
         by_cases c11 : x6_1 < (x5_1.length : Int)
         ·
          rw [if_pos c11] at H; have c11b0 : decide (x6_1 < (x5_1.length : Int)) = true := decide_eq_true c11; clear c11; obtain ⟨y251, hy251⟩ : ∃ y_ : List Int, y_ = (x5_1.set (x6_1 : Int).toNat (wrap64 (Int.tmod x1_1 (IntKind.u64.wrap (rd l0 x6_1))))) := ⟨_, rfl⟩; replace H : (odo_product_at.l0 k1 l0 (IntKind.u64.wrap (Int.tdiv x1_1 (IntKind.u64.wrap (rd l0 x6_1)))) y251 (wrap64 (x6_1 - 1))) = some r := by first | (rw [hy251]; with_reducible exact H) | (have H2_ := (Option.bind_some _ _).symm.trans H; rw [hy251]; with_reducible exact H2_) | (have H2_ := (Option.bind_some _ _).symm.trans H; with_reducible exact H2_) | with_reducible exact H | (rw [hy251]; exact H) | exact H
          have Ny251 := Aside0.mk hy251; clear hy251; have H' := Aside0.mk H; clear H; have p250 : 0 ≤ (x6_1 : Int) := dt_; have q250 : x6_1 < (l0.length : Int) := dt_; obtain ⟨ad250, e250, hx250_0⟩ := Kd.at_int HR0.out x6_1 p250 q250; cases e250; replace hx250_0 := hx_ HB hx250_0; replace p250 := eq_true p250; replace q250 := eq_true q250; have p12 : 0 ≤ (x6_1 : Int) := dt_; have q12 : (x6_1 : Int) < ((x5_1.length : Int) : Int) := dt_; obtain ⟨go12, co12, eo12, gb12, gl12, cl12, HG12⟩ := Kd.R_form HO_5.out (by omega)
          (first | cases eo12 | (injection eo12 with ea_ en_ ec_; (first | subst ea_ | (injection ea_ with ea_; subst ea_)); subst ec_; clear en_))
          have GB12 := Aside0.mk gb12; have GG12 := Aside0.mk HG12; clear gb12 gl12 HG12; obtain ⟨hx12_0, hf12_0⟩ := Kd.R_celln 0 HO_5.out (x6_1 : Int) p12 q12; replace p12 := eq_true p12; replace q12 := eq_true q12; have HP13 := Kd.R_putg HO_5.out (x6_1 : Int) (wrap64 (Int.tmod x1_1 (IntKind.u64.wrap (rd l0 x6_1))))
          go_wp2_with (first | ((with_reducible refine gate_store (t := 3) (p := 27) rfl ?_); refine st_ (t := 3) (p := 27) (w1 := (wr.setCell ⟨go12, (x6_1 : Int).toNat, none⟩ (.int .i64 (wrap64 (Int.tmod x1_1 (IntKind.u64.wrap (rd l0 x6_1))))))) ?_; intro w14 hw; have hg : wr.grownBy w14 (some go12) := (by rw [hw]; exact HP13.2); have hp_ : Kd.R (Kd.int .i64) 3 w14 w.heap.size (fun _ => True) (.slice (some ⟨go12, 0, none⟩) x5_1.length co12) y251 := (by rw [hw, Ny251.out]; exact HP13.1); clear HP13; replace HO_5 := Aside0.mk (hp_); replace HB := Aside0.mk ((by rw [hw]; exact below_set (HB.out) GB12.out : Below w.heap.size w w14)); clear hg hw hp_; have p252 : 0 ≤ (x6_1 : Int) := dt_; have q252 : x6_1 < (l0.length : Int) := dt_; obtain ⟨ad252, e252, hx252_0⟩ := Kd.at_int HR0.out x6_1 p252 q252; obtain rfl : ad250 = ad252 := (by injection e252); replace hx252_0 := hx_ HB hx252_0; replace p252 := eq_true p252; replace q252 := eq_true q252))
          go_roundg k1
          case measure => have := HK1.out; omega
          case rel => exact ⟨(IntKind.u64.wrap (Int.tdiv x1_1 (IntKind.u64.wrap (rd l0 x6_1)))), (y251), (wrap64 (x6_1 - 1)), ff_, ff_, H', ⟨by have := HK1.out; omega⟩, ⟨rs_ HO_5⟩, ⟨bel_⟩⟩
         ·
          rw [if_neg c11] at H; exact absurd H (by simp)
       ·
        rw [if_neg c9] at H; exact absurd H (by simp)
      ·
       rw [if_neg c8] at H; exact absurd H (by simp)
     ·
      rw [if_neg c7] at H; have c7b0 : decide (0 ≤ x6_1) = false := decide_eq_false c7; clear c7; obtain rfl := Option.some.inj H; go_wp2
      go_ret
      exact ⟨_, ee_, rs_ HO_5, bel_⟩
  ·
   rw [if_neg c4] at H; exact absurd H (by simp)
 ·
  rw [if_neg c3] at H; exact absurd H (by simp)

/-! ### slices_Index_odo_product_int: function 67 -/
def slices_Index_odo_product_int.l0 : Nat → List Int → Int → Int → Int → Option (Int)
 | 0, _, _, _, _ => none
 | k + 1, x0, x1, x7, x8 => if x8 < x7 then (if 0 ≤ x8 then (if x8 < (x0.length : Int) then (if x1 = (rd x0 x8) then (some x8) else (slices_Index_odo_product_int.l0 k x0 x1 x7 (wrap64 (x8 + 1)))) else (none)) else (none)) else (some (-1))
def slices_Index_odo_product_int.f (k : Nat) (l0 : List Int) (a1 : Int) : Option (Int) := slices_Index_odo_product_int.l0 k l0 a1 (l0.length : Int) 0
theorem slices_Index_odo_product_int.mono_l : ∀ k, (∀ y0 y1 y2 y3, LeO (slices_Index_odo_product_int.l0 k y0 y1 y2 y3) (slices_Index_odo_product_int.l0 (k + 1) y0 y1 y2 y3))
 | 0 => fun _ _ _ _ r h => by simp [slices_Index_odo_product_int.l0] at h
 | k + 1 => by
  have ih0 := slices_Index_odo_product_int.mono_l k
  ·
   intro y0 y1 y2 y3; unfold slices_Index_odo_product_int.l0
   repeat' first
   | (with_reducible exact ih0 _ _ _ _)
   | (with_reducible exact LeO.refl _)
   | (with_reducible exact LeO.none _)
   | (with_reducible refine LeO.ite ?_ ?_)
   | (with_reducible refine LeO.bind ?_ (fun _ => ?_))
   | exact ih0 _ _ _ _
   | exact LeO.none _
   | refine LeO.ite ?_ ?_
   | refine LeO.bind ?_ (fun _ => ?_)
theorem slices_Index_odo_product_int.mono : ∀ a0 a1 k, LeO (slices_Index_odo_product_int.f k a0 a1) (slices_Index_odo_product_int.f (k + 1) a0 a1) := by
 intro a0 a1 k; have ih0 := slices_Index_odo_product_int.mono_l k; unfold slices_Index_odo_product_int.f
 repeat' first
   | (with_reducible exact ih0 _ _ _ _)
   | (with_reducible exact LeO.refl _)
   | (with_reducible exact LeO.none _)
   | (with_reducible refine LeO.ite ?_ ?_)
   | (with_reducible refine LeO.bind ?_ (fun _ => ?_))
   | exact ih0 _ _ _ _
   | exact LeO.none _
   | refine LeO.ite ?_ ?_
   | refine LeO.bind ?_ (fun _ => ?_)
set_option maxHeartbeats 8000000 in
set_option maxRecDepth 100000 in
theorem slices_Index_odo_product_int.calls (k : Nat) (A0 : Option Addr) (c0 : Nat) (l0 : List Int) (a1 : Int) (r : Int) (w : World) (hr0 : Kd.C (Kd.int .i64) w A0 l0.length l0) (hc0 : l0.length ≤ c0) (h : slices_Index_odo_product_int.f k l0 a1 = some r) :
  Calls Try.prog 67 #[.slice A0 l0.length c0, .int .i64 a1] w fun e w' => e = .returned (.int .i64 r) ∧ Drawn0 w w' := by
 have HR0 := Aside0.mk hr0; have HC0 := Aside0.mk hc0; clear hr0 hc0; have H : (slices_Index_odo_product_int.l0 k l0 a1 (l0.length : Int) 0) = some r := h; clear h; have H' := Aside0.mk H; clear H; go_enter Try.func67, Try.ntmps67; go_wp2
 go_loopg [8] k (fun kq v8 w' => ∃ (x8_1 : Int), v8 = .int .i64 x8_1 ∧ Aside0 (slices_Index_odo_product_int.l0 kq l0 a1 (l0.length : Int) x8_1 = some r) ∧ Aside0 (kq ≤ k) ∧ Drawn0 w w')
 case atStart => exact ⟨(0), ff_, H', ⟨Nat.le_refl _⟩, by repeat (first | exact Drawn0.refl _ | apply Drawn0.step)⟩
 case round =>
  clear H'; obtain ⟨x8_1, rfl, HA, HK1, ⟨m1, rfl⟩⟩ := hrel
  cases gk with
  | zero => exact absurd HA.out (by simp [slices_Index_odo_product_int.l0])
  | succ k1 =>
   have H := HA.out; clear HA; simp only [slices_Index_odo_product_int.l0] at H
   by_cases c3 : x8_1 < (l0.length : Int)
   ·
    rw [if_pos c3] at H; have c3b0 : decide (x8_1 < (l0.length : Int)) = true := decide_eq_true c3; clear c3
    by_cases c4 : 0 ≤ x8_1
    ·
     rw [if_pos c4] at H; have c4b0 : decide (0 ≤ x8_1) = true := decide_eq_true c4; clear c4
     by_cases c5 : x8_1 < (l0.length : Int)
     ·
      rw [if_pos c5] at H; have c5b0 : decide (x8_1 < (l0.length : Int)) = true := decide_eq_true c5; clear c5
      by_cases c6 : a1 = (rd l0 x8_1)
      ·
       rw [if_pos c6] at H; have c6b0 : (a1 == (rd l0 x8_1)) = true := beq_iff_eq.mpr c6; have c6b1 : (a1 != (rd l0 x8_1)) = false := bne_eq_false_iff_eq.mpr c6; clear c6; obtain rfl := Option.some.inj H; have p253 : 0 ≤ (x8_1 : Int) := dt_; have q253 : x8_1 < (l0.length : Int) := dt_; obtain ⟨ad253, e253, hx253_0⟩ := Kd.at_int HR0.out x8_1 p253 q253; cases e253; replace p253 := eq_true p253; replace q253 := eq_true q253; go_wp2
       go_ret
       exact ⟨ff_, by repeat (first | exact Drawn0.refl _ | apply Drawn0.step)⟩
      ·
       rw [if_neg c6] at H; have c6b0 : (a1 == (rd l0 x8_1)) = false := beq_eq_false_iff_ne.mpr c6; have c6b1 : (a1 != (rd l0 x8_1)) = true := bne_iff_ne.mpr c6; have H' := Aside0.mk H; clear H; have p253 : 0 ≤ (x8_1 : Int) := dt_; have q253 : x8_1 < (l0.length : Int) := dt_; obtain ⟨ad253, e253, hx253_0⟩ := Kd.at_int HR0.out x8_1 p253 q253; cases e253; replace p253 := eq_true p253; replace q253 := eq_true q253; go_wp2
       go_roundg k1
       case measure => have := HK1.out; omega
       case rel => exact ⟨(wrap64 (x8_1 + 1)), ff_, H', ⟨by have := HK1.out; omega⟩, by repeat (first | exact Drawn0.refl _ | apply Drawn0.step)⟩
     ·
      rw [if_neg c5] at H; exact absurd H (by simp)
    ·
     rw [if_neg c4] at H; exact absurd H (by simp)
   ·
    rw [if_neg c3] at H; have c3b0 : decide (x8_1 < (l0.length : Int)) = false := decide_eq_false c3; clear c3; obtain rfl := Option.some.inj H; go_wp2
    go_ret
    exact ⟨ff_, by repeat (first | exact Drawn0.refl _ | apply Drawn0.step)⟩

/-! ### slices_Contains_odo_product_int: function 66 -/
def slices_Contains_odo_product_int.f (k : Nat) (l0 : List Int) (a1 : Int) : Option (Bool) := (slices_Index_odo_product_int.f k l0 a1).bind fun t254 => (some (decide (t254 ≥ 0)))
theorem slices_Contains_odo_product_int.mono : ∀ a0 a1 k, LeO (slices_Contains_odo_product_int.f k a0 a1) (slices_Contains_odo_product_int.f (k + 1) a0 a1) := by
 intro a0 a1 k; unfold slices_Contains_odo_product_int.f
 repeat' first
   | (with_reducible exact slices_Index_odo_product_int.mono _ _ _)
   | (with_reducible exact LeO.refl _)
   | (with_reducible exact LeO.none _)
   | (with_reducible refine LeO.ite ?_ ?_)
   | (with_reducible refine LeO.bind ?_ (fun _ => ?_))
   | exact slices_Index_odo_product_int.mono _ _ _
   | exact LeO.none _
   | refine LeO.ite ?_ ?_
   | refine LeO.bind ?_ (fun _ => ?_)
set_option maxHeartbeats 8000000 in
set_option maxRecDepth 100000 in
theorem slices_Contains_odo_product_int.calls (k : Nat) (A0 : Option Addr) (c0 : Nat) (l0 : List Int) (a1 : Int) (r : Bool) (w : World) (hr0 : Kd.C (Kd.int .i64) w A0 l0.length l0) (hc0 : l0.length ≤ c0) (h : slices_Contains_odo_product_int.f k l0 a1 = some r) :
  Calls Try.prog 66 #[.slice A0 l0.length c0, .int .i64 a1] w fun e w' => e = .returned (.bool r) ∧ Drawn0 w w' := by
 have HR0 := Aside0.mk hr0; have HC0 := Aside0.mk hc0; clear hr0 hc0; have H : ((slices_Index_odo_product_int.f k l0 a1).bind fun t254 => (some (decide (t254 ≥ 0)))) = some r := h; clear h; replace H := Option.bind_eq_some_iff.mp H; obtain ⟨t254, A30, H⟩ := H; replace H : (some (decide (t254 ≥ 0))) = some r := H; have A3 := Aside0.mk A30; clear A30; obtain rfl := Option.some.inj H; go_enter Try.func66, Try.ntmps66
 go_wp2_with (first | ((with_reducible refine gate_callee (f := 67) rfl ?_); refine goesL_ (some 7) rfl rfl Try.func67 (by kernel_rfl) rfl #[.slice A0 l0.length c0, .int .i64 a1] rfl ag_ ?_; (with_reducible refine (slices_Index_odo_product_int.calls k _ _ l0 a1 t254 _ ?side1 ?side2 A3.out).mono ?_); (case side1 => repeat (first | exact HR0.out | (with_reducible refine Kd.C_alloc ?_ _) | (with_reducible refine Kd.C_drewN ?_ _) | (with_reducible refine Kd.C_drew ?_))); (case side2 => exact HC0.out); rintro e w' ⟨rfl, ⟨nd, rfl⟩⟩; refine ⟨_, rfl, ?_⟩))
 go_ret
 exact ⟨ff_, by repeat (first | exact Drawn0.refl _ | apply Drawn0.step)⟩

/-! ### odo_product_count: function 62 -/
def odo_product_count.l0 : Nat → Int → List Int → Int → Int → Option (Int × Bool)
 | 0, _, _, _, _ => none
 | k + 1, x4, x11, x12, x13 => if x13 < x12 then (if 0 ≤ x13 then (if x13 < (x11.length : Int) then ((bits_Mul64.f x4 (IntKind.u64.wrap (rd x11 x13))).bind fun bt257 => (if bt257.1 > 0 then (some (0, false)) else (odo_product_count.l0 k bt257.2 x11 x12 (wrap64 (x13 + 1))))) else (none)) else (none)) else (some (x4, true))
def odo_product_count.f (k : Nat) (l0 : List Int) : Option (Int × Bool) := (slices_Contains_odo_product_int.f k l0 0).bind fun t255 => (if t255 = true then (some (0, true)) else (odo_product_count.l0 k 1 l0 (l0.length : Int) 0))
theorem odo_product_count.mono_l : ∀ k, (∀ y0 y1 y2 y3, LeO (odo_product_count.l0 k y0 y1 y2 y3) (odo_product_count.l0 (k + 1) y0 y1 y2 y3))
 | 0 => fun _ _ _ _ r h => by simp [odo_product_count.l0] at h
 | k + 1 => by
  have ih0 := odo_product_count.mono_l k
  ·
   intro y0 y1 y2 y3; unfold odo_product_count.l0
   repeat' first
   | (with_reducible exact ih0 _ _ _ _)
   | (with_reducible exact slices_Contains_odo_product_int.mono _ _ _)
   | (with_reducible exact LeO.refl _)
   | (with_reducible exact LeO.none _)
   | (with_reducible refine LeO.ite ?_ ?_)
   | (with_reducible refine LeO.bind ?_ (fun _ => ?_))
   | exact ih0 _ _ _ _
   | exact slices_Contains_odo_product_int.mono _ _ _
   | exact LeO.none _
   | refine LeO.ite ?_ ?_
   | refine LeO.bind ?_ (fun _ => ?_)
theorem odo_product_count.mono : ∀ a0 k, LeO (odo_product_count.f k a0) (odo_product_count.f (k + 1) a0) := by
 intro a0 k; have ih0 := odo_product_count.mono_l k; unfold odo_product_count.f
 repeat' first
   | (with_reducible exact ih0 _ _ _ _)
   | (with_reducible exact slices_Contains_odo_product_int.mono _ _ _)
   | (with_reducible exact LeO.refl _)
   | (with_reducible exact LeO.none _)
   | (with_reducible refine LeO.ite ?_ ?_)
   | (with_reducible refine LeO.bind ?_ (fun _ => ?_))
   | exact ih0 _ _ _ _
   | exact slices_Contains_odo_product_int.mono _ _ _
   | exact LeO.none _
   | refine LeO.ite ?_ ?_
   | refine LeO.bind ?_ (fun _ => ?_)
set_option maxHeartbeats 8000000 in
set_option maxRecDepth 100000 in
theorem odo_product_count.calls (k : Nat) (A0 : Option Addr) (c0 : Nat) (l0 : List Int) (r1 : Int) (r2 : Bool) (w : World) (hr0 : Kd.C (Kd.int .i64) w A0 l0.length l0) (hc0 : l0.length ≤ c0) (h : odo_product_count.f k l0 = some (r1, r2)) :
  Calls Try.prog 62 #[.slice A0 l0.length c0] w fun e w' => e = .returned (.tuple #[.int .u64 r1, .bool r2]) ∧ Drawn0 w w' := by
 have HR0 := Aside0.mk hr0; have HC0 := Aside0.mk hc0; clear hr0 hc0; have H : ((slices_Contains_odo_product_int.f k l0 0).bind fun t255 => (if t255 = true then (some (0, true)) else (odo_product_count.l0 k 1 l0 (l0.length : Int) 0))) = some (r1, r2) := h; clear h; replace H := Option.bind_eq_some_iff.mp H; obtain ⟨t255, A20, H⟩ := H; replace H : (if t255 = true then (some (0, true)) else (odo_product_count.l0 k 1 l0 (l0.length : Int) 0)) = some (r1, r2) := H; have A2 := Aside0.mk A20; clear A20
 by_cases c3 : t255 = true
 ·
  subst c3; have H1 : (some (0, true)) = some (r1, r2) := by rw [if_pos rfl] at H; exact H
  clear H; have H := H1; clear H1; simp only [Option.some.injEq, Prod.mk.injEq] at H; obtain ⟨rfl, rfl⟩ := H; go_enter Try.func62, Try.ntmps62
  go_wp2_with (first | ((with_reducible refine gate_callee (f := 66) rfl ?_); refine goesL_ (some 10) rfl rfl Try.func66 (by kernel_rfl) rfl #[.slice A0 l0.length c0, .int .i64 0] rfl ag_ ?_; (with_reducible refine (slices_Contains_odo_product_int.calls k _ _ l0 0 true _ ?side1 ?side2 A2.out).mono ?_); (case side1 => repeat (first | exact HR0.out | (with_reducible refine Kd.C_alloc ?_ _) | (with_reducible refine Kd.C_drewN ?_ _) | (with_reducible refine Kd.C_drew ?_))); (case side2 => exact HC0.out); rintro e w' ⟨rfl, ⟨nd, rfl⟩⟩; refine ⟨_, rfl, ?_⟩))
  go_ret2
  exact ⟨ff_, by repeat (first | exact Drawn0.refl _ | apply Drawn0.step)⟩
 ·
  replace c3 := Bool.eq_false_iff.mpr c3; subst c3; have H1 : (odo_product_count.l0 k 1 l0 (l0.length : Int) 0) = some (r1, r2) := by rw [if_neg (show ¬ (false = true) by decide)] at H; exact H
  clear H; have H := H1; clear H1; have H' := Aside0.mk H; clear H; go_enter Try.func62, Try.ntmps62
  go_wp2_with (first | ((with_reducible refine gate_callee (f := 66) rfl ?_); refine goesL_ (some 10) rfl rfl Try.func66 (by kernel_rfl) rfl #[.slice A0 l0.length c0, .int .i64 0] rfl ag_ ?_; (with_reducible refine (slices_Contains_odo_product_int.calls k _ _ l0 0 false _ ?side1 ?side2 A2.out).mono ?_); (case side1 => repeat (first | exact HR0.out | (with_reducible refine Kd.C_alloc ?_ _) | (with_reducible refine Kd.C_drewN ?_ _) | (with_reducible refine Kd.C_drew ?_))); (case side2 => exact HC0.out); rintro e w' ⟨rfl, ⟨nd, rfl⟩⟩; refine ⟨_, rfl, ?_⟩))
  try simp only [Act.put, List.setIfInBounds_toArray, List.set_cons_zero, List.set_cons_succ]
  go_loopg [4, 13] k (fun kq v4 v13 w' => ∃ (x4_1 : Int) (x13_1 : Int), v4 = .int .u64 x4_1 ∧ v13 = .int .i64 x13_1 ∧ Aside0 (odo_product_count.l0 kq x4_1 l0 (l0.length : Int) x13_1 = some (r1, r2)) ∧ Aside0 (kq ≤ k) ∧ Drawn0 w w')
  case atStart => exact ⟨(1), (0), ff_, ff_, H', ⟨Nat.le_refl _⟩, by repeat (first | exact Drawn0.refl _ | apply Drawn0.step)⟩
  case round =>
   clear H'; (try clear c3); obtain ⟨x4_1, x13_1, rfl, rfl, HA, HK1, ⟨m1, rfl⟩⟩ := hrel
   cases gk with
   | zero => exact absurd HA.out (by simp [odo_product_count.l0])
   | succ k1 =>
    have H := HA.out; clear HA; simp only [odo_product_count.l0] at H
    by_cases c4 : x13_1 < (l0.length : Int)
    ·
     rw [if_pos c4] at H; have c4b0 : decide (x13_1 < (l0.length : Int)) = true := decide_eq_true c4; clear c4
     by_cases c5 : 0 ≤ x13_1
     ·
      rw [if_pos c5] at H; have c5b0 : decide (0 ≤ x13_1) = true := decide_eq_true c5; clear c5
      by_cases c6 : x13_1 < (l0.length : Int)
      ·
       rw [if_pos c6] at H; have c6b0 : decide (x13_1 < (l0.length : Int)) = true := decide_eq_true c6; clear c6; replace H := Option.bind_eq_some_iff.mp H; obtain ⟨⟨t257, t258⟩, A70, H⟩ := H; replace H : (if t257 > 0 then (some (0, false)) else (odo_product_count.l0 k1 t258 l0 (l0.length : Int) (wrap64 (x13_1 + 1)))) = some (r1, r2) := H; have A7 := Aside0.mk A70; clear A70
       by_cases c8 : t257 > 0
       ·
        rw [if_pos c8] at H; have c8b0 : decide (0 < t257) = true := decide_eq_true c8; clear c8; simp only [Option.some.injEq, Prod.mk.injEq] at H; obtain ⟨rfl, rfl⟩ := H; have p256 : 0 ≤ (x13_1 : Int) := dt_; have q256 : x13_1 < (l0.length : Int) := dt_; obtain ⟨ad256, e256, hx256_0⟩ := Kd.at_int HR0.out x13_1 p256 q256; cases e256; replace p256 := eq_true p256; replace q256 := eq_true q256
        go_wp2_with (first | ((with_reducible refine gate_callee (f := 44) rfl ?_); refine goesL_ (some 21) rfl rfl Try.func44 (by kernel_rfl) rfl #[.int .u64 x4_1, .int .u64 (IntKind.u64.wrap (rd l0 x13_1))] rfl ag_ ?_; (with_reducible refine (bits_Mul64.calls x4_1 (IntKind.u64.wrap (rd l0 x13_1)) t257 t258 _ A7.out).mono ?_); rintro e w' ⟨rfl, ⟨nd, rfl⟩⟩; refine ⟨_, rfl, ?_⟩))
        go_ret2
        exact ⟨ff_, by repeat (first | exact Drawn0.refl _ | apply Drawn0.step)⟩
       ·
        rw [if_neg c8] at H; have c8b0 : decide (0 < t257) = false := decide_eq_false c8; clear c8; have H' := Aside0.mk H; clear H; have p256 : 0 ≤ (x13_1 : Int) := dt_; have q256 : x13_1 < (l0.length : Int) := dt_; obtain ⟨ad256, e256, hx256_0⟩ := Kd.at_int HR0.out x13_1 p256 q256; cases e256; replace p256 := eq_true p256; replace q256 := eq_true q256
        go_wp2_with (first | ((with_reducible refine gate_callee (f := 44) rfl ?_); refine goesL_ (some 21) rfl rfl Try.func44 (by kernel_rfl) rfl #[.int .u64 x4_1, .int .u64 (IntKind.u64.wrap (rd l0 x13_1))] rfl ag_ ?_; (with_reducible refine (bits_Mul64.calls x4_1 (IntKind.u64.wrap (rd l0 x13_1)) t257 t258 _ A7.out).mono ?_); rintro e w' ⟨rfl, ⟨nd, rfl⟩⟩; refine ⟨_, rfl, ?_⟩))
        go_roundg k1
        case measure => have := HK1.out; omega
        case rel => exact ⟨(t258), (wrap64 (x13_1 + 1)), ff_, ff_, H', ⟨by have := HK1.out; omega⟩, by repeat (first | exact Drawn0.refl _ | apply Drawn0.step)⟩
      ·
       rw [if_neg c6] at H; exact absurd H (by simp)
     ·
      rw [if_neg c5] at H; exact absurd H (by simp)
    ·
     rw [if_neg c4] at H; have c4b0 : decide (x13_1 < (l0.length : Int)) = false := decide_eq_false c4; clear c4; simp only [Option.some.injEq, Prod.mk.injEq] at H; obtain ⟨rfl, rfl⟩ := H; go_wp2
     go_ret2
     exact ⟨ff_, by repeat (first | exact Drawn0.refl _ | apply Drawn0.step)⟩

/-! ### odo_product_first: function 63 -/
def odo_product_first.f (k : Nat) (l0 : List Int) : Option (List Int × Bool) := if 0 ≤ (l0.length : Int) then (if ((l0.length : Int) : Int).toNat ≤ 35184372088832 then ((slices_Contains_odo_product_int.f k l0 0).bind fun t262 => (some ((List.replicate ((l0.length : Int) : Int).toNat 0), !t262))) else (none)) else (none)
theorem odo_product_first.mono : ∀ a0 k, LeO (odo_product_first.f k a0) (odo_product_first.f (k + 1) a0) := by
 intro a0 k; unfold odo_product_first.f
 repeat' first
   | (with_reducible exact slices_Contains_odo_product_int.mono _ _ _)
   | (with_reducible exact LeO.refl _)
   | (with_reducible exact LeO.none _)
   | (with_reducible refine LeO.ite ?_ ?_)
   | (with_reducible refine LeO.bind ?_ (fun _ => ?_))
   | exact slices_Contains_odo_product_int.mono _ _ _
   | exact LeO.none _
   | refine LeO.ite ?_ ?_
   | refine LeO.bind ?_ (fun _ => ?_)
def odo_product_first.T1 : Bool × List (List Nat × List Nat) := (true, [([], []), ([0], [0]), ([1, 1], [1]), ([], []), ([3], [3]), ([4], [4]), ([2, 4, 0, 1, 2], [2]), ([5, 6, 0, 1, 2, 3, 4, 5, 6], [5])])
def odo_product_first.B1 : List Nat := [0, 1, 3, 0, 8, 24, 31, 127]
theorem odo_product_first.tab1 : rtab .any (opsOf Try.f63 1) = odo_product_first.T1 := by kernel_rfl
theorem odo_product_first.bits1 : waitsOk odo_product_first.T1.2 odo_product_first.B1 = true := by kernel_rfl
set_option maxHeartbeats 8000000 in
set_option maxRecDepth 100000 in
theorem odo_product_first.calls (k : Nat) (A0 : Option Addr) (c0 : Nat) (l0 : List Int) (r1 : List Int) (r2 : Bool) (w : World) (hr0 : Kd.C (Kd.int .i64) w A0 l0.length l0) (hc0 : l0.length ≤ c0) (h : odo_product_first.f k l0 = some (r1, r2)) :
  Calls Try.prog 63 #[.slice A0 l0.length c0] w fun e w' => ∃ v0_ : Value, e = .returned (.tuple #[v0_, .bool r2]) ∧ Kd.R (Kd.int .i64) 3 w' w.heap.size (fun _ => True) v0_ r1 ∧ Below w.heap.size w w' := by
 have HR0 := Aside0.mk hr0; have HC0 := Aside0.mk hc0; clear hr0 hc0; have HB := Aside0.mk (Below.refl w.heap.size w); have H : (if 0 ≤ (l0.length : Int) then (if ((l0.length : Int) : Int).toNat ≤ 35184372088832 then ((slices_Contains_odo_product_int.f k l0 0).bind fun t262 => (some ((List.replicate ((l0.length : Int) : Int).toNat 0), !t262))) else (none)) else (none)) = some (r1, r2) := h; clear h
 by_cases c2 : 0 ≤ (l0.length : Int)
 ·
  rw [if_pos c2] at H; have c2b0 := eq_true c2; have c2b1 : decide (0 ≤ (l0.length : Int)) = true := decide_eq_true c2; clear c2
  by_cases c3 : ((l0.length : Int) : Int).toNat ≤ 35184372088832
  ·
   rw [if_pos c3] at H; have c3b0 := eq_true c3; have c3b1 : decide (((l0.length : Int) : Int).toNat ≤ 35184372088832) = true := decide_eq_true c3; clear c3; obtain ⟨y259, hy259⟩ : ∃ y_ : List Int, y_ = (List.replicate ((l0.length : Int) : Int).toNat 0) := ⟨_, rfl⟩; replace H : ((slices_Contains_odo_product_int.f k l0 0).bind fun t262 => (some (y259, !t262))) = some (r1, r2) := by first | (rw [hy259]; with_reducible exact H) | (have H2_ := (Option.bind_some _ _).symm.trans H; rw [hy259]; with_reducible exact H2_) | (have H2_ := (Option.bind_some _ _).symm.trans H; with_reducible exact H2_) | with_reducible exact H | (rw [hy259]; exact H) | exact H
   have Ny259 := Aside0.mk hy259; clear hy259; replace H := Option.bind_eq_some_iff.mp H; obtain ⟨t262, A40, H⟩ := H; replace H : (some (y259, !t262)) = some (r1, r2) := H; have A4 := Aside0.mk A40; clear A40; simp only [Option.some.injEq, Prod.mk.injEq] at H; obtain ⟨rfl, rfl⟩ := H; go_enter Try.func63, Try.ntmps63
   try go_wp2
   replace HB := Aside0.mk (below_drew1 HB.out); refine start_ (n := 8) (S := fun w' => True) (ds := []) #[false, false, false, false, false, false, false, false] (by kernel_rfl) rfl rfl trivial (fun hHeld => ?_); refine with_tabW odo_product_first.tab1 odo_product_first.bits1 (fun HT_ HW_ => ?_)
   generalize w.drew = w5 at HB hHeld ⊢
   refine pure_ (i := 0) (N := some 4) (v := ?_) (a' := ?_) #[true, false, false, false, false, false, false, false] rfl rfl (any_of HT_.out (by kernel_rfl)) (fun _ _ _ h => h) (Or.inl ⟨by rfl, ?_⟩) ?_ ?_; rotate_left
   ·
    intro w'
    go_simp
    with_reducible rfl
   rotate_left
   ·
    simp only [Act.put, put_, i64_w, i32_w]
    rfl
   refine pure_ (i := 1) (N := some 5) (v := ?_) (a' := ?_) #[true, true, false, false, false, false, false, false] rfl rfl (any_of HT_.out (by kernel_rfl)) (fun _ _ _ h => h) (Or.inl ⟨by rfl, ?_⟩) ?_ ?_; rotate_left
   ·
    intro w'
    go_simp
    with_reducible rfl
   rotate_left
   ·
    simp only [Act.put, put_, i64_w, i32_w]
    rfl
   refine pure_ (i := 3) (N := some 7) (v := ?_) (a' := ?_) #[true, true, false, true, false, false, false, false] rfl rfl (any_of HT_.out (by kernel_rfl)) (fun _ _ _ h => h) (Or.inl ⟨by rfl, ?_⟩) ?_ ?_; rotate_left
   ·
    intro w'
    go_simp
    with_reducible rfl
   rotate_left
   ·
    simp only [Act.put, put_, i64_w, i32_w]
    rfl
   refine join_ (σ := Value) 2 #[true, true, true, true, true, true, false, false] (fun s_ => [(6, s_), (8, .bool t262), (9, .bool (!t262))]) (fun s_ w' => (Kd.R (Kd.int .i64) 3 w' w.heap.size (fun _ => True) s_ y259) ∧ (Below w.heap.size w w')) ?_ ?_; rotate_left
   ·
    intro hCont; refine two_ (i := 2) (j := 4) (Ni := some 6) (Nj := some 8) #[true, true, true, true, false, false, false, false] #[true, true, false, true, true, false, false, false] rfl rfl rfl rfl (two_of HT_.out (by kernel_rfl)) (by decide) (by decide) (fun K hK => ?_) (fun K hK => ?_)
    ·
     skip
     refine Kd.R_make_step (Kd.int .i64) _ 3 (by rfl) (N := 6) rfl 22 _ _ rfl (l0.length : Int) rfl rfl Try.underlying22 (.int .i64 0) 8 info3 rfl (by decide) (by omega) 0 (ok := fun _ => True) (okp := fun _ => True) rfl (fun _ hk => hk) trivial (dt_) (Nat.le_trans (Nat.mul_le_mul_right _ (dt_ : (l0.length : Int).toNat ≤ 35184372088832)) (by omega)) (Below.refl _ _) (Nat.le_refl _) ?_; intro v260 w6 ho7 hb hg_ hnew_; clear hg_ hnew_
     (first | rw [← Ny259.out] at ho7 | (simp only [Int.reduceToNat] at ho7; rw [← Ny259.out] at ho7))
     have HO261 := Aside0.mk (Kd.R_lower ho7 (below_size bel_)); replace HB := bs_ w hb; clear hb ho7; refine hK.out _ _ trivial (fun hHeld => ?_); clear hK K; refine norm_ (a' := ?_) ?_ ?_; rotate_left
     ·
      show Act.put _ (some 6) _ = _
      simp only [Act.put, put_, i64_w, i32_w]
      rfl
     refine one_ (i := 4) (N := some 8) #[true, true, true, true, true, false, false, false] rfl rfl (one_of HT_.out (by kernel_rfl)) (by decide) (fun K hK => ?_); refine goes_ Try.func66 (by kernel_rfl) rfl #[.slice A0 l0.length c0, .int .i64 0] (by rfl) rfl rfl ag_ ?_
     with_reducible refine (slices_Contains_odo_product_int.calls k _ _ l0 0 t262 _ ?side1 ?side2 A4.out).mono ?_
     (case side1 => exact cb_ HR0)
     (case side2 => exact HC0.out)
     rintro e w' ⟨rfl, ⟨nd, rfl⟩⟩
     refine ⟨_, rfl, ?_⟩; refine hK.out _ _ trivial (fun hHeld => ?_); clear hK K; refine norm_ (a' := ?_) ?_ ?_; rotate_left
     ·
      show Act.put _ (some 8) _ = _
      simp only [Act.put, put_, i64_w, i32_w]
      rfl
     refine pure_ (i := 5) (N := some 9) (v := ?_) (a' := ?_) #[true, true, true, true, true, true, false, false] rfl rfl (any_of HT_.out (by kernel_rfl)) (fun _ _ _ h => h) (Or.inl ⟨by rfl, ?_⟩) ?_ ?_; rotate_left
     ·
      intro w'
      go_simp
      with_reducible rfl
     rotate_left
     ·
      simp only [Act.put, put_, i64_w, i32_w]
      rfl
     exact norm_ (by simp only [putAll, Act.put, List.setIfInBounds_toArray, List.set_cons_zero, List.set_cons_succ]) (hCont (v260) _ ⟨(rs_ HO261), bel_⟩)
    ·
     skip
     refine goes_ Try.func66 (by kernel_rfl) rfl #[.slice A0 l0.length c0, .int .i64 0] (by rfl) rfl rfl ag_ ?_
     with_reducible refine (slices_Contains_odo_product_int.calls k _ _ l0 0 t262 _ ?side1 ?side2 A4.out).mono ?_
     (case side1 => exact cb_ HR0)
     (case side2 => exact HC0.out)
     rintro e w' ⟨rfl, ⟨nd, rfl⟩⟩
     refine ⟨_, rfl, ?_⟩; refine hK.out _ _ trivial (fun hHeld => ?_); clear hK K; refine norm_ (a' := ?_) ?_ ?_; rotate_left
     ·
      show Act.put _ (some 8) _ = _
      simp only [Act.put, put_, i64_w, i32_w]
      rfl
     refine pure_ (i := 5) (N := some 9) (v := ?_) (a' := ?_) #[true, true, false, true, true, true, false, false] rfl rfl (any_of HT_.out (by kernel_rfl)) (fun _ _ _ h => h) (Or.inl ⟨by rfl, ?_⟩) ?_ ?_; rotate_left
     ·
      intro w'
      go_simp
      with_reducible rfl
     rotate_left
     ·
      simp only [Act.put, put_, i64_w, i32_w]
      rfl
     refine one_ (i := 2) (N := some 6) #[true, true, true, true, true, true, false, false] rfl rfl (one_of HT_.out (by kernel_rfl)) (by decide) (fun K hK => ?_); refine Kd.R_make_step (Kd.int .i64) _ 3 (by rfl) (N := 6) rfl 22 _ _ rfl (l0.length : Int) rfl rfl Try.underlying22 (.int .i64 0) 8 info3 rfl (by decide) (by omega) 0 (ok := fun _ => True) (okp := fun _ => True) rfl (fun _ hk => hk) trivial (dt_) (Nat.le_trans (Nat.mul_le_mul_right _ (dt_ : (l0.length : Int).toNat ≤ 35184372088832)) (by omega)) (Below.refl _ _) (Nat.le_refl _) ?_; intro v260 w6 ho7 hb hg_ hnew_; clear hg_ hnew_
     (first | rw [← Ny259.out] at ho7 | (simp only [Int.reduceToNat] at ho7; rw [← Ny259.out] at ho7))
     have HO261 := Aside0.mk (Kd.R_lower ho7 (below_size bel_)); replace HB := bs_ w hb; clear hb ho7; refine hK.out _ _ trivial (fun hHeld => ?_); clear hK K; refine norm_ (a' := ?_) ?_ ?_; rotate_left
     ·
      show Act.put _ (some 6) _ = _
      simp only [Act.put, put_, i64_w, i32_w]
      rfl
     exact norm_ (by simp only [putAll, Act.put, List.setIfInBounds_toArray, List.set_cons_zero, List.set_cons_succ]) (hCont (v260) _ ⟨(rs_ HO261), bel_⟩)
   rintro v260 w8 ⟨h0_, h1_⟩
   have n0_ : Aside0 (Kd.R (Kd.int .i64) 3 w8 w.heap.size (fun _ => True) v260 y259) := ⟨h0_⟩; have n1_ : Aside0 (Below w.heap.size w w8) := ⟨h1_⟩; clear HB; clear h0_ h1_; have HO261 := n0_; have HB := n1_; clear n0_ n1_; have hHeld := trivial; refine norm_ (a' := ?_) ?_ ?_; rotate_left
   ·
    simp only [putAll, Act.put, List.setIfInBounds_toArray, List.set_cons_zero, List.set_cons_succ]
    rfl
   refine pure_ (i := 6) (N := some 2) (v := ?_) (a' := ?_) #[true, true, true, true, true, true, true, false] rfl rfl (any_of HT_.out (by kernel_rfl)) (fun _ _ _ h => h) (Or.inl ⟨by rfl, ?_⟩) ?_ ?_; rotate_left
   ·
    intro w'
    go_simp
    with_reducible rfl
   rotate_left
   ·
    simp only [Act.put, put_, i64_w, i32_w]
    rfl
   refine pure_ (i := 7) (N := some 3) (v := ?_) (a' := ?_) #[true, true, true, true, true, true, true, true] rfl rfl (any_of HT_.out (by kernel_rfl)) (fun _ _ _ h => h) (Or.inl ⟨by rfl, ?_⟩) ?_ ?_; rotate_left
   ·
    intro w'
    go_simp
    with_reducible rfl
   rotate_left
   ·
    simp only [Act.put, put_, i64_w, i32_w]
    rfl
   refine done_ (done_of HT_.out (by kernel_rfl)) ?_
   try go_wp2
   go_ret2
   exact ⟨_, ee_, rs_ HO261, bel_⟩
  ·
   rw [if_neg c3] at H; exact absurd H (by simp)
 ·
  rw [if_neg c2] at H; exact absurd H (by simp)

-- NOT PRINTED: function 64 (odo_product_next)

/-! ### odo_product_rank: function 65 -/
def odo_product_rank.l0 : Nat → List Int → Int → List Int → Int → Int → Option (Int × Bool)
 | 0, _, _, _, _, _ => none
 | k + 1, x0, x6, x14, x15, x16 => if x16 < x15 then (if 0 ≤ x16 then (if x16 < (x14.length : Int) then (if (rd x14 x16) < 0 then (some (0, false)) else (if x16 < (x0.length : Int) then (if (rd x14 x16) ≥ (rd x0 x16) then (some (0, false)) else (odo_product_rank.l0 k x0 (IntKind.u64.wrap ((IntKind.u64.wrap (x6 * (IntKind.u64.wrap (rd x0 x16)))) + (IntKind.u64.wrap (rd x14 x16)))) x14 x15 (wrap64 (x16 + 1)))) else (none))) else (none)) else (none)) else (some (x6, true))
def odo_product_rank.f (k : Nat) (l0 : List Int) (l1 : List Int) : Option (Int × Bool) := if (l1.length : Int) = (l0.length : Int) then (odo_product_rank.l0 k l0 0 l1 (l1.length : Int) 0) else (some (0, false))
theorem odo_product_rank.mono_l : ∀ k, (∀ y0 y1 y2 y3 y4, LeO (odo_product_rank.l0 k y0 y1 y2 y3 y4) (odo_product_rank.l0 (k + 1) y0 y1 y2 y3 y4))
 | 0 => fun _ _ _ _ _ r h => by simp [odo_product_rank.l0] at h
 | k + 1 => by
  have ih0 := odo_product_rank.mono_l k
  ·
   intro y0 y1 y2 y3 y4; unfold odo_product_rank.l0
   repeat' first
   | (with_reducible exact ih0 _ _ _ _ _)
   | (with_reducible exact LeO.refl _)
   | (with_reducible exact LeO.none _)
   | (with_reducible refine LeO.ite ?_ ?_)
   | (with_reducible refine LeO.bind ?_ (fun _ => ?_))
   | exact ih0 _ _ _ _ _
   | exact LeO.none _
   | refine LeO.ite ?_ ?_
   | refine LeO.bind ?_ (fun _ => ?_)
theorem odo_product_rank.mono : ∀ a0 a1 k, LeO (odo_product_rank.f k a0 a1) (odo_product_rank.f (k + 1) a0 a1) := by
 intro a0 a1 k; have ih0 := odo_product_rank.mono_l k; unfold odo_product_rank.f
 repeat' first
   | (with_reducible exact ih0 _ _ _ _ _)
   | (with_reducible exact LeO.refl _)
   | (with_reducible exact LeO.none _)
   | (with_reducible refine LeO.ite ?_ ?_)
   | (with_reducible refine LeO.bind ?_ (fun _ => ?_))
   | exact ih0 _ _ _ _ _
   | exact LeO.none _
   | refine LeO.ite ?_ ?_
   | refine LeO.bind ?_ (fun _ => ?_)
set_option maxHeartbeats 8000000 in
set_option maxRecDepth 100000 in
theorem odo_product_rank.calls (k : Nat) (A0 : Option Addr) (c0 : Nat) (l0 : List Int) (A1 : Option Addr) (c1 : Nat) (l1 : List Int) (r1 : Int) (r2 : Bool) (w : World) (hr0 : Kd.C (Kd.int .i64) w A0 l0.length l0) (hc0 : l0.length ≤ c0) (hr1 : Kd.C (Kd.int .i64) w A1 l1.length l1) (hc1 : l1.length ≤ c1) (h : odo_product_rank.f k l0 l1 = some (r1, r2)) :
  Calls Try.prog 65 #[.slice A0 l0.length c0, .slice A1 l1.length c1] w fun e w' => e = .returned (.tuple #[.int .u64 r1, .bool r2]) ∧ Drawn0 w w' := by
 have HR0 := Aside0.mk hr0; have HC0 := Aside0.mk hc0; clear hr0 hc0; have HR1 := Aside0.mk hr1; have HC1 := Aside0.mk hc1; clear hr1 hc1; have H : (if (l1.length : Int) = (l0.length : Int) then (odo_product_rank.l0 k l0 0 l1 (l1.length : Int) 0) else (some (0, false))) = some (r1, r2) := h; clear h
 by_cases c3 : (l1.length : Int) = (l0.length : Int)
 ·
  rw [if_pos c3] at H; have c3b0 : ((l1.length : Int) == (l0.length : Int)) = true := beq_iff_eq.mpr c3; have c3b1 : ((l1.length : Int) != (l0.length : Int)) = false := bne_eq_false_iff_eq.mpr c3; have c3b2 : (l1.length == l0.length) = true := by first | simpa using c3 | (simp at c3 ⊢; omega)
  clear c3; have H' := Aside0.mk H; clear H; go_enter Try.func65, Try.ntmps65; go_wp2
  go_loopg [6, 16] k (fun kq v6 v16 w' => ∃ (x6_1 : Int) (x16_1 : Int), v6 = .int .u64 x6_1 ∧ v16 = .int .i64 x16_1 ∧ Aside0 (odo_product_rank.l0 kq l0 x6_1 l1 (l1.length : Int) x16_1 = some (r1, r2)) ∧ Aside0 (kq ≤ k) ∧ Drawn0 w w')
  case atStart => exact ⟨(0), (0), ff_, ff_, H', ⟨Nat.le_refl _⟩, by repeat (first | exact Drawn0.refl _ | apply Drawn0.step)⟩
  case round =>
   clear H'; (try clear c1); (try clear c3b0); (try clear c3b1); (try clear c3b2); obtain ⟨x6_1, x16_1, rfl, rfl, HA, HK1, ⟨m1, rfl⟩⟩ := hrel
   cases gk with
   | zero => exact absurd HA.out (by simp [odo_product_rank.l0])
   | succ k1 =>
    have H := HA.out; clear HA; simp only [odo_product_rank.l0] at H
    by_cases c4 : x16_1 < (l1.length : Int)
    ·
     rw [if_pos c4] at H; have c4b0 : decide (x16_1 < (l1.length : Int)) = true := decide_eq_true c4; clear c4
     by_cases c5 : 0 ≤ x16_1
     ·
      rw [if_pos c5] at H; have c5b0 : decide (0 ≤ x16_1) = true := decide_eq_true c5; clear c5
      by_cases c6 : x16_1 < (l1.length : Int)
      ·
       rw [if_pos c6] at H; have c6b0 : decide (x16_1 < (l1.length : Int)) = true := decide_eq_true c6; clear c6
       by_cases c7 : (rd l1 x16_1) < 0
       ·
        rw [if_pos c7] at H; have c7b0 : decide ((rd l1 x16_1) < 0) = true := decide_eq_true c7; clear c7; simp only [Option.some.injEq, Prod.mk.injEq] at H; obtain ⟨rfl, rfl⟩ := H; have p266 : 0 ≤ (x16_1 : Int) := dt_; have q266 : x16_1 < (l1.length : Int) := dt_; obtain ⟨ad266, e266, hx266_0⟩ := Kd.at_int HR1.out x16_1 p266 q266; cases e266; replace p266 := eq_true p266; replace q266 := eq_true q266; go_wp2
        go_ret2
        exact ⟨ff_, by repeat (first | exact Drawn0.refl _ | apply Drawn0.step)⟩
       ·
        rw [if_neg c7] at H; have c7b0 : decide ((rd l1 x16_1) < 0) = false := decide_eq_false c7; clear c7
        by_cases c8 : x16_1 < (l0.length : Int)
        ·
         rw [if_pos c8] at H; have c8b0 : decide (x16_1 < (l0.length : Int)) = true := decide_eq_true c8; clear c8
         by_cases c9 : (rd l1 x16_1) ≥ (rd l0 x16_1)
         ·
          rw [if_pos c9] at H; have c9b0 : decide ((rd l0 x16_1) ≤ (rd l1 x16_1)) = true := decide_eq_true c9; clear c9; simp only [Option.some.injEq, Prod.mk.injEq] at H; obtain ⟨rfl, rfl⟩ := H; have p266 : 0 ≤ (x16_1 : Int) := dt_; have q266 : x16_1 < (l1.length : Int) := dt_; obtain ⟨ad266, e266, hx266_0⟩ := Kd.at_int HR1.out x16_1 p266 q266; cases e266; replace p266 := eq_true p266; replace q266 := eq_true q266; have p267 : 0 ≤ (x16_1 : Int) := dt_; have q267 : x16_1 < (l0.length : Int) := dt_; obtain ⟨ad267, e267, hx267_0⟩ := Kd.at_int HR0.out x16_1 p267 q267; cases e267; replace p267 := eq_true p267; replace q267 := eq_true q267; go_wp2
          go_ret2
          exact ⟨ff_, by repeat (first | exact Drawn0.refl _ | apply Drawn0.step)⟩
         ·
          rw [if_neg c9] at H; have c9b0 : decide ((rd l0 x16_1) ≤ (rd l1 x16_1)) = false := decide_eq_false c9; clear c9; have H' := Aside0.mk H; clear H; have p266 : 0 ≤ (x16_1 : Int) := dt_; have q266 : x16_1 < (l1.length : Int) := dt_; obtain ⟨ad266, e266, hx266_0⟩ := Kd.at_int HR1.out x16_1 p266 q266; cases e266; replace p266 := eq_true p266; replace q266 := eq_true q266; have p267 : 0 ≤ (x16_1 : Int) := dt_; have q267 : x16_1 < (l0.length : Int) := dt_; obtain ⟨ad267, e267, hx267_0⟩ := Kd.at_int HR0.out x16_1 p267 q267; cases e267; replace p267 := eq_true p267; replace q267 := eq_true q267; have p268 : 0 ≤ (x16_1 : Int) := dt_; have q268 : x16_1 < (l0.length : Int) := dt_; obtain ⟨ad268, e268, hx268_0⟩ := Kd.at_int HR0.out x16_1 p268 q268; obtain rfl : ad267 = ad268 := (by injection e268); replace p268 := eq_true p268; replace q268 := eq_true q268; go_wp2
          go_roundg k1
          case measure => have := HK1.out; omega
          case rel => exact ⟨(IntKind.u64.wrap ((IntKind.u64.wrap (x6_1 * (IntKind.u64.wrap (rd l0 x16_1)))) + (IntKind.u64.wrap (rd l1 x16_1)))), (wrap64 (x16_1 + 1)), ff_, ff_, H', ⟨by have := HK1.out; omega⟩, by repeat (first | exact Drawn0.refl _ | apply Drawn0.step)⟩
        ·
         rw [if_neg c8] at H; exact absurd H (by simp)
      ·
       rw [if_neg c6] at H; exact absurd H (by simp)
     ·
      rw [if_neg c5] at H; exact absurd H (by simp)
    ·
     rw [if_neg c4] at H; have c4b0 : decide (x16_1 < (l1.length : Int)) = false := decide_eq_false c4; clear c4; simp only [Option.some.injEq, Prod.mk.injEq] at H; obtain ⟨rfl, rfl⟩ := H; go_wp2
     go_ret2
     exact ⟨ff_, by repeat (first | exact Drawn0.refl _ | apply Drawn0.step)⟩
 ·
  rw [if_neg c3] at H; have c3b0 : ((l1.length : Int) == (l0.length : Int)) = false := beq_eq_false_iff_ne.mpr c3; have c3b1 : ((l1.length : Int) != (l0.length : Int)) = true := bne_iff_ne.mpr c3; have c3b2 : (l1.length == l0.length) = false := by first | simpa using c3 | (simp at c3 ⊢; omega)
  simp only [Option.some.injEq, Prod.mk.injEq] at H; obtain ⟨rfl, rfl⟩ := H; go_enter Try.func65, Try.ntmps65; go_wp2
  go_ret2
  exact ⟨ff_, by repeat (first | exact Drawn0.refl _ | apply Drawn0.step)⟩

/-! ### slices_Clone_odo_weaves_int: function 73 -/
def slices_Clone_odo_weaves_int.f (l0 : List Int) : Option (List Int) := (some (([] : List Int) : List Int)).bind fun y269 => (if y269.length + l0.length < 17592186044416 then (some (y269 ++ l0)) else (none))
set_option maxHeartbeats 8000000 in
set_option maxRecDepth 100000 in
theorem slices_Clone_odo_weaves_int.calls (A0 : Option Addr) (c0 : Nat) (l0 : List Int) (r : List Int) (w : World) (hr0 : Kd.C (Kd.int .i64) w A0 l0.length l0) (hc0 : l0.length ≤ c0) (h : slices_Clone_odo_weaves_int.f l0 = some r) :
  Calls Try.prog 73 #[.slice A0 l0.length c0] w fun e w' => ∃ v0_ : Value, e = .returned (v0_) ∧ Kd.R (Kd.int .i64) 3 w' w.heap.size (fun _ => True) v0_ r ∧ Below w.heap.size w w' := by
 have HR0 := Aside0.mk hr0; have HC0 := Aside0.mk hc0; clear hr0 hc0; have HB := Aside0.mk (Below.refl w.heap.size w); have H : ((some (([] : List Int) : List Int)).bind fun y269 => (if y269.length + l0.length < 17592186044416 then (some (y269 ++ l0)) else (none))) = some r := h; clear h; obtain ⟨y269, hy269⟩ : ∃ y_ : List Int, y_ = (([] : List Int)) := ⟨_, rfl⟩; replace H : (if y269.length + l0.length < 17592186044416 then (some (y269 ++ l0)) else (none)) = some r := by first | (rw [hy269]; with_reducible exact H) | (have H2_ := (Option.bind_some _ _).symm.trans H; rw [hy269]; with_reducible exact H2_) | (have H2_ := (Option.bind_some _ _).symm.trans H; with_reducible exact H2_) | with_reducible exact H | (rw [hy269]; exact H) | exact H
 have Ny269 := Aside0.mk hy269; clear hy269
 by_cases c2 : y269.length + l0.length < 17592186044416
 ·
  rw [if_pos c2] at H; have LMc2 := Aside0.mk c2; clear c2; obtain ⟨y272, hy272⟩ : ∃ y_ : List Int, y_ = (y269 ++ l0) := ⟨_, rfl⟩; replace H : (some y272) = some r := by first | (rw [hy272]; with_reducible exact H) | (have H2_ := (Option.bind_some _ _).symm.trans H; rw [hy272]; with_reducible exact H2_) | (have H2_ := (Option.bind_some _ _).symm.trans H; with_reducible exact H2_) | with_reducible exact H | (rw [hy272]; exact H) | exact H
  have Ny272 := Aside0.mk hy272; clear hy272; obtain rfl := Option.some.inj H; have heq_ := fun (W : World) (a_ : Option Addr) (n_ c_ : Nat) => Lib.run_eql_slice_nil (P := Try.prog) W 82 3 a_ n_ c_ 0 0 Try.underlying82
  rcases A0 with _ | ad0
  ·
   have h0_ : l0 = [] := by
    rcases Nat.eq_zero_or_pos l0.length with z_ | z_
    ·
     exact List.eq_nil_of_length_eq_zero z_
    ·
     obtain ⟨ad_, e_, _⟩ := HR0.out.2.2 z_; cases e_
   have e_ : y272 = [] := by rw [Ny272.out, Ny269.out, h0_]; rfl
   rw [e_]; subst h0_; go_enter Try.func73, Try.ntmps73; go_wp2
   go_ret
   exact ⟨_, rfl, Kd.R_nil _ _ _ _ _, by repeat (first | exact Below.refl _ _ | exact HB.out)⟩
  go_enter Try.func73, Try.ntmps73
  go_wp2_with (first | ((with_reducible refine gate_dst (N := 5) rfl ?_); refine Kd.R_lit (Kd.int .i64) _ 3 ?hg (N := 5) ?hd (xs := ([] : List Int)) (inner := []) (ok := fun _ => True) (okp := fun _ => True) ?hr ?hp (fun _ hk => hk) trivial (Below.refl _ _) (Nat.le_refl _) (by simp) ?_; (case hd => rfl); (case hg => rfl); (case hr => first | (go_simp; done) | (go_simp; rfl)); (case hp => exact (Reps.none _ _)); intro v270 w3 ho4 hb hg_ hnew_; clear hg_ hnew_; (first | rw [← Ny269.out] at ho4 | (simp only [Int.reduceToNat] at ho4; rw [← Ny269.out] at ho4)); have HO271 := Aside0.mk (Kd.R_lower ho4 (below_size bel_)); replace HB := bs_ w hb; clear hb ho4) | ((with_reducible refine gate_builtin (b := .append) (xs := #[.tmp 5, .tmp 6]) rfl ?_); at_builtin; refine Kd.R_append_rows (Kd.int .i64) (w0 := w) w.heap.size rfl (.tmp 5) (.tmp 6) 82 3 (.int .i64 0) 8 rfl Try.underlying82 info3 rfl (by decide) (by omega) v270 y269 l0 _ _ _ (fun _ => True) (fun _ => False) rfl rfl ?aO ?aR (fun _ _ h => h) (fun _ h => h.elim) ?aF ?aB ?aS ?aL ?_; (case aR => exact cb_ HR0); (case aB => exact bel_); (case aF => exact (fun _ _ => trivial)); (case aO => exact (rs_ HO271)); (case aS => exact (below_size bel_)); (case aL => have := LMc2.out; omega); intro v273 w5 ho hb hg hat; rw [← Ny272.out] at ho; have n0_ := Aside0.mk (hb); have n1_ := Aside0.mk (ho); clear HB; clear HO271; have HB := n0_; have HO274 := n1_; clear n0_ n1_; clear ho hb hg hat))
  go_ret
  exact ⟨_, ee_, rs_ HO274, bel_⟩
 ·
  rw [if_neg c2] at H; exact absurd H (by simp)

-- NOT PRINTED: function 68 (odo_weaves_at)

-- EXTERN 79 bits_Len64

end Go.Proofs.Ytohpboblmmbjnaa.P
