-- Printed by xprint.py, a program of this session over the kit's printer.
import Derived.Test.YtohpboblmmbjnaaP0
import Derived.Test.YtohpboblmmbjnaaP1
import Derived.Test.YtohpboblmmbjnaaCount
namespace Go.Proofs.Ytohpboblmmbjnaa.P
open Go.RowKit Go.Proofs.YtohpboblmmbjnaaW.PrintWords Go.Proofs.YtohpboblmmbjnaaW.PrintLast Go.Proofs.YtohpboblmmbjnaaW.PrintMore
attribute [local go_sem] max2_int min2_int max_two min_two max_three min_three max_four min_four   -- for this text's walks alone

/-! ### weirref03_times: function 38 -/
mutual
def weirref03_times.l0 : Nat → List Int → Int → List Int → Int → Int → Option (List Int)
 | 0, _, _, _, _, _ => none
 | k + 1, x0, x1, x5, x6, x7 => if x7 < (x0.length : Int) then (if 0 ≤ x7 then (if x5.length < 17592186044416 then (weirref03_times.l0 k x0 x1 (x5 ++ [Go.bits .and .u64 (IntKind.u64.wrap ((IntKind.u64.wrap ((rd x0 x7) * x1)) + x6)) 4294967295]) ((IntKind.u64.wrap ((IntKind.u64.wrap ((rd x0 x7) * x1)) + x6)) / 4294967296) (wrap64 (x7 + 1))) else (none)) else (none)) else (weirref03_times.l1 k x5 x6)
def weirref03_times.l1 : Nat → List Int → Int → Option (List Int)
 | 0, _, _ => none
 | k + 1, x5, x6 => if x6 > 0 then (if x5.length < 17592186044416 then (weirref03_times.l1 k (x5 ++ [Go.bits .and .u64 x6 4294967295]) (x6 / 4294967296)) else (none)) else (some x5)
end
def weirref03_times.f (k : Nat) (l0 : List Int) (a1 : Int) : Option (List Int) := weirref03_times.l0 k l0 a1 ([] : List Int) 0 0
theorem weirref03_times.mono_l : ∀ k, (∀ y0 y1 y2 y3 y4, LeO (weirref03_times.l0 k y0 y1 y2 y3 y4) (weirref03_times.l0 (k + 1) y0 y1 y2 y3 y4)) ∧ (∀ y0 y1, LeO (weirref03_times.l1 k y0 y1) (weirref03_times.l1 (k + 1) y0 y1))
 | 0 => ⟨fun _ _ _ _ _ r h => by simp [weirref03_times.l0] at h, fun _ _ r h => by simp [weirref03_times.l1] at h⟩
 | k + 1 => by
  obtain ⟨ih0, ih1⟩ := weirref03_times.mono_l k; refine ⟨?_, ?_⟩; intro y0 y1 y2 y3 y4; unfold weirref03_times.l0; rotate_left; intro y0 y1; unfold weirref03_times.l1; rotate_left
  all_goals (repeat' first
   | (with_reducible exact ih0 _ _ _ _ _)
   | (with_reducible exact ih1 _ _)
   | (with_reducible exact LeO.refl _)
   | (with_reducible exact LeO.none _)
   | (with_reducible refine LeO.ite ?_ ?_)
   | (with_reducible refine LeO.bind ?_ (fun _ => ?_))
   | exact ih0 _ _ _ _ _
   | exact ih1 _ _
   | exact LeO.none _
   | refine LeO.ite ?_ ?_
   | refine LeO.bind ?_ (fun _ => ?_))
theorem weirref03_times.mono : ∀ a0 a1 k, LeO (weirref03_times.f k a0 a1) (weirref03_times.f (k + 1) a0 a1) := by
 intro a0 a1 k; obtain ⟨ih0, ih1⟩ := weirref03_times.mono_l k; unfold weirref03_times.f
 repeat' first
   | (with_reducible exact ih0 _ _ _ _ _)
   | (with_reducible exact ih1 _ _)
   | (with_reducible exact LeO.refl _)
   | (with_reducible exact LeO.none _)
   | (with_reducible refine LeO.ite ?_ ?_)
   | (with_reducible refine LeO.bind ?_ (fun _ => ?_))
   | exact ih0 _ _ _ _ _
   | exact ih1 _ _
   | exact LeO.none _
   | refine LeO.ite ?_ ?_
   | refine LeO.bind ?_ (fun _ => ?_)
set_option maxHeartbeats 8000000 in
set_option maxRecDepth 100000 in
theorem weirref03_times.calls (k : Nat) (A0 : Option Addr) (c0 : Nat) (l0 : List Int) (a1 : Int) (r : List Int) (w : World) (hr0 : Kd.C (Kd.int .u64) w A0 l0.length l0) (hc0 : l0.length ≤ c0) (h : weirref03_times.f k l0 a1 = some r) :
  Calls Try.prog 38 #[.slice A0 l0.length c0, .int .u64 a1] w fun e w' => ∃ v0_ : Value, e = .returned (v0_) ∧ Kd.R (Kd.int .u64) 25 w' w.heap.size (fun _ => True) v0_ r ∧ Below w.heap.size w w' := by
 have HR0 := Aside0.mk hr0; have HC0 := Aside0.mk hc0; clear hr0 hc0; have HB := Aside0.mk (Below.refl w.heap.size w); have H : (weirref03_times.l0 k l0 a1 ([] : List Int) 0 0) = some r := h; clear h; have H' := Aside0.mk H; clear H; go_enter Try.func38, Try.ntmps38; go_wp2
 go_loopg [5, 6, 7] k (fun kq v5 v6 v7 w' => ∃ (x5_1 : List Int) (x6_1 : Int) (x7_1 : Int), v6 = .int .u64 x6_1 ∧ v7 = .int .i64 x7_1 ∧ Aside0 (weirref03_times.l0 kq l0 a1 x5_1 x6_1 x7_1 = some r) ∧ Aside0 (kq ≤ k) ∧ Aside0 (Kd.R (Kd.int .u64) 25 w' w.heap.size (fun _ => True) v5 x5_1) ∧ Aside0 (Below w.heap.size w w'))
 case atStart => exact ⟨(([] : List Int)), (0), (0), ff_, ff_, H', ⟨Nat.le_refl _⟩, ⟨by first | exact Kd.R_nil _ _ _ _ _ | exact Kd.N_nil _ _ _ _ _ | exact Kd.V_nil _ _ _ _ _ | exact Kd.Q_nil _ _ _ _ _ | exact Kd.S_nil _ _ _ _ _⟩, ⟨bel_⟩⟩
 case round =>
  clear H'; obtain ⟨x5_1, x6_1, x7_1, rfl, rfl, HA, HK1, HO_5, HB⟩ := hrel
  cases gk with
  | zero => exact absurd HA.out (by simp [weirref03_times.l0])
  | succ k1 =>
   have H := HA.out; clear HA; simp only [weirref03_times.l0] at H
   by_cases c3 : x7_1 < (l0.length : Int)
   ·
    rw [if_pos c3] at H; have c3b0 : decide (x7_1 < (l0.length : Int)) = true := decide_eq_true c3; clear c3
    by_cases c4 : 0 ≤ x7_1
    ·
     rw [if_pos c4] at H; have c4b0 : decide (0 ≤ x7_1) = true := decide_eq_true c4; clear c4
     by_cases c5 : x5_1.length < 17592186044416
     ·
      rw [if_pos c5] at H; have LMc5 := Aside0.mk c5; clear c5; obtain ⟨y134, hy134⟩ : ∃ y_ : List Int, y_ = (x5_1 ++ [Go.bits .and .u64 (IntKind.u64.wrap ((IntKind.u64.wrap ((rd l0 x7_1) * a1)) + x6_1)) 4294967295]) := ⟨_, rfl⟩; replace H : (weirref03_times.l0 k1 l0 a1 y134 ((IntKind.u64.wrap ((IntKind.u64.wrap ((rd l0 x7_1) * a1)) + x6_1)) / 4294967296) (wrap64 (x7_1 + 1))) = some r := by first | (rw [hy134]; with_reducible exact H) | (have H2_ := (Option.bind_some _ _).symm.trans H; rw [hy134]; with_reducible exact H2_) | (have H2_ := (Option.bind_some _ _).symm.trans H; with_reducible exact H2_) | with_reducible exact H | (rw [hy134]; exact H) | exact H
      have Ny134 := Aside0.mk hy134; clear hy134; have H' := Aside0.mk H; clear H; have p133 : 0 ≤ (x7_1 : Int) := dt_; have q133 : x7_1 < (l0.length : Int) := dt_; obtain ⟨ad133, e133, hx133_0⟩ := Kd.at_int HR0.out x7_1 p133 q133; cases e133; replace hx133_0 := hx_ HB hx133_0; replace p133 := eq_true p133; replace q133 := eq_true q133
      go_wp2_with (first | ((with_reducible refine gate_builtin (b := .append) (xs := #[.tmp 23, .tmp 26]) rfl ?_); at_builtin; refine Kd.R_append (Kd.int .u64) (w0 := w) w.heap.size rfl (.tmp 23) (.tmp 26) 71 25 (.int .u64 0) 8 rfl Try.underlying71 info25 rfl (by decide) (by omega) u5 x5_1 (Go.bits .and .u64 (IntKind.u64.wrap ((IntKind.u64.wrap ((rd l0 x7_1) * a1)) + x6_1)) 4294967295) [.int .u64 (Go.bits .and .u64 (IntKind.u64.wrap ((IntKind.u64.wrap ((rd l0 x7_1) * a1)) + x6_1)) 4294967295)] (fun _ => True) (fun _ => False) rfl rfl ?aP (fun _ hk => hk.elim) ?aF ?aO ?aB ?aS ?aL ?_; (case aP => exact rfl); (case aB => exact bel_); (case aF => exact (fun _ _ => trivial)); (case aO => exact (rs_ HO_5)); (case aS => exact (below_size bel_)); (case aL => have := LMc5.out; omega); intro v135 w6 ho hb hg hat; rw [← Ny134.out] at ho; have n0_ := Aside0.mk (hb); have n1_ := Aside0.mk (ho); clear HB; clear HO_5; have HB := n0_; have HO136 := n1_; clear n0_ n1_; clear ho hb hg hat))
      go_roundg k1
      case measure => have := HK1.out; omega
      case rel => exact ⟨(y134), ((IntKind.u64.wrap ((IntKind.u64.wrap ((rd l0 x7_1) * a1)) + x6_1)) / 4294967296), (wrap64 (x7_1 + 1)), ff_, ff_, H', ⟨by have := HK1.out; omega⟩, ⟨rs_ HO136⟩, ⟨bel_⟩⟩
     ·
      rw [if_neg c5] at H; exact absurd H (by simp)
    ·
     rw [if_neg c4] at H; exact absurd H (by simp)
   ·
    rw [if_neg c3] at H; have c3b0 : decide (x7_1 < (l0.length : Int)) = false := decide_eq_false c3; clear c3; have H' := Aside0.mk H; clear H; go_wp2
    go_loopg [5, 6] k1 (fun kq v5 v6 w' => ∃ (x5_2 : List Int) (x6_2 : Int), v6 = .int .u64 x6_2 ∧ Aside0 (weirref03_times.l1 kq x5_2 x6_2 = some r) ∧ Aside0 (kq ≤ k1) ∧ Aside0 (Kd.R (Kd.int .u64) 25 w' w.heap.size (fun _ => True) v5 x5_2) ∧ Aside0 (Below w.heap.size w w'))
    case atStart => exact ⟨(x5_1), (x6_1), ff_, H', ⟨Nat.le_refl _⟩, ⟨rs_ HO_5⟩, ⟨bel_⟩⟩
    case round =>
     clear H'; (try clear c3b0); obtain ⟨x5_2, x6_2, rfl, HA, HK2, HO_5, HB⟩ := hrel
     cases gk with
     | zero => exact absurd HA.out (by simp [weirref03_times.l1])
     | succ k2 =>
      have H := HA.out; clear HA; simp only [weirref03_times.l1] at H
      by_cases c7 : x6_2 > 0
      ·
       rw [if_pos c7] at H; have c7b0 : decide (0 < x6_2) = true := decide_eq_true c7; clear c7
       by_cases c8 : x5_2.length < 17592186044416
       ·
        rw [if_pos c8] at H; have LMc8 := Aside0.mk c8; clear c8; obtain ⟨y137, hy137⟩ : ∃ y_ : List Int, y_ = (x5_2 ++ [Go.bits .and .u64 x6_2 4294967295]) := ⟨_, rfl⟩; replace H : (weirref03_times.l1 k2 y137 (x6_2 / 4294967296)) = some r := by first | (rw [hy137]; with_reducible exact H) | (have H2_ := (Option.bind_some _ _).symm.trans H; rw [hy137]; with_reducible exact H2_) | (have H2_ := (Option.bind_some _ _).symm.trans H; with_reducible exact H2_) | with_reducible exact H | (rw [hy137]; exact H) | exact H
        have Ny137 := Aside0.mk hy137; clear hy137; have H' := Aside0.mk H; clear H
        go_wp2_with (first | ((with_reducible refine gate_builtin (b := .append) (xs := #[.tmp 32, .tmp 35]) rfl ?_); at_builtin; refine Kd.R_append (Kd.int .u64) (w0 := w) w.heap.size rfl (.tmp 32) (.tmp 35) 71 25 (.int .u64 0) 8 rfl Try.underlying71 info25 rfl (by decide) (by omega) u5 x5_2 (Go.bits .and .u64 x6_2 4294967295) [.int .u64 (Go.bits .and .u64 x6_2 4294967295)] (fun _ => True) (fun _ => False) rfl rfl ?aP (fun _ hk => hk.elim) ?aF ?aO ?aB ?aS ?aL ?_; (case aP => exact rfl); (case aB => exact bel_); (case aF => exact (fun _ _ => trivial)); (case aO => exact (rs_ HO_5)); (case aS => exact (below_size bel_)); (case aL => have := LMc8.out; omega); intro v138 w9 ho hb hg hat; rw [← Ny137.out] at ho; have n0_ := Aside0.mk (hb); have n1_ := Aside0.mk (ho); clear HB; clear HO_5; have HB := n0_; have HO139 := n1_; clear n0_ n1_; clear ho hb hg hat))
        go_roundg k2
        case measure => have := HK1.out; have := HK2.out; omega
        case rel => exact ⟨(y137), (x6_2 / 4294967296), ff_, H', ⟨by have := HK1.out; have := HK2.out; omega⟩, ⟨rs_ HO139⟩, ⟨bel_⟩⟩
       ·
        rw [if_neg c8] at H; exact absurd H (by simp)
      ·
       rw [if_neg c7] at H; have c7b0 : decide (0 < x6_2) = false := decide_eq_false c7; clear c7; obtain rfl := Option.some.inj H; go_wp2
       go_ret
       exact ⟨_, ee_, rs_ HO_5, bel_⟩

/-! ### weirref03_over: function 39 -/
def weirref03_over.l0 : Nat → List Int → Int → List Int → Int → Int → Option (List Int)
 | 0, _, _, _, _, _ => none
 | k + 1, x0, x1, x5, x6, x7 => if x7 ≥ 0 then (if 0 ≤ x7 then (if x7 < (x0.length : Int) then (if x1 = 0 then (none) else (if x7 < (x5.length : Int) then (weirref03_over.l0 k x0 x1 (x5.set (x7 : Int).toNat (IntKind.u64.wrap (Int.tdiv (Go.bits .or .u64 (IntKind.u64.wrap (x6 * 4294967296)) (rd x0 x7)) x1))) (Int.tmod (Go.bits .or .u64 (IntKind.u64.wrap (x6 * 4294967296)) (rd x0 x7)) x1) (wrap64 (x7 - 1))) else (none))) else (none)) else (none)) else (some x5)
def weirref03_over.f (k : Nat) (l0 : List Int) (a1 : Int) : Option (List Int) := if 0 ≤ (l0.length : Int) then (if ((l0.length : Int) : Int).toNat ≤ 35184372088832 then (weirref03_over.l0 k l0 a1 (List.replicate ((l0.length : Int) : Int).toNat 0) 0 (wrap64 ((l0.length : Int) - 1))) else (none)) else (none)
theorem weirref03_over.mono_l : ∀ k, (∀ y0 y1 y2 y3 y4, LeO (weirref03_over.l0 k y0 y1 y2 y3 y4) (weirref03_over.l0 (k + 1) y0 y1 y2 y3 y4))
 | 0 => fun _ _ _ _ _ r h => by simp [weirref03_over.l0] at h
 | k + 1 => by
  have ih0 := weirref03_over.mono_l k
  ·
   intro y0 y1 y2 y3 y4; unfold weirref03_over.l0
   repeat' first
   | (with_reducible exact ih0 _ _ _ _ _)
   | (with_reducible exact LeO.refl _)
   | (with_reducible exact LeO.none _)
   | (with_reducible refine LeO.ite ?_ ?_)
   | (with_reducible refine LeO.bind ?_ (fun _ => ?_))
   | exact ih0 _ _ _ _ _
   | exact LeO.none _
   | refine LeO.ite ?_ ?_
   | refine LeO.bind ?_ (fun _ => ?_)
theorem weirref03_over.mono : ∀ a0 a1 k, LeO (weirref03_over.f k a0 a1) (weirref03_over.f (k + 1) a0 a1) := by
 intro a0 a1 k; have ih0 := weirref03_over.mono_l k; unfold weirref03_over.f
 repeat' first
   | (with_reducible exact ih0 _ _ _ _ _)
   | (with_reducible exact LeO.refl _)
   | (with_reducible exact LeO.none _)
   | (with_reducible refine LeO.ite ?_ ?_)
   | (with_reducible refine LeO.bind ?_ (fun _ => ?_))
   | exact ih0 _ _ _ _ _
   | exact LeO.none _
   | refine LeO.ite ?_ ?_
   | refine LeO.bind ?_ (fun _ => ?_)
set_option maxHeartbeats 8000000 in
set_option maxRecDepth 100000 in
theorem weirref03_over.calls (k : Nat) (A0 : Option Addr) (c0 : Nat) (l0 : List Int) (a1 : Int) (r : List Int) (w : World) (hr0 : Kd.C (Kd.int .u64) w A0 l0.length l0) (hc0 : l0.length ≤ c0) (h : weirref03_over.f k l0 a1 = some r) :
  Calls Try.prog 39 #[.slice A0 l0.length c0, .int .u64 a1] w fun e w' => ∃ v0_ : Value, e = .returned (v0_) ∧ Kd.R (Kd.int .u64) 25 w' w.heap.size (fun _ => True) v0_ r ∧ Below w.heap.size w w' := by
 have HR0 := Aside0.mk hr0; have HC0 := Aside0.mk hc0; clear hr0 hc0; have HB := Aside0.mk (Below.refl w.heap.size w); have H : (if 0 ≤ (l0.length : Int) then (if ((l0.length : Int) : Int).toNat ≤ 35184372088832 then (weirref03_over.l0 k l0 a1 (List.replicate ((l0.length : Int) : Int).toNat 0) 0 (wrap64 ((l0.length : Int) - 1))) else (none)) else (none)) = some r := h; clear h
 by_cases c3 : 0 ≤ (l0.length : Int)
 ·
  rw [if_pos c3] at H; have c3b0 := eq_true c3; have c3b1 : decide (0 ≤ (l0.length : Int)) = true := decide_eq_true c3; clear c3
  by_cases c4 : ((l0.length : Int) : Int).toNat ≤ 35184372088832
  ·
   rw [if_pos c4] at H; have c4b0 := eq_true c4; have c4b1 : decide (((l0.length : Int) : Int).toNat ≤ 35184372088832) = true := decide_eq_true c4; clear c4; obtain ⟨y140, hy140⟩ : ∃ y_ : List Int, y_ = (List.replicate ((l0.length : Int) : Int).toNat 0) := ⟨_, rfl⟩; replace H : (weirref03_over.l0 k l0 a1 y140 0 (wrap64 ((l0.length : Int) - 1))) = some r := by first | (rw [hy140]; with_reducible exact H) | (have H2_ := (Option.bind_some _ _).symm.trans H; rw [hy140]; with_reducible exact H2_) | (have H2_ := (Option.bind_some _ _).symm.trans H; with_reducible exact H2_) | with_reducible exact H | (rw [hy140]; exact H) | exact H
   have Ny140 := Aside0.mk hy140; clear hy140; have H' := Aside0.mk H; clear H; go_enter Try.func39, Try.ntmps39
   go_wp2_with (first | ((with_reducible refine gate_dst (N := 11) rfl ?_); refine Kd.R_make (Kd.int .u64) _ 25 rfl (N := 11) rfl 71 _ _ rfl (l0.length : Int) rfl rfl Try.underlying71 (.int .u64 0) 8 info25 rfl (by decide) (by omega) 0 (ok := fun _ => True) (okp := fun _ => True) rfl (fun _ hk => hk) trivial (dt_) (Nat.le_trans (Nat.mul_le_mul_right _ (dt_ : (l0.length : Int).toNat ≤ 35184372088832)) (by omega)) (Below.refl _ _) (Nat.le_refl _) ?_; intro v141 w5 ho6 hb hg_ hnew_; clear hg_ hnew_; (first | rw [← Ny140.out] at ho6 | (simp only [Int.reduceToNat] at ho6; rw [← Ny140.out] at ho6)); have HO142 := Aside0.mk (Kd.R_lower ho6 (below_size bel_)); replace HB := bs_ w hb; clear hb ho6))
   go_loopg [6, 7] k (fun kq v6 v7 w' => ∃ (x5_1 : List Int) (x6_1 : Int) (x7_1 : Int), v6 = .int .u64 x6_1 ∧ v7 = .int .i64 x7_1 ∧ Aside0 (weirref03_over.l0 kq l0 a1 x5_1 x6_1 x7_1 = some r) ∧ Aside0 (kq ≤ k) ∧ Aside0 (Kd.R (Kd.int .u64) 25 w' w.heap.size (fun _ => True) v141 x5_1) ∧ Aside0 (Below w.heap.size w w'))
   case atStart => exact ⟨(y140), (0), (wrap64 ((l0.length : Int) - 1)), ff_, ff_, H', ⟨Nat.le_refl _⟩, ⟨rs_ HO142⟩, ⟨bel_⟩⟩
   case round =>
    clear H'; (try clear c3b0); (try clear c3b1); (try clear c4b0); (try clear c4b1); obtain ⟨x5_1, x6_1, x7_1, rfl, rfl, HA, HK1, HO_5, HB⟩ := hrel
    cases gk with
    | zero => exact absurd HA.out (by simp [weirref03_over.l0])
    | succ k1 =>
     have H := HA.out; clear HA; simp only [weirref03_over.l0] at H
     by_cases c7 : x7_1 ≥ 0
     ·
      rw [if_pos c7] at H; have c7b0 : decide (0 ≤ x7_1) = true := decide_eq_true c7; clear c7
      by_cases c8 : 0 ≤ x7_1
      ·
       rw [if_pos c8] at H; have c8b0 : decide (0 ≤ x7_1) = true := decide_eq_true c8; clear c8
       by_cases c9 : x7_1 < (l0.length : Int)
       ·
        rw [if_pos c9] at H; have c9b0 : decide (x7_1 < (l0.length : Int)) = true := decide_eq_true c9; clear c9
        by_cases c10 : a1 = 0
        ·
         rw [if_pos c10] at H; exact absurd H (by simp)
        ·
         rw [if_neg c10] at H; have c10b0 : (a1 == 0) = false := beq_eq_false_iff_ne.mpr c10; have c10b1 : (a1 != 0) = true := bne_iff_ne.mpr c10
         by_cases c11 : x7_1 < (x5_1.length : Int)
         ·
          rw [if_pos c11] at H; have c11b0 : decide (x7_1 < (x5_1.length : Int)) = true := decide_eq_true c11; clear c11; obtain ⟨y144, hy144⟩ : ∃ y_ : List Int, y_ = (x5_1.set (x7_1 : Int).toNat (IntKind.u64.wrap (Int.tdiv (Go.bits .or .u64 (IntKind.u64.wrap (x6_1 * 4294967296)) (rd l0 x7_1)) a1))) := ⟨_, rfl⟩; replace H : (weirref03_over.l0 k1 l0 a1 y144 (Int.tmod (Go.bits .or .u64 (IntKind.u64.wrap (x6_1 * 4294967296)) (rd l0 x7_1)) a1) (wrap64 (x7_1 - 1))) = some r := by first | (rw [hy144]; with_reducible exact H) | (have H2_ := (Option.bind_some _ _).symm.trans H; rw [hy144]; with_reducible exact H2_) | (have H2_ := (Option.bind_some _ _).symm.trans H; with_reducible exact H2_) | with_reducible exact H | (rw [hy144]; exact H) | exact H
          have Ny144 := Aside0.mk hy144; clear hy144; have H' := Aside0.mk H; clear H; have p143 : 0 ≤ (x7_1 : Int) := dt_; have q143 : x7_1 < (l0.length : Int) := dt_; obtain ⟨ad143, e143, hx143_0⟩ := Kd.at_int HR0.out x7_1 p143 q143; cases e143; replace hx143_0 := hx_ HB hx143_0; replace p143 := eq_true p143; replace q143 := eq_true q143; have p12 : 0 ≤ (x7_1 : Int) := dt_; have q12 : (x7_1 : Int) < ((x5_1.length : Int) : Int) := dt_; obtain ⟨go12, co12, eo12, gb12, gl12, cl12, HG12⟩ := Kd.R_form HO_5.out (by omega)
          (first | cases eo12 | (injection eo12 with ea_ en_ ec_; (first | subst ea_ | (injection ea_ with ea_; subst ea_)); subst ec_; clear en_))
          have GB12 := Aside0.mk gb12; have GG12 := Aside0.mk HG12; clear gb12 gl12 HG12; obtain ⟨hx12_0, hf12_0⟩ := Kd.R_celln 0 HO_5.out (x7_1 : Int) p12 q12; replace p12 := eq_true p12; replace q12 := eq_true q12; have HP13 := Kd.R_putg HO_5.out (x7_1 : Int) (IntKind.u64.wrap (Int.tdiv (Go.bits .or .u64 (IntKind.u64.wrap (x6_1 * 4294967296)) (rd l0 x7_1)) a1))
          go_wp2_with (first | ((with_reducible refine gate_store (t := 25) (p := 31) rfl ?_); refine st_ (t := 25) (p := 31) (w1 := (wr.setCell ⟨go12, (x7_1 : Int).toNat, none⟩ (.int .u64 (IntKind.u64.wrap (Int.tdiv (Go.bits .or .u64 (IntKind.u64.wrap (x6_1 * 4294967296)) (rd l0 x7_1)) a1))))) ?_; intro w14 hw; have hg : wr.grownBy w14 (some go12) := (by rw [hw]; exact HP13.2); have hp_ : Kd.R (Kd.int .u64) 25 w14 w.heap.size (fun _ => True) (.slice (some ⟨go12, 0, none⟩) x5_1.length co12) y144 := (by rw [hw, Ny144.out]; exact HP13.1); clear HP13; replace HO_5 := Aside0.mk (hp_); replace HB := Aside0.mk ((by rw [hw]; exact below_set (HB.out) GB12.out : Below w.heap.size w w14)); clear hg hw hp_))
          go_roundg k1
          case measure => have := HK1.out; omega
          case rel => exact ⟨(y144), (Int.tmod (Go.bits .or .u64 (IntKind.u64.wrap (x6_1 * 4294967296)) (rd l0 x7_1)) a1), (wrap64 (x7_1 - 1)), ff_, ff_, H', ⟨by have := HK1.out; omega⟩, ⟨rs_ HO_5⟩, ⟨bel_⟩⟩
         ·
          rw [if_neg c11] at H; exact absurd H (by simp)
       ·
        rw [if_neg c9] at H; exact absurd H (by simp)
      ·
       rw [if_neg c8] at H; exact absurd H (by simp)
     ·
      rw [if_neg c7] at H; have c7b0 : decide (0 ≤ x7_1) = false := decide_eq_false c7; clear c7; obtain rfl := Option.some.inj H; go_wp2
      go_ret
      exact ⟨_, ee_, rs_ HO_5, bel_⟩
  ·
   rw [if_neg c4] at H; exact absurd H (by simp)
 ·
  rw [if_neg c3] at H; exact absurd H (by simp)

/-! ### weirref03_Space_count: function 28 -/
-- NOT PRINTED: function 10 (weirref03_Space_Len)

-- NOT PRINTED: function 11 (odo_Space_At)

end Go.Proofs.Ytohpboblmmbjnaa.P
/- Numbers told by words of 32 bits; what times, over, add and word answer. -/
namespace Go.Proofs.Ytohpboblmmbjnaa.P
open Go Go.RowKit Go.Proofs.YtohpboblmmbjnaaW.PrintWords Go.Proofs.YtohpboblmmbjnaaW.PrintLast Go.Proofs.YtohpboblmmbjnaaW.PrintMore Go.Proofs.Odo
namespace Big
def M : Nat := 4294967296
theorem M_pos : 0 < M := by decide
def val : List Nat → Nat
  | [] => 0
  | x :: r => x + M * val r
def Good (b : List Nat) : Prop := ∀ x ∈ b, x < M
theorem val_append (a b : List Nat) : val (a ++ b) = val a + M ^ a.length * val b := by
  induction a with
  | nil => simp [val]
  | cons x a ih => rw [List.cons_append, val, val, ih, List.length_cons, Nat.pow_succ, Nat.mul_add, Nat.add_assoc]; congr 2; rw [← Nat.mul_assoc, Nat.mul_comm M]
theorem val_snoc (a : List Nat) (x : Nat) : val (a ++ [x]) = val a + M ^ a.length * x := by rw [val_append]; simp [val]
theorem good_nil : Good [] := fun _ h => by cases h
theorem good_append {a b : List Nat} (h : Good a) (h' : Good b) : Good (a ++ b) := fun x hx => by
  rcases List.mem_append.1 hx with hx | hx
  · exact h x hx
  · exact h' x hx
theorem good_one {x : Nat} (h : x < M) : Good [x] := fun y hy => by rw [List.mem_singleton.1 hy]; exact h
theorem good_snoc {a : List Nat} (h : Good a) {x : Nat} (hx : x < M) : Good (a ++ [x]) := good_append h (good_one hx)
theorem good_cons {a : List Nat} {x : Nat} (hx : x < M) (h : Good a) : Good (x :: a) := good_append (good_one hx) h
theorem good_at {b : List Nat} (h : Good b) (i : Nat) : b.getD i 0 < M := by
  rw [List.getD_eq_getElem?_getD]
  cases hi : b[i]? with
  | none => exact M_pos
  | some x => exact h x (List.mem_of_getElem? hi)
theorem val_take {b : List Nat} {i : Nat} (h : i < b.length) : val (b.take (i + 1)) = val (b.take i) + M ^ i * b.getD i 0 := by
  have e : b.take (i + 1) = b.take i ++ [b.getD i 0] := by
    rw [List.take_add_one, List.getD_eq_getElem?_getD, List.getElem?_eq_getElem h]
    rfl
  rw [e, val_snoc, List.length_take, Nat.min_eq_left (Nat.le_of_lt h)]
theorem val_drop {b : List Nat} {i : Nat} (h : i < b.length) : val (b.drop i) = b.getD i 0 + M * val (b.drop (i + 1)) := by
  rw [List.drop_eq_getElem_cons h, val, List.getD_eq_getElem?_getD, List.getElem?_eq_getElem h]
  rfl
/-- times: a digit and the carry. -/
theorem times_step {out : List Nat} {b : List Nat} {n c i : Nat} (hi : i < b.length) (hl : out.length = i) (h : val out + M ^ i * c = val (b.take i) * n) :
    val (out ++ [(b.getD i 0 * n + c) % M]) + M ^ (i + 1) * ((b.getD i 0 * n + c) / M) = val (b.take (i + 1)) * n := by
  obtain ⟨x, hx⟩ : ∃ x, b.getD i 0 = x := ⟨_, rfl⟩
  rw [val_snoc, val_take hi, hl, hx, Nat.add_mul, ← h, Nat.pow_succ, Nat.add_assoc, Nat.mul_assoc, ← Nat.mul_add, Nat.add_comm _ (M * _), Nat.div_add_mod, Nat.mul_add, Nat.mul_assoc]
  omega
theorem times_tail {out : List Nat} {c : Nat} : val (out ++ [c % M]) + M ^ (out.length + 1) * (c / M) = val out + M ^ out.length * c := by
  rw [val_snoc, Nat.pow_succ, Nat.add_assoc, Nat.mul_assoc, ← Nat.mul_add, Nat.add_comm _ (M * _), Nat.div_add_mod]
theorem over_step {b T : List Nat} {n c i : Nat} (hi : i < b.length) (h : val (b.drop (i + 1)) = n * val T + c) :
    val (b.drop i) = n * val (((c * M + b.getD i 0) / n) :: T) + (c * M + b.getD i 0) % n := by
  obtain ⟨x, hx⟩ : ∃ x, b.getD i 0 = x := ⟨_, rfl⟩
  rw [val_drop hi, h, hx, val]
  have := Nat.div_add_mod (c * M + x) n
  rw [Nat.mul_add, Nat.mul_add, ← Nat.mul_assoc M n, Nat.mul_comm M n, Nat.mul_assoc n M, Nat.mul_comm M c]
  omega
theorem over_good {c n x : Nat} (hc : c < n) (hx : x < M) : (c * M + x) / n < M := by
  rw [Nat.div_lt_iff_lt_mul (by omega)]
  have : (c + 1) * M ≤ n * M := Nat.mul_le_mul_right _ hc
  rw [Nat.add_mul, Nat.one_mul] at this
  rw [Nat.mul_comm M n]
  omega
theorem val_end {b : List Nat} {i : Nat} (h : b.length ≤ i) : val (b.take i) = val b := by rw [List.take_of_length_le h]
theorem val_past {b : List Nat} {i : Nat} (h : b.length ≤ i) : val (b.take (i + 1)) = val (b.take i) + M ^ i * b.getD i 0 := by
  rw [val_end h, val_end (by omega), List.getD_eq_getElem?_getD, List.getElem?_eq_none h]; rfl
theorem val_next (b : List Nat) (i : Nat) : val (b.take (i + 1)) = val (b.take i) + M ^ i * b.getD i 0 := by
  rcases Nat.lt_or_ge i b.length with h | h
  · exact val_take h
  · exact val_past h
theorem add_step {out a b : List Nat} {c i : Nat} (hl : out.length = i) (h : val out + M ^ i * c = val (a.take i) + val (b.take i)) :
    val (out ++ [(c + a.getD i 0 + b.getD i 0) % M]) + M ^ (i + 1) * ((c + a.getD i 0 + b.getD i 0) / M) = val (a.take (i + 1)) + val (b.take (i + 1)) := by
  obtain ⟨x, hx⟩ : ∃ x, a.getD i 0 = x := ⟨_, rfl⟩
  obtain ⟨y, hy⟩ : ∃ y, b.getD i 0 = y := ⟨_, rfl⟩
  have := times_tail (out := out) (c := c + x + y)
  rw [hl] at this
  rw [val_next a, val_next b, hx, hy, this, Nat.mul_add, Nat.mul_add]
  omega
theorem val_zero {b : List Nat} (h : ∀ x ∈ b, x = 0) : val b = 0 := by
  induction b with
  | nil => rfl
  | cons x b ih => rw [val, h x List.mem_cons_self, ih (fun y hy => h y (List.mem_cons_of_mem _ hy)), Nat.mul_zero]
theorem val_pos {b : List Nat} {i : Nat} (h : b.getD i 0 ≠ 0) : M ^ i ≤ val b := by
  have hi : i < b.length := by
    rcases Nat.lt_or_ge i b.length with h1 | h1
    · exact h1
    · rw [List.getD_eq_getElem?_getD, List.getElem?_eq_none h1] at h; exact absurd rfl h
  have e : b = b.take i ++ b.drop i := (List.take_append_drop i b).symm
  rw [e, val_append, List.length_take, Nat.min_eq_left (Nat.le_of_lt hi), val_drop hi]
  have : M ^ i * 1 ≤ M ^ i * (b.getD i 0 + M * val (b.drop (i + 1))) := Nat.mul_le_mul_left _ (by omega)
  omega
theorem val_two {b : List Nat} (h : ∀ i, 2 ≤ i → b.getD i 0 = 0) : val b = b.getD 0 0 + M * b.getD 1 0 := by
  have e : val (b.drop 2) = 0 := val_zero (fun x hx => by
    obtain ⟨i, hi, rfl⟩ := List.mem_iff_getElem.1 hx
    have := h (2 + i) (by omega)
    rw [List.getD_eq_getElem?_getD] at this
    rw [List.getElem_drop]
    rw [List.length_drop] at hi
    rw [List.getElem?_eq_getElem (by omega)] at this
    exact this)
  match b with
  | [] => rfl
  | [x] => rfl
  | x :: y :: r =>
    have e' : val r = 0 := e
    simp [val, e']
theorem val_big {b : List Nat} {i : Nat} (h2 : 2 ≤ i) (h : b.getD i 0 ≠ 0) : M * M ≤ val b := by
  have h1 := val_pos h
  have h3 : M ^ 2 ≤ M ^ i := Nat.pow_le_pow_right (by decide) h2
  have h4 : M ^ 2 = M * M := by rw [Nat.pow_succ, Nat.pow_one]
  omega
theorem val_small {b : List Nat} (hg : Good b) (h : ∀ i, 2 ≤ i → b.getD i 0 = 0) : val b < M * M := by
  rw [val_two h]
  have h0 := good_at hg 0
  have h1 := good_at hg 1
  have : M * (b.getD 1 0 + 1) ≤ M * M := Nat.mul_le_mul_left _ h1
  rw [Nat.mul_add] at this
  omega
theorem mask_nat {x : Nat} (h : x < 18446744073709551616) : Go.bits .and .u64 (x : Int) 4294967295 = ((x % M : Nat) : Int) := Mul64.maskN x h
theorem div_nat (x : Nat) : (x : Int) / 4294967296 = ((x / M : Nat) : Int) := Mul64.divN x
theorem wrap_nat {x : Nat} (h : x < 18446744073709551616) : IntKind.u64.wrap (x : Int) = (x : Int) := Mul64.wrapN x h
theorem next_nat {i n : Nat} (h : i < n) (hn : n ≤ 1000000) : wrap64 ((i : Int) + 1) = ((i + 1 : Nat) : Int) := by unfold wrap64; omega
theorem ints_snoc (a : List Nat) (x : Nat) : ints a ++ [((x : Nat) : Int)] = ints (a ++ [x]) := by simp [ints]
theorem times_x {x n c : Nat} (hx : x < M) (hn : n < M) (hc : c < M) : x * n + c < 18446744073709551616 ∧ (x * n + c) / M < M := by
  have h1 : x * n ≤ (M - 1) * (M - 1) := Nat.mul_le_mul (by omega) (by omega)
  have h2 : (M - 1) * (M - 1) = 18446744065119617025 := by decide
  have h3 : M = 4294967296 := rfl
  refine ⟨by omega, ?_⟩
  rw [Nat.div_lt_iff_lt_mul M_pos]
  have h4 : M * M = 18446744073709551616 := by decide
  omega
theorem times_l1 {out : List Nat} {c : Nat} (hg : Good out) (hc : c < M) (hl : out.length ≤ 1000000) : ∃ r, Good r ∧ val r = val out + M ^ out.length * c ∧ r.length ≤ out.length + 1 ∧ Ev (fun k => weirref03_times.l1 k (ints out) c) (ints r) := by
  by_cases h0 : c = 0
  · subst h0
    refine ⟨out, hg, by simp, by omega, Ev.step (f := fun _ => some (ints out)) (fun k => ?_) (Ev.now _)⟩
    simp only [weirref03_times.l1]
    rw [if_neg (by decide)]
  · have hm : c % M = c := Nat.mod_eq_of_lt hc
    have hd : c / M = 0 := Nat.div_eq_of_lt hc
    have hv := times_tail (out := out) (c := c)
    rw [hm, hd, Nat.mul_zero, Nat.add_zero] at hv
    refine ⟨out ++ [c], good_snoc hg hc, hv, by simp, Ev.step (f := fun k => weirref03_times.l1 k (ints (out ++ [c])) 0) (fun k => ?_) (Ev.step (f := fun _ => some (ints (out ++ [c]))) (fun k => ?_) (Ev.now _))⟩
    · simp only [weirref03_times.l1]
      rw [if_pos (by omega), if_pos (by rw [ints_length]; omega), mask_nat (Nat.lt_trans hc (by decide)), div_nat, hm, hd, ints_snoc]
      rfl
    · simp only [weirref03_times.l1]
      rw [if_neg (by decide)]
theorem times_l0 {b : List Nat} {n : Nat} (hb : Good b) (hn : n < M) (hl : b.length ≤ 900000) (d : Nat) : ∀ (i c : Nat) (out : List Nat), i + d = b.length → out.length = i → Good out → c < M → val out + M ^ i * c = val (b.take i) * n →
    ∃ r, Good r ∧ val r = val b * n ∧ r.length ≤ b.length + 1 ∧ Ev (fun k => weirref03_times.l0 k (ints b) n (ints out) c i) (ints r) := by
  induction d with
  | zero =>
    intro i c out hi ho hg hc hv
    obtain ⟨r, h1, h2, h3, h4⟩ := times_l1 hg hc (by omega)
    rw [ho, hv, val_end (by omega)] at h2
    refine ⟨r, h1, h2, by omega, Ev.step (f := fun k => weirref03_times.l1 k (ints out) c) (fun k => ?_) h4⟩
    simp only [weirref03_times.l0]
    rw [if_neg (by rw [ints_length]; omega)]
  | succ d ih =>
    intro i c out hi ho hg hc hv
    have hx := good_at hb i
    obtain ⟨x, hxe⟩ : ∃ x, b.getD i 0 = x := ⟨_, rfl⟩
    rw [hxe] at hx
    obtain ⟨h1, h2⟩ := times_x hx hn hc
    have hs := times_step (n := n) (c := c) (show i < b.length by omega) ho hv
    rw [hxe] at hs
    obtain ⟨r, r1, r2, r3, r4⟩ := ih (i + 1) ((x * n + c) / M) (out ++ [(x * n + c) % M]) (by omega) (by rw [List.length_append, ho]; rfl) (good_snoc hg (Nat.mod_lt _ M_pos)) h2 hs
    refine ⟨r, r1, r2, r3, Ev.step (fun k => ?_) r4⟩
    simp only [weirref03_times.l0]
    rw [if_pos (by rw [ints_length]; omega), if_pos (Int.natCast_nonneg i), if_pos (by rw [ints_length]; omega), rd_ints, hxe, next_nat (show i < b.length by omega) (by omega), Mul64.mulN, wrap_nat (by omega), Mul64.addN, wrap_nat h1, mask_nat h1, div_nat, ints_snoc]
theorem times_is {b : List Nat} {n : Nat} (hb : Good b) (hn : n < M) (hl : b.length ≤ 900000) : ∃ r, Good r ∧ val r = val b * n ∧ r.length ≤ b.length + 1 ∧ Ev (fun k => weirref03_times.f k (ints b) n) (ints r) := by
  obtain ⟨r, h1, h2, h3, h4⟩ := times_l0 hb hn hl b.length 0 0 [] (by omega) rfl good_nil M_pos (by simp [val])
  exact ⟨r, h1, h2, h3, h4⟩
theorem or_nat {c x : Nat} (hc : c < M) (hx : x < M) : Go.bits .or .u64 ((c * M : Nat) : Int) (x : Int) = ((c * M + x : Nat) : Int) := by
  have h1 : c * M + x < 18446744073709551616 := by
    have : (c + 1) * M ≤ M * M := Nat.mul_le_mul_right _ hc
    have h4 : M * M = 18446744073709551616 := by decide
    rw [Nat.add_mul] at this
    omega
  have h := bits_join .u64 64 (by decide) (fun n h0 h1 => by rw [IntKind.wrap_u64]; omega) 32 ((c * M : Nat) : Int) (x : Int) (Int.natCast_nonneg _) (by show ((c * 4294967296 : Nat) : Int) % 4294967296 = 0; omega)
    (by show ((c * M : Nat) : Int) < 18446744073709551616; omega) (Int.natCast_nonneg _) (by show (x : Int) < 4294967296; have : M = 4294967296 := rfl; omega) (by show (x : Int) < 18446744073709551616; omega)
  rw [h, Mul64.addN]
theorem mulM_nat (c : Nat) : (c : Int) * 4294967296 = ((c * M : Nat) : Int) := Mul64.mulN c M
theorem tdiv_nat (a b : Nat) : Int.tdiv (a : Int) (b : Int) = ((a / b : Nat) : Int) := by rw [Int.tdiv_eq_ediv_of_nonneg (by omega)]; rfl
theorem tmod_nat2 (a b : Nat) : Int.tmod (a : Int) (b : Int) = ((a % b : Nat) : Int) := by rw [Int.tmod_eq_emod_of_nonneg (by omega)]; rfl
theorem ints_rep (n : Nat) : List.replicate n (0 : Int) = ints (List.replicate n 0) := by simp [ints]
theorem ints_set (l : List Nat) (i x : Nat) : (ints l).set i (x : Int) = ints (l.set i x) := by simp [ints, List.map_set]
theorem set_zero {i : Nat} {T : List Nat} (y : Nat) : (List.replicate (i + 1) 0 ++ T).set i y = List.replicate i 0 ++ (y :: T) := by
  rw [List.replicate_succ', List.append_assoc, List.set_append_right _ _ (by rw [List.length_replicate]; exact Nat.le_refl _), List.length_replicate, Nat.sub_self, List.singleton_append, List.set_cons_zero]
theorem pred_nat (i : Nat) (h : i ≤ 1000000) : wrap64 ((i : Int) - 1) = (i : Int) - 1 := by unfold wrap64; omega
theorem over_x {c n x : Nat} (hc : c < n) (hn : n ≤ 1000) (hx : x < M) : c * M + x < 18446744073709551616 := by
  have h3 : M = 4294967296 := rfl
  have : (c + 1) * M ≤ 1000 * M := Nat.mul_le_mul_right _ (by omega)
  rw [Nat.add_mul] at this
  omega
theorem over_l0 {b : List Nat} {n : Nat} (hb : Good b) (hn : 0 < n) (hn2 : n ≤ 1000) (hl : b.length ≤ 900000) (j : Nat) : ∀ (c : Nat) (T : List Nat), j + T.length = b.length → Good T → c < n → val (b.drop j) = n * val T + c →
    ∃ r, Good r ∧ (∃ c', val b = n * val r + c' ∧ c' < n) ∧ r.length = b.length ∧ Ev (fun k => weirref03_over.l0 k (ints b) n (ints (List.replicate j 0 ++ T)) c ((j : Int) - 1)) (ints r) := by
  induction j with
  | zero =>
    intro c T hi hg hc hv
    refine ⟨T, hg, ⟨c, by rw [List.drop_zero] at hv; exact hv, hc⟩, by omega, Ev.step (f := fun _ => some (ints T)) (fun k => ?_) (Ev.now _)⟩
    simp only [weirref03_over.l0]
    rw [if_neg (by decide)]
    rfl
  | succ j ih =>
    intro c T hi hg hc hv
    have hx := good_at hb j
    obtain ⟨x, hxe⟩ : ∃ x, b.getD j 0 = x := ⟨_, rfl⟩
    rw [hxe] at hx
    have hs := over_step (n := n) (show j < b.length by omega) hv
    rw [hxe] at hs
    have hcM : c < M := Nat.lt_of_lt_of_le hc (Nat.le_trans hn2 (by decide))
    have h1 := over_x hc hn2 hx
    obtain ⟨r, r1, r2, r3, r4⟩ := ih ((c * M + x) % n) (((c * M + x) / n) :: T) (by rw [List.length_cons]; omega) (good_cons (over_good hc hx) hg) (Nat.mod_lt _ hn) hs
    have hq : (c * M + x) / n < 18446744073709551616 := Nat.lt_of_le_of_lt (Nat.div_le_self _ _) h1
    have hlen : (ints (List.replicate (j + 1) 0 ++ T)).length = b.length := by rw [ints_length, List.length_append, List.length_replicate]; omega
    refine ⟨r, r1, r2, r3, Ev.step (fun k => ?_) r4⟩
    have hj : ((j + 1 : Nat) : Int) - 1 = (j : Int) := by omega
    simp only [weirref03_over.l0]
    rw [hj, if_pos (Int.natCast_nonneg j), if_pos (Int.natCast_nonneg j), if_pos (by rw [ints_length]; omega), if_neg (by omega), if_pos (by rw [hlen]; omega), rd_ints, hxe, mulM_nat, wrap_nat (by omega), or_nat hcM hx, tdiv_nat, tmod_nat2, wrap_nat hq, Int.toNat_natCast, ints_set, set_zero, pred_nat j (by omega)]
theorem over_is {b : List Nat} {n : Nat} (hb : Good b) (hn : 0 < n) (hn2 : n ≤ 1000) (hl : b.length ≤ 900000) : ∃ r, Good r ∧ val r = val b / n ∧ r.length = b.length ∧ Ev (fun k => weirref03_over.f k (ints b) n) (ints r) := by
  obtain ⟨r, h1, ⟨c, h2, h3⟩, h4, h5⟩ := over_l0 hb hn hn2 hl b.length 0 [] (by simp) good_nil hn (by simp [val])
  refine ⟨r, h1, ?_, h4, Ev.congr (fun k => ?_) h5⟩
  · rw [h2, Nat.mul_comm, Nat.add_comm, Nat.add_mul_div_right _ _ hn, Nat.div_eq_of_lt h3, Nat.zero_add]
  · simp only [weirref03_over.f]
    rw [if_pos (Int.natCast_nonneg _), ints_length, Int.toNat_natCast, if_pos (by omega), ints_rep, List.append_nil, pred_nat b.length (by omega)]
    rfl
end Big
end Go.Proofs.Ytohpboblmmbjnaa.P
/- Sums of great numbers. -/
namespace Go.Proofs.Ytohpboblmmbjnaa.P
open Go Go.RowKit Go.Proofs.YtohpboblmmbjnaaW.PrintWords Go.Proofs.YtohpboblmmbjnaaW.PrintLast Go.Proofs.YtohpboblmmbjnaaW.PrintMore Go.Proofs.Odo
namespace Big
theorem add_x {a b c : Nat} (ha : a < M) (hb : b < M) (hc : c < 2) : c + a + b < 18446744073709551616 ∧ (c + a + b) / M < 2 ∧ c + a < 18446744073709551616 := by
  have h3 : M = 4294967296 := rfl
  refine ⟨by omega, ?_, by omega⟩
  rw [Nat.div_lt_iff_lt_mul M_pos]
  omega
theorem lt_ints {a : List Nat} {i : Nat} (h : i < a.length) : (i : Int) < ((ints a).length : Int) := by rw [ints_length]; omega
theorem nlt_ints {a : List Nat} {i : Nat} (h : ¬ i < a.length) : ¬ (i : Int) < ((ints a).length : Int) := by rw [ints_length]; omega
theorem out_small {a : List Nat} (h : a.length ≤ 1000000) : (ints a).length < 17592186044416 := by rw [ints_length]; omega
theorem getD_none {a : List Nat} {i : Nat} (h : ¬ i < a.length) : a.getD i 0 = 0 := by rw [List.getD_eq_getElem?_getD, List.getElem?_eq_none (Nat.le_of_not_lt h)]; rfl
theorem add_eq {a b out : List Nat} {c i x y : Nat} (hxe : a.getD i 0 = x) (hye : b.getD i 0 = y) (q1 : c + x + y < 18446744073709551616) (q3 : c + x < 18446744073709551616) (ho : out.length ≤ 1000000) (hnx : wrap64 ((i : Int) + 1) = ((i + 1 : Nat) : Int)) (hne : ¬ i < a.length → ¬ i < b.length → (c : Int) > 0) (k : Nat) :
    weirref03_add.l0 (k + 2) (ints a) (ints b) (ints out) c i = weirref03_add.l0 k (ints a) (ints b) (ints (out ++ [(c + x + y) % M])) (((c + x + y) / M : Nat) : Int) ((i + 1 : Nat) : Int) := by
  have e1 : weirref03_add.l0 (k + 2) (ints a) (ints b) (ints out) c i = weirref03_add.j1 (k + 1) (ints a) (ints b) (ints out) c i true := by
    show weirref03_add.l0 (k + 1 + 1) _ _ _ _ _ = _
    rw [weirref03_add.l0]
    by_cases h1 : i < a.length
    · rw [if_pos (lt_ints h1)]
    · rw [if_neg (nlt_ints h1)]
      by_cases h2 : i < b.length
      · rw [if_pos (lt_ints h2)]
      · rw [if_neg (nlt_ints h2), decide_eq_true (hne h1 h2)]
  have hol := out_small ho
  rw [e1, weirref03_add.j1, if_pos rfl]
  by_cases h1 : i < a.length
  · rw [if_pos (lt_ints h1), if_pos (Int.natCast_nonneg i)]
    by_cases h2 : i < b.length
    · rw [if_pos (lt_ints h2), if_pos hol, rd_ints, rd_ints, hxe, hye, Mul64.addN, wrap_nat q3, Mul64.addN, wrap_nat q1, mask_nat q1, div_nat, ints_snoc, hnx]
    · obtain rfl : y = 0 := hye.symm.trans (getD_none h2)
      simp only [Nat.add_zero]
      rw [if_neg (nlt_ints h2), if_pos hol, rd_ints, hxe, Mul64.addN, wrap_nat q3, mask_nat q3, div_nat, ints_snoc, hnx]
  · obtain rfl : x = 0 := hxe.symm.trans (getD_none h1)
    simp only [Nat.add_zero] at q1 q3 ⊢
    rw [if_neg (nlt_ints h1)]
    by_cases h2 : i < b.length
    · rw [if_pos (lt_ints h2), if_pos (Int.natCast_nonneg i), if_pos hol, rd_ints, hye, Mul64.addN, wrap_nat q1, mask_nat q1, div_nat, ints_snoc, hnx]
    · obtain rfl : y = 0 := hye.symm.trans (getD_none h2)
      simp only [Nat.add_zero]
      rw [if_neg (nlt_ints h2), if_pos hol, mask_nat q3, div_nat, ints_snoc, hnx]
theorem Ev.step2 {α : Type} {g f : Nat → Option α} {r : α} (h : ∀ k, g (k + 2) = f k) (k : Ev f r) : Ev g r := by
  obtain ⟨K, hK⟩ := k
  refine ⟨K + 2, fun k hk => ?_⟩
  obtain ⟨j, rfl⟩ : ∃ j, k = j + 2 := ⟨k - 2, by omega⟩
  rw [h]
  exact hK j (by omega)
theorem add_l0 {a b : List Nat} (ha : Good a) (hb : Good b) {N : Nat} (hla : a.length ≤ N) (hlb : b.length ≤ N) (hN : N ≤ 900000) (d : Nat) : ∀ (i c : Nat) (out : List Nat), i + d = N + 1 → out.length = i → Good out → c < 2 → (N < i → c = 0) → val out + M ^ i * c = val (a.take i) + val (b.take i) →
    ∃ r, Good r ∧ val r = val a + val b ∧ r.length ≤ N + 1 ∧ Ev (fun k => weirref03_add.l0 k (ints a) (ints b) (ints out) c i) (ints r) := by
  have done : ∀ (i : Nat) (out : List Nat), a.length ≤ i → b.length ≤ i → out.length = i → i ≤ N + 1 → Good out → val out + M ^ i * 0 = val (a.take i) + val (b.take i) → ∃ r, Good r ∧ val r = val a + val b ∧ r.length ≤ N + 1 ∧ Ev (fun k => weirref03_add.l0 k (ints a) (ints b) (ints out) ((0 : Nat) : Int) i) (ints r) := by
    intro i out h1 h2 h3 h4 hg hv
    rw [val_end h1, val_end h2, Nat.mul_zero, Nat.add_zero] at hv
    refine ⟨out, hg, hv, by rw [h3]; exact h4, Ev.step (f := fun k => weirref03_add.j1 k (ints a) (ints b) (ints out) ((0 : Nat) : Int) i false) (fun k => ?_) (Ev.step (f := fun _ => some (ints out)) (fun k => ?_) (Ev.now _))⟩
    · rw [weirref03_add.l0, if_neg (nlt_ints (Nat.not_lt.2 h1)), if_neg (nlt_ints (Nat.not_lt.2 h2))]
      rfl
    · rw [weirref03_add.j1, if_neg (by decide)]
  induction d with
  | zero =>
    intro i c out hi ho hg hc hz hv
    have hi' : i = N + 1 := hi
    subst hi'
    obtain rfl := hz (Nat.lt_succ_self N)
    exact done _ out (Nat.le_succ_of_le hla) (Nat.le_succ_of_le hlb) ho (Nat.le_refl _) hg hv
  | succ d ih =>
    intro i c out hi ho hg hc hz hv
    have hiN : i ≤ N := by clear hv done ih hz; omega
    have hd : i + 1 + d = N + 1 := by clear hv done ih hz; omega
    have hi9 : i ≤ 900000 := Nat.le_trans hiN hN
    have hx := good_at ha i
    have hy := good_at hb i
    obtain ⟨x, hxe⟩ : ∃ x, a.getD i 0 = x := ⟨_, rfl⟩
    obtain ⟨y, hye⟩ : ∃ y, b.getD i 0 = y := ⟨_, rfl⟩
    by_cases hend : a.length ≤ i ∧ b.length ≤ i ∧ c = 0
    · obtain ⟨h1, h2, rfl⟩ := hend
      exact done i out h1 h2 ho (Nat.le_succ_of_le hiN) hg hv
    · have hs := add_step (a := a) (b := b) (c := c) ho hv
      rw [hxe] at hx hs
      rw [hye] at hy hs
      obtain ⟨q1, q2, q3⟩ := add_x hx hy hc
      have hnx : wrap64 ((i : Int) + 1) = ((i + 1 : Nat) : Int) := next_nat (Nat.lt_succ_self i) (Nat.le_trans (Nat.succ_le_succ hi9) (by decide))
      have hne : ¬ i < a.length → ¬ i < b.length → (c : Int) > 0 := fun h1 h2 => by
        have : c ≠ 0 := fun h => hend ⟨Nat.le_of_not_lt h1, Nat.le_of_not_lt h2, h⟩
        clear hv hs done ih hz q1 q2 q3
        omega
      have hlast : N < i + 1 → (c + x + y) / M = 0 := fun h => by
        have h3 : ¬ i < a.length := Nat.not_lt.2 (Nat.le_trans hla (Nat.le_of_lt_succ h))
        have h4 : ¬ i < b.length := Nat.not_lt.2 (Nat.le_trans hlb (Nat.le_of_lt_succ h))
        rw [← hxe, ← hye, getD_none h3, getD_none h4]
        exact Nat.div_eq_of_lt (Nat.lt_of_lt_of_le hc (by decide))
      obtain ⟨r, r1, r2, r3, r4⟩ := ih (i + 1) ((c + x + y) / M) (out ++ [(c + x + y) % M]) hd (by rw [List.length_append, ho]; rfl) (good_snoc hg (Nat.mod_lt _ M_pos)) q2 hlast hs
      exact ⟨r, r1, r2, r3, Ev.step2 (fun k => add_eq hxe hye q1 q3 (by rw [ho]; exact Nat.le_trans hi9 (by decide)) hnx hne k) r4⟩
theorem add_is {a b : List Nat} (ha : Good a) (hb : Good b) {N : Nat} (hla : a.length ≤ N) (hlb : b.length ≤ N) (hN : N ≤ 900000) : ∃ r, Good r ∧ val r = val a + val b ∧ r.length ≤ N + 1 ∧ Ev (fun k => weirref03_add.f k (ints a) (ints b)) (ints r) := by
  obtain ⟨r, h1, h2, h3, h4⟩ := add_l0 ha hb hla hlb hN (N + 1) 0 0 [] (by omega) rfl good_nil (by decide) (fun h => by omega) (by simp [val])
  exact ⟨r, h1, h2, h3, h4⟩
end Big
end Go.Proofs.Ytohpboblmmbjnaa.P
/- What word answers. -/
namespace Go.Proofs.Ytohpboblmmbjnaa.P
open Go Go.RowKit Go.Proofs.YtohpboblmmbjnaaW.PrintWords Go.Proofs.YtohpboblmmbjnaaW.PrintLast Go.Proofs.YtohpboblmmbjnaaW.PrintMore Go.Proofs.Odo
namespace Big
theorem shl_zero {x : Nat} (h : x < M) : shl .u64 (x : Int) (IntKind.u64.wrap (wrap64 (32 * ((0 : Nat) : Int)))) = (x : Int) := by
  have e : IntKind.u64.wrap (wrap64 (32 * ((0 : Nat) : Int))) = 0 := by unfold wrap64; rw [IntKind.wrap_u64]; omega
  rw [e]
  show IntKind.u64.wrap ((x : Int) * 2 ^ 0) = _
  rw [Int.pow_zero, Int.mul_one, wrap_nat (Nat.lt_trans h (by decide))]
theorem shl_one {x : Nat} (h : x < M) : shl .u64 (x : Int) (IntKind.u64.wrap (wrap64 (32 * ((1 : Nat) : Int)))) = ((x * M : Nat) : Int) := by
  have e : IntKind.u64.wrap (wrap64 (32 * ((1 : Nat) : Int))) = 32 := by unfold wrap64; rw [IntKind.wrap_u64]; omega
  rw [e]
  show IntKind.u64.wrap ((x : Int) * 4294967296) = _
  have hM : M = 4294967296 := rfl
  rw [mulM_nat, wrap_nat (Nat.lt_of_lt_of_le (Nat.mul_lt_mul_of_pos_right h M_pos) (by decide))]
theorem or_swap {c x : Nat} (hc : c < M) (hx : x < M) : Go.bits .or .u64 (x : Int) ((c * M : Nat) : Int) = ((x + M * c : Nat) : Int) := by
  have h := or_nat hc hx
  have e : Go.bits .or .u64 (x : Int) ((c * M : Nat) : Int) = Go.bits .or .u64 ((c * M : Nat) : Int) (x : Int) := by
    unfold Go.bits
    simp only [BitVec.or_comm]
  rw [e, h, Nat.mul_comm c M, Nat.add_comm]
theorem or_none {x : Nat} (h : x < M) : Go.bits .or .u64 0 (x : Int) = (x : Int) := by
  have h := or_nat (c := 0) M_pos h
  rw [Nat.zero_mul, Nat.zero_add] at h
  exact h
def wordR (v : Nat) : Int × Bool := if v < 18446744073709551616 then (((v : Nat) : Int), true) else (0, false)
theorem word_rest {b : List Nat} (hl : b.length ≤ 900000) {n : Int} (d : Nat) : ∀ i : Nat, i + d = b.length → 2 ≤ i →
    ((∀ j, i ≤ j → b.getD j 0 = 0) ∧ Ev (fun k => weirref03_word.l0 k (ints b) n i) (n, true)) ∨ ((∃ j, i ≤ j ∧ b.getD j 0 ≠ 0) ∧ Ev (fun k => weirref03_word.l0 k (ints b) n i) (0, false)) := by
  induction d with
  | zero =>
    intro i hi h2
    refine .inl ⟨fun j hj => by rw [List.getD_eq_getElem?_getD, List.getElem?_eq_none (by omega)]; rfl, Ev.step (f := fun _ => some (n, true)) (fun k => ?_) (Ev.now _)⟩
    simp only [weirref03_word.l0]
    rw [if_neg (by rw [ints_length]; omega)]
  | succ d ih =>
    intro i hi h2
    obtain ⟨x, hx⟩ : ∃ x, b.getD i 0 = x := ⟨_, rfl⟩
    have e1 : ∀ k, weirref03_word.l0 (k + 1) (ints b) n i = weirref03_word.j1 k (ints b) n i (decide ((x : Int) > 0)) := fun k => by
      simp only [weirref03_word.l0]
      rw [if_pos (by rw [ints_length]; omega), if_pos (by omega), if_pos (by omega), rd_ints, hx]
    by_cases h0 : x = 0
    · have e2 : ∀ k, weirref03_word.j1 (k + 1) (ints b) n i (decide ((x : Int) > 0)) = weirref03_word.l0 k (ints b) n ((i + 1 : Nat) : Int) := fun k => by
        simp only [weirref03_word.j1]
        rw [if_neg (by rw [h0]; decide), if_neg (by omega), next_nat (show i < b.length by omega) (by omega)]
      rcases ih (i + 1) (by omega) (by omega) with ⟨h, he⟩ | ⟨⟨j, hj, hne⟩, he⟩
      · refine .inl ⟨fun j hj => ?_, Ev.step e1 (Ev.step e2 he)⟩
        rcases Nat.eq_or_lt_of_le hj with rfl | hj
        · rw [hx, h0]
        · exact h j hj
      · exact .inr ⟨⟨j, by omega, hne⟩, Ev.step e1 (Ev.step e2 he)⟩
    · refine .inr ⟨⟨i, Nat.le_refl _, by rw [hx]; exact h0⟩, Ev.step e1 (Ev.step (f := fun _ => some (0, false)) (fun k => ?_) (Ev.now _))⟩
      simp only [weirref03_word.j1]
      rw [if_pos (decide_eq_true (show (x : Int) > 0 by omega))]
theorem word_low {b : List Nat} {n : Int} {i : Nat} (hi : i < b.length) (h2 : i < 2) (hl : b.length ≤ 900000) {r : Int × Bool} {m : Int} (hm : Go.bits .or .u64 n (shl .u64 ((b.getD i 0 : Nat) : Int) (IntKind.u64.wrap (wrap64 (32 * (i : Int))))) = m)
    (h : Ev (fun k => weirref03_word.l0 k (ints b) m ((i + 1 : Nat) : Int)) r) : Ev (fun k => weirref03_word.l0 k (ints b) n i) r := by
  refine Ev.step (f := fun k => weirref03_word.j1 k (ints b) n i false) (fun k => ?_) (Ev.step (fun k => ?_) h)
  · simp only [weirref03_word.l0]
    rw [if_pos (by rw [ints_length]; omega), if_neg (by omega)]
  · simp only [weirref03_word.j1]
    rw [if_neg (by decide), if_pos (by omega), if_pos (by omega), if_pos (by rw [ints_length]; omega), if_pos (by rw [IntKind.wrap_u64]; omega), rd_ints, hm, next_nat hi (by omega)]
theorem word_is {b : List Nat} (hb : Good b) (hl : b.length ≤ 900000) : Ev (fun k => weirref03_word.f k (ints b)) (wordR (val b)) := by
  show Ev (fun k => weirref03_word.l0 k (ints b) 0 ((0 : Nat) : Int)) _
  have hMM : M * M = 18446744073709551616 := by decide
  have stop : ∀ (n : Int) (i : Nat), b.length ≤ i → Ev (fun k => weirref03_word.l0 k (ints b) n i) (n, true) := fun n i h => Ev.step (f := fun _ => some (n, true)) (fun k => by
    simp only [weirref03_word.l0]
    rw [if_neg (by rw [ints_length]; omega)]) (Ev.now _)
  match hbb : b with
  | [] => exact stop 0 0 (Nat.le_refl _)
  | [x] =>
    have hx := hb x (by simp)
    refine word_low (by simp) (by decide) (by simp) (m := (x : Int)) ?_ ?_
    · show Go.bits .or .u64 0 (shl .u64 (x : Int) _) = _
      rw [shl_zero hx, or_none hx]
    · have e : wordR (val [x]) = ((x : Int), true) := by
        unfold wordR
        rw [if_pos (by simp [val]; exact Nat.lt_trans hx (by decide))]
        simp [val]
      rw [e]
      exact stop _ _ (by simp)
  | x :: y :: r =>
    have hx := hb x (by simp)
    have hy := hb y (by simp)
    refine word_low (by simp) (by decide) hl (m := (x : Int)) ?_ (word_low (by simp) (by decide) hl (m := ((x + M * y : Nat) : Int)) ?_ ?_)
    · show Go.bits .or .u64 0 (shl .u64 (x : Int) _) = _
      rw [shl_zero hx, or_none hx]
    · show Go.bits .or .u64 (x : Int) (shl .u64 (y : Int) _) = _
      rw [shl_one hy, or_swap hy hx]
    · rcases word_rest (n := ((x + M * y : Nat) : Int)) hl r.length 2 (by simp only [List.length_cons]; omega) (Nat.le_refl _) with ⟨h, he⟩ | ⟨⟨j, hj, hne⟩, he⟩
      · have h1 := val_two h
        have h2 := val_small hb h
        rw [hMM] at h2
        have e : wordR (val (x :: y :: r)) = (((x + M * y : Nat) : Int), true) := by
          unfold wordR
          rw [if_pos h2, h1]
          rfl
        rw [e]
        exact he
      · have h1 := val_big hj hne
        rw [hMM] at h1
        have e : wordR (val (x :: y :: r)) = (0, false) := by
          unfold wordR
          rw [if_neg (by omega)]
        rw [e]
        exact he
end Big
end Go.Proofs.Ytohpboblmmbjnaa.P
