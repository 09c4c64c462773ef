-- Printed by xprint.py, a program of this session over the kit's printer.
import Derived.Test.YtemhpbdlonfikaaP0
namespace Go.Proofs.Ytemhpbdlonfikaa.P
open Go.RowKit Go.Proofs.YtemhpbdlonfikaaW.PrintWords Go.Proofs.YtemhpbdlonfikaaW.PrintLast Go.Proofs.YtemhpbdlonfikaaW.PrintMore
attribute [local go_sem] max2_int min2_int max_two min_two max_three min_three max_four min_four   -- for this text's walks alone

/-! ### weirref09_Copy: function 44 -/
def weirref09_Copy.l0 : Nat → List (List Int) → List (List Int) → Int → Option ((List (List Int)))
 | 0, _, _, _ => none
 | k + 1, x0, x3, x4 => if x4 < (x0.length : Int) then ((some (([] : List Int) : List Int)).bind fun y263 => (if 0 ≤ x4 then (if y263.length + (rd_L5 x0 x4).length < 17592186044416 then (if x3.length < 5864062014805 then (weirref09_Copy.l0 k x0 (x3 ++ [(y263 ++ (rd_L5 x0 x4))]) (wrap64 (x4 + 1))) else (none)) else (none)) else (none))) else (some x3)
def weirref09_Copy.f (k : Nat) (l0 : List (List Int)) : Option ((List (List Int))) := weirref09_Copy.l0 k l0 ([] : List (List Int)) 0
theorem weirref09_Copy.mono_l : ∀ k, (∀ y0 y1 y2, LeO (weirref09_Copy.l0 k y0 y1 y2) (weirref09_Copy.l0 (k + 1) y0 y1 y2))
 | 0 => fun _ _ _ r h => by simp [weirref09_Copy.l0] at h
 | k + 1 => by
  have ih0 := weirref09_Copy.mono_l k
  ·
   intro y0 y1 y2; unfold weirref09_Copy.l0
   repeat' first
   | (with_reducible exact ih0 _ _ _)
   | (with_reducible exact LeO.refl _)
   | (with_reducible exact LeO.none _)
   | (with_reducible refine LeO.ite ?_ ?_)
   | (with_reducible refine LeO.bind ?_ (fun _ => ?_))
   | exact ih0 _ _ _
   | exact LeO.none _
   | refine LeO.ite ?_ ?_
   | refine LeO.bind ?_ (fun _ => ?_)
theorem weirref09_Copy.mono : ∀ a0 k, LeO (weirref09_Copy.f k a0) (weirref09_Copy.f (k + 1) a0) := by
 intro a0 k; have ih0 := weirref09_Copy.mono_l k; unfold weirref09_Copy.f
 repeat' first
   | (with_reducible exact ih0 _ _ _)
   | (with_reducible exact LeO.refl _)
   | (with_reducible exact LeO.none _)
   | (with_reducible refine LeO.ite ?_ ?_)
   | (with_reducible refine LeO.bind ?_ (fun _ => ?_))
   | exact ih0 _ _ _
   | exact LeO.none _
   | refine LeO.ite ?_ ?_
   | refine LeO.bind ?_ (fun _ => ?_)
set_option maxHeartbeats 8000000 in
set_option maxRecDepth 100000 in
theorem weirref09_Copy.calls (k : Nat) (A0 : Option Addr) (c0 : Nat) (l0 : List (List Int)) (r : List (List Int)) (w : World) (hr0 : Kd.C (Kd.slice 2 (Kd.int .i64)) w A0 l0.length l0) (hc0 : l0.length ≤ c0) (h : weirref09_Copy.f k l0 = some r) :
  Calls Try.prog 44 #[.slice A0 l0.length c0] w fun e w' => ∃ v0_ : Value, e = .returned (v0_) ∧ Kd.S (Kd.slice 2 (Kd.int .i64)) 26 w' w.heap.size (fun _ => True) v0_ r ∧ Below w.heap.size w w' := by
 have HR0 := Aside0.mk hr0; have HC0 := Aside0.mk hc0; clear hr0 hc0; have HB := Aside0.mk (Below.refl w.heap.size w); have H : (weirref09_Copy.l0 k l0 ([] : List (List Int)) 0) = some r := h; clear h; have H' := Aside0.mk H; clear H; go_enter Try.func44, Try.ntmps44; go_wp2
 go_loopg [3, 4] k (fun kq v3 v4 w' => ∃ (x3_1 : List (List Int)) (x4_1 : Int), v4 = .int .i64 x4_1 ∧ Aside0 (weirref09_Copy.l0 kq l0 x3_1 x4_1 = some r) ∧ Aside0 (kq ≤ k) ∧ Aside0 (Kd.S (Kd.slice 2 (Kd.int .i64)) 26 w' w.heap.size (fun _ => True) v3 x3_1) ∧ Aside0 (Below w.heap.size w w'))
 case atStart => exact ⟨(([] : List (List Int))), (0), ff_, H', ⟨Nat.le_refl _⟩, ⟨by first | exact Kd.S_nil _ _ _ _ _ | exact Kd.N_nil _ _ _ _ _ | exact Kd.V_nil _ _ _ _ _ | exact Kd.Q_nil _ _ _ _ _ | exact Kd.R_nil _ _ _ _ _⟩, ⟨bel_⟩⟩
 case round =>
  clear H'; obtain ⟨x3_1, x4_1, rfl, HA, HK1, HO_3, HB⟩ := hrel
  cases gk with
  | zero => exact absurd HA.out (by simp [weirref09_Copy.l0])
  | succ k1 =>
   have H := HA.out; clear HA; simp only [weirref09_Copy.l0] at H
   by_cases c2 : x4_1 < (l0.length : Int)
   ·
    rw [if_pos c2] at H; have c2b0 : decide (x4_1 < (l0.length : Int)) = true := decide_eq_true c2; clear c2; obtain ⟨y263, hy263⟩ : ∃ y_ : List Int, y_ = (([] : List Int)) := ⟨_, rfl⟩; replace H : (if 0 ≤ x4_1 then (if y263.length + (rd_L5 l0 x4_1).length < 17592186044416 then (if x3_1.length < 5864062014805 then (weirref09_Copy.l0 k1 l0 (x3_1 ++ [(y263 ++ (rd_L5 l0 x4_1))]) (wrap64 (x4_1 + 1))) else (none)) else (none)) else (none)) = some r := by first | (rw [hy263]; with_reducible exact H) | (have H2_ := (Option.bind_some _ _).symm.trans H; rw [hy263]; with_reducible exact H2_) | (have H2_ := (Option.bind_some _ _).symm.trans H; with_reducible exact H2_) | with_reducible exact H | (rw [hy263]; exact H) | exact H
    have Ny263 := Aside0.mk hy263; clear hy263
    by_cases c3 : 0 ≤ x4_1
    ·
     rw [if_pos c3] at H; have c3b0 : decide (0 ≤ x4_1) = true := decide_eq_true c3; clear c3
     by_cases c4 : y263.length + (rd_L5 l0 x4_1).length < 17592186044416
     ·
      rw [if_pos c4] at H; have LMc4 := Aside0.mk c4; clear c4; obtain ⟨y267, hy267⟩ : ∃ y_ : List Int, y_ = (y263 ++ (rd_L5 l0 x4_1)) := ⟨_, rfl⟩; replace H : (if x3_1.length < 5864062014805 then (weirref09_Copy.l0 k1 l0 (x3_1 ++ [y267]) (wrap64 (x4_1 + 1))) else (none)) = some r := by first | (rw [hy267]; with_reducible exact H) | (have H2_ := (Option.bind_some _ _).symm.trans H; rw [hy267]; with_reducible exact H2_) | (have H2_ := (Option.bind_some _ _).symm.trans H; with_reducible exact H2_) | with_reducible exact H | (rw [hy267]; exact H) | exact H
      have Ny267 := Aside0.mk hy267; clear hy267
      by_cases c5 : x3_1.length < 5864062014805
      ·
       rw [if_pos c5] at H; have LMc5 := Aside0.mk c5; clear c5; obtain ⟨y270, hy270⟩ : ∃ y_ : List (List Int), y_ = (x3_1 ++ [y267]) := ⟨_, rfl⟩; replace H : (weirref09_Copy.l0 k1 l0 y270 (wrap64 (x4_1 + 1))) = some r := by first | (rw [hy270]; with_reducible exact H) | (have H2_ := (Option.bind_some _ _).symm.trans H; rw [hy270]; with_reducible exact H2_) | (have H2_ := (Option.bind_some _ _).symm.trans H; with_reducible exact H2_) | with_reducible exact H | (rw [hy270]; exact H) | exact H
       have Ny270 := Aside0.mk hy270; clear hy270; have H' := Aside0.mk H; clear H
       go_wp2_with (first | ((with_reducible refine gate_dst (N := 12) rfl ?_); refine Kd.R_lit (Kd.int .i64) _ 2 ?hg (N := 12) ?hd (xs := ([] : List Int)) (inner := []) (ok := fun _ => True) (okp := fun _ => True) ?hr ?hp (fun _ hk => hk) trivial (Below.refl _ _) (Nat.le_refl _) (by simp) ?_; (case hd => rfl); (case hg => rfl); (case hr => first | (go_simp; done) | (go_simp; rfl)); (case hp => exact (Reps.none _ _)); intro v264 w6 ho7 hb hg_ hnew_; clear hg_ hnew_; (first | rw [← Ny263.out] at ho7 | (simp only [Int.reduceToNat] at ho7; rw [← Ny263.out] at ho7)); have n0_ := Aside0.mk (Kd.S_elder' (by (with_reducible repeat (first | apply Kd.S_alloc | apply Kd.S_drewN | apply Kd.S_drew)); exact HO_3.out) (Kd.R_base ho7) hb); have n1_ := Aside0.mk (Kd.R_lower ho7 (below_size bel_)); have n2_ := Aside0.mk (below_step bel_ hb); clear HO_3; clear HB; have HO_3 := n0_; have HO265 := n1_; have HB := n2_; clear n0_ n1_ n2_; clear hb ho7; have p266 : 0 ≤ (x4_1 : Int) := dt_; have q266 : x4_1 < (l0.length : Int) := dt_; obtain ⟨ad266, A266_0, c266_0, e266, hx266_0, hl266_0, hi266_0⟩ := at_L5 HR0.out x4_1 p266 q266; cases e266; replace hx266_0 := hx_ HB hx266_0; have HR266_0 := Aside0.mk hi266_0; have HC266_0 := Aside0.mk hl266_0; clear hi266_0 hl266_0; replace p266 := eq_true p266; replace q266 := eq_true q266) | ((with_reducible refine gate_builtin (b := .append) (xs := #[.tmp 12, .tmp 16]) rfl ?_); at_builtin; refine Kd.R_append_rows (Kd.int .i64) (w0 := w) w.heap.size rfl (.tmp 12) (.tmp 16) 26 2 (.int .i64 0) 8 rfl Try.underlying26 info2 rfl (by decide) (by omega) v264 y263 (rd_L5 l0 x4_1) _ _ _ (fun _ => True) (fun _ => False) rfl rfl ?aO ?aR (fun _ _ h => h) (fun _ h => h.elim) ?aF ?aB ?aS ?aL ?_; (case aR => exact cb_ HR266_0); (case aB => exact bel_); (case aF => exact (fun _ _ => trivial)); (case aO => exact (by (with_reducible repeat (first | apply Kd.R_alloc | apply Kd.R_drewN | apply Kd.R_drew)); exact HO265.out)); (case aS => exact (below_size bel_)); (case aL => have := LMc4.out; omega); intro v268 w8 ho hb hg hat; rw [← Ny267.out] at ho; have n0_ := Aside0.mk (Kd.S_after (ok := (fun _ => True)) (by (with_reducible repeat (first | apply Kd.S_alloc | apply Kd.S_drewN | apply Kd.S_drew)); exact HO_3.out) hg hat); have n1_ := Aside0.mk (hb); have n2_ := Aside0.mk (ho); clear HO_3; clear HB; clear HO265; have HO_3 := n0_; have HB := n1_; have HO269 := n2_; clear n0_ n1_ n2_; clear ho hb hg hat; obtain ⟨Ao10, co10, eo10⟩ := Kd.R_slice HO269.out; subst eo10) | ((with_reducible refine gate_builtin (b := .append) (xs := #[.tmp 11, .tmp 18]) rfl ?_); at_builtin; refine Kd.S_append (Kd.slice 2 (Kd.int .i64)) (w0 := w) w.heap.size rfl (.tmp 11) (.tmp 18) 25 26 (.slice none 0 0) 24 rfl Try.underlying25 info26 rfl (by decide) (by omega) u3 x3_1 y267 [.slice Ao10 y267.length co10] (fun _ => True) (fun k_ => some k_ = (.slice Ao10 y267.length co10 : Value).ownBlock) rfl rfl ?aP (fun k_ hk_ => ((Kd.R_mono (ok' := fun k_ => ((fun _ => True)) k_ ∧ some k_ ≠ (u3 : Value).ownBlock) (Kd.R_apart' (HO269.out) (Kd.S_typed HO_3.out) (by decide)) (fun k_ hk => ⟨trivial, hk.2⟩))).1 k_ hk_.symm) ?aF ?aO ?aB ?aS ?aL ?_; (case aP => exact Kd.M_row (Kd.R_mono (Kd.R_tight rfl (Kd.R_mono (ok' := fun k_ => ((fun _ => True)) k_ ∧ some k_ ≠ (u3 : Value).ownBlock) (Kd.R_apart' (HO269.out) (Kd.S_typed HO_3.out) (by decide)) (fun k_ hk => ⟨trivial, hk.2⟩))) (fun _ h_ => h_))); (case aB => exact bel_); (case aF => exact (fun _ _ => trivial)); (case aO => exact (by (with_reducible repeat (first | apply Kd.S_alloc | apply Kd.S_drewN | apply Kd.S_drew)); exact Kd.S_mono HO_3.out (fun k_ hk => ⟨trivial, fun e_ => hk.2 e_⟩))); (case aS => exact (below_size bel_)); (case aL => have := LMc5.out; omega); intro v271 w9 ho hb hg hat; rw [← Ny270.out] at ho; have n0_ := Aside0.mk (hb); have n1_ := Aside0.mk (ho); clear HB; clear HO_3; clear HO269; have HB := n0_; have HO272 := n1_; clear n0_ n1_; clear ho hb hg hat))
       go_roundg k1
       case measure => have := HK1.out; omega
       case rel => exact ⟨(y270), (wrap64 (x4_1 + 1)), ff_, H', ⟨by have := HK1.out; omega⟩, ⟨by (with_reducible repeat (first | apply Kd.S_alloc | apply Kd.S_drewN | apply Kd.S_drew)); exact HO272.out⟩, ⟨bel_⟩⟩
      ·
       rw [if_neg c5] at H; exact absurd H (by simp)
     ·
      rw [if_neg c4] at H; exact absurd H (by simp)
    ·
     rw [if_neg c3] at H; exact absurd H (by simp)
   ·
    rw [if_neg c2] at H; have c2b0 : decide (x4_1 < (l0.length : Int)) = false := decide_eq_false c2; clear c2; obtain rfl := Option.some.inj H; go_wp2
    go_ret
    exact ⟨_, ee_, by (with_reducible repeat (first | apply Kd.S_alloc | apply Kd.S_drewN | apply Kd.S_drew)); exact HO_3.out, bel_⟩

/-! ### weirref11_First: function 28 -/
def weirref11_First.f (k : Nat) (l0_0 : List (List (S87))) (_l0_1 : List (List ByteArray)) (_l0_2 : List ByteArray) (l0_3 : List (List Int)) (l0_4 : List Int) : Option (List Int × List Int × (List (List Int)) × List Int × (List (List (S59))) × Int) := if 0 ≤ (l0_0.length : Int) then (if ((l0_0.length : Int) : Int).toNat ≤ 35184372088832 then ((weirref09_Copy.f k l0_3).bind fun t281 => ((some (([] : List Int) : List Int)).bind fun y284 => (if y284.length + l0_4.length < 17592186044416 then (if ((l0_0.length : Int) : Int).toNat ≤ 11728124029610 then (some ((List.replicate ((l0_0.length : Int) : Int).toNat 0), (List.replicate ((l0_0.length : Int) : Int).toNat 0), t281, (y284 ++ l0_4), (List.replicate ((l0_0.length : Int) : Int).toNat []), (-1))) else (none)) else (none)))) else (none)) else (none)
theorem weirref11_First.mono : ∀ a0 a1 a2 a3 a4 k, LeO (weirref11_First.f k a0 a1 a2 a3 a4) (weirref11_First.f (k + 1) a0 a1 a2 a3 a4) := by
 intro a0 a1 a2 a3 a4 k; unfold weirref11_First.f
 repeat' first
   | (with_reducible exact weirref09_Copy.mono _ _)
   | (with_reducible exact LeO.refl _)
   | (with_reducible exact LeO.none _)
   | (with_reducible refine LeO.ite ?_ ?_)
   | (with_reducible refine LeO.bind ?_ (fun _ => ?_))
   | exact weirref09_Copy.mono _ _
   | exact LeO.none _
   | refine LeO.ite ?_ ?_
   | refine LeO.bind ?_ (fun _ => ?_)
def weirref11_First.T2 : Bool × List (List Nat × List Nat) := (true, [([], []), ([0, 0], [0]), ([], []), ([2, 2], [2]), ([], []), ([4], [4]), ([5], [5]), ([], []), ([], []), ([8], [8]), ([7, 9, 6], [7, 9]), ([], []), ([11, 11], [11]), ([1, 3, 6, 10, 12], [1, 3, 6, 10, 12]), ([13, 10, 0, 1, 2, 3, 4, 5, 6, 7, 8, 9, 10, 11, 12, 13], [13])])
def weirref11_First.B2 : List Nat := [0, 1, 0, 4, 0, 16, 48, 0, 0, 256, 1008, 0, 2048, 8191, 16383]
theorem weirref11_First.tab2 : rtab .any (opsOf Try.f28 2) = weirref11_First.T2 := by kernel_rfl
theorem weirref11_First.bits2 : waitsOk weirref11_First.T2.2 weirref11_First.B2 = true := by kernel_rfl
set_option maxHeartbeats 8000000 in
set_option maxRecDepth 100000 in
theorem weirref11_First.calls (k : Nat) (A0_0 : Option Addr) (c0_0 : Nat) (l0_0 : List (List (S87))) (A0_1 : Option Addr) (c0_1 : Nat) (l0_1 : List (List ByteArray)) (A0_2 : Option Addr) (c0_2 : Nat) (l0_2 : List ByteArray) (A0_3 : Option Addr) (c0_3 : Nat) (l0_3 : List (List Int)) (A0_4 : Option Addr) (c0_4 : Nat) (l0_4 : List Int) (r1 : List Int) (r2 : List Int) (r3 : List (List Int)) (r4 : List Int) (r5 : List (List (S59))) (r6 : Int) (w : World) (hr0_0 : Kd.C (Kd.slice 87 k87) w A0_0 l0_0.length l0_0) (hc0_0 : l0_0.length ≤ c0_0) (hr0_1 : Kd.C (Kd.slice 9 Kd.string) w A0_1 l0_1.length l0_1) (hc0_1 : l0_1.length ≤ c0_1) (hr0_2 : Kd.C Kd.string w A0_2 l0_2.length l0_2) (hc0_2 : l0_2.length ≤ c0_2) (hr0_3 : Kd.C (Kd.slice 2 (Kd.int .i64)) w A0_3 l0_3.length l0_3) (hc0_3 : l0_3.length ≤ c0_3) (hr0_4 : Kd.C (Kd.int .i64) w A0_4 l0_4.length l0_4) (hc0_4 : l0_4.length ≤ c0_4) (h : weirref11_First.f k l0_0 l0_1 l0_2 l0_3 l0_4 = some (r1, r2, r3, r4, r5, r6)) :
  Calls Try.prog 28 #[.agg #[.slice A0_0 l0_0.length c0_0, .slice A0_1 l0_1.length c0_1, .slice A0_2 l0_2.length c0_2, .slice A0_3 l0_3.length c0_3, .slice A0_4 l0_4.length c0_4]] w fun e w' => ∃ v0_ v1_ v2_ v3_ v4_ : Value, e = .returned (.agg #[v0_, v1_, v2_, v3_, v4_, .int .i64 r6]) ∧ Kd.R (Kd.int .i64) 3 w' w.heap.size (fun k_ => some k_ ≠ (v1_ : Value).ownBlock) v0_ r1 ∧ Kd.R (Kd.int .i64) 3 w' w.heap.size (fun k_ => some k_ ≠ (v0_ : Value).ownBlock) v1_ r2 ∧ Kd.S (Kd.slice 2 (Kd.int .i64)) 26 w' w.heap.size (fun k_ => some k_ ≠ (v3_ : Value).ownBlock) v2_ r3 ∧ Kd.R (Kd.int .i64) 2 w' w.heap.size (fun _ => True) v3_ r4 ∧ Kd.S (Kd.slice 59 k59) 57 w' w.heap.size (fun _ => True) v4_ r5 ∧ Below w.heap.size w w' := by
 have hu28 := Try.underlying28; have hu42 := Try.underlying42; have HR0_0 := Aside0.mk hr0_0; have HC0_0 := Aside0.mk hc0_0; clear hr0_0 hc0_0; have HR0_1 := Aside0.mk hr0_1; have HC0_1 := Aside0.mk hc0_1; clear hr0_1 hc0_1; have HR0_2 := Aside0.mk hr0_2; have HC0_2 := Aside0.mk hc0_2; clear hr0_2 hc0_2; have HR0_3 := Aside0.mk hr0_3; have HC0_3 := Aside0.mk hc0_3; clear hr0_3 hc0_3; have HR0_4 := Aside0.mk hr0_4; have HC0_4 := Aside0.mk hc0_4; clear hr0_4 hc0_4; have HB := Aside0.mk (Below.refl w.heap.size w); have H : (if 0 ≤ (l0_0.length : Int) then (if ((l0_0.length : Int) : Int).toNat ≤ 35184372088832 then ((weirref09_Copy.f k l0_3).bind fun t281 => ((some (([] : List Int) : List Int)).bind fun y284 => (if y284.length + l0_4.length < 17592186044416 then (if ((l0_0.length : Int) : Int).toNat ≤ 11728124029610 then (some ((List.replicate ((l0_0.length : Int) : Int).toNat 0), (List.replicate ((l0_0.length : Int) : Int).toNat 0), t281, (y284 ++ l0_4), (List.replicate ((l0_0.length : Int) : Int).toNat []), (-1))) else (none)) else (none)))) else (none)) else (none)) = some (r1, r2, r3, r4, r5, r6) := h; clear h
 by_cases c2 : 0 ≤ (l0_0.length : Int)
 ·
  rw [if_pos c2] at H; have c2b0 := eq_true c2; have c2b1 : decide (0 ≤ (l0_0.length : Int)) = true := decide_eq_true c2; clear c2
  by_cases c3 : ((l0_0.length : Int) : Int).toNat ≤ 35184372088832
  ·
   rw [if_pos c3] at H; have c3b0 := eq_true c3; have c3b1 : decide (((l0_0.length : Int) : Int).toNat ≤ 35184372088832) = true := decide_eq_true c3; clear c3; obtain ⟨y275, hy275⟩ : ∃ y_ : List Int, y_ = (List.replicate ((l0_0.length : Int) : Int).toNat 0) := ⟨_, rfl⟩; replace H : ((weirref09_Copy.f k l0_3).bind fun t281 => ((some (([] : List Int) : List Int)).bind fun y284 => (if y284.length + l0_4.length < 17592186044416 then (if ((l0_0.length : Int) : Int).toNat ≤ 11728124029610 then (some (y275, (List.replicate ((l0_0.length : Int) : Int).toNat 0), t281, (y284 ++ l0_4), (List.replicate ((l0_0.length : Int) : Int).toNat []), (-1))) else (none)) else (none)))) = some (r1, r2, r3, r4, r5, r6) := by first | (rw [hy275]; with_reducible exact H) | (have H2_ := (Option.bind_some _ _).symm.trans H; rw [hy275]; with_reducible exact H2_) | (have H2_ := (Option.bind_some _ _).symm.trans H; with_reducible exact H2_) | with_reducible exact H | (rw [hy275]; exact H) | exact H
   have Ny275 := Aside0.mk hy275; clear hy275; obtain ⟨y278, hy278⟩ : ∃ y_ : List Int, y_ = (List.replicate ((l0_0.length : Int) : Int).toNat 0) := ⟨_, rfl⟩; replace H : ((weirref09_Copy.f k l0_3).bind fun t281 => ((some (([] : List Int) : List Int)).bind fun y284 => (if y284.length + l0_4.length < 17592186044416 then (if ((l0_0.length : Int) : Int).toNat ≤ 11728124029610 then (some (y275, y278, t281, (y284 ++ l0_4), (List.replicate ((l0_0.length : Int) : Int).toNat []), (-1))) else (none)) else (none)))) = some (r1, r2, r3, r4, r5, r6) := by first | (rw [hy278]; with_reducible exact H) | (have H2_ := (Option.bind_some _ _).symm.trans H; rw [hy278]; with_reducible exact H2_) | (have H2_ := (Option.bind_some _ _).symm.trans H; with_reducible exact H2_) | with_reducible exact H | (rw [hy278]; exact H) | exact H
   have Ny278 := Aside0.mk hy278; clear hy278; replace H := Option.bind_eq_some_iff.mp H; obtain ⟨t281, A40, H⟩ := H; replace H : ((some (([] : List Int) : List Int)).bind fun y284 => (if y284.length + l0_4.length < 17592186044416 then (if ((l0_0.length : Int) : Int).toNat ≤ 11728124029610 then (some (y275, y278, t281, (y284 ++ l0_4), (List.replicate ((l0_0.length : Int) : Int).toNat []), (-1))) else (none)) else (none))) = some (r1, r2, r3, r4, r5, r6) := H; have A4 := Aside0.mk A40; clear A40; obtain ⟨y284, hy284⟩ : ∃ y_ : List Int, y_ = (([] : List Int)) := ⟨_, rfl⟩; replace H : (if y284.length + l0_4.length < 17592186044416 then (if ((l0_0.length : Int) : Int).toNat ≤ 11728124029610 then (some (y275, y278, t281, (y284 ++ l0_4), (List.replicate ((l0_0.length : Int) : Int).toNat []), (-1))) else (none)) else (none)) = some (r1, r2, r3, r4, r5, r6) := by first | (rw [hy284]; with_reducible exact H) | (have H2_ := (Option.bind_some _ _).symm.trans H; rw [hy284]; with_reducible exact H2_) | (have H2_ := (Option.bind_some _ _).symm.trans H; with_reducible exact H2_) | with_reducible exact H | (rw [hy284]; exact H) | exact H
   have Ny284 := Aside0.mk hy284; clear hy284
   by_cases c5 : y284.length + l0_4.length < 17592186044416
   ·
    rw [if_pos c5] at H; have LMc5 := Aside0.mk c5; clear c5; obtain ⟨y287, hy287⟩ : ∃ y_ : List Int, y_ = (y284 ++ l0_4) := ⟨_, rfl⟩; replace H : (if ((l0_0.length : Int) : Int).toNat ≤ 11728124029610 then (some (y275, y278, t281, y287, (List.replicate ((l0_0.length : Int) : Int).toNat []), (-1))) else (none)) = some (r1, r2, r3, r4, r5, r6) := by first | (rw [hy287]; with_reducible exact H) | (have H2_ := (Option.bind_some _ _).symm.trans H; rw [hy287]; with_reducible exact H2_) | (have H2_ := (Option.bind_some _ _).symm.trans H; with_reducible exact H2_) | with_reducible exact H | (rw [hy287]; exact H) | exact H
    have Ny287 := Aside0.mk hy287; clear hy287
    by_cases c6 : ((l0_0.length : Int) : Int).toNat ≤ 11728124029610
    ·
     rw [if_pos c6] at H; have c6b0 := eq_true c6; have c6b1 : decide (((l0_0.length : Int) : Int).toNat ≤ 11728124029610) = true := decide_eq_true c6; clear c6; obtain ⟨y290, hy290⟩ : ∃ y_ : List (List (S59)), y_ = (List.replicate ((l0_0.length : Int) : Int).toNat []) := ⟨_, rfl⟩; replace H : (some (y275, y278, t281, y287, y290, (-1))) = some (r1, r2, r3, r4, r5, r6) := by first | (rw [hy290]; with_reducible exact H) | (have H2_ := (Option.bind_some _ _).symm.trans H; rw [hy290]; with_reducible exact H2_) | (have H2_ := (Option.bind_some _ _).symm.trans H; with_reducible exact H2_) | with_reducible exact H | (rw [hy290]; exact H) | exact H
     have Ny290 := Aside0.mk hy290; clear hy290; simp only [Option.some.injEq, Prod.mk.injEq] at H; obtain ⟨rfl, rfl, rfl, rfl, rfl, rfl⟩ := H; go_enter Try.func28, Try.ntmps28
     try go_wp2_with (first | ((with_reducible refine gate_dst (N := 1) rfl ?_); refine box_event ?hg (N := 1) ?hd (cs := #[.slice A0_0 l0_0.length c0_0, .slice A0_1 l0_1.length c0_1, .slice A0_2 l0_2.length c0_2, .slice A0_3 l0_3.length c0_3, .slice A0_4 l0_4.length c0_4]) (t := 28) ?hr ?_; (case hd => rfl); (case hg => rfl); (case hr => first | (go_simp; done) | (go_simp; rfl)); intro gb273 hg w7 hbox hb; have n0_ := Aside0.mk (below_step bel_ hb); have n1_ := Aside0.mk (hbox); have n2_ := Aside0.mk ((by rw [hg]; exact (below_size bel_) : w.heap.size ≤ gb273)); have n3_ := n2_; clear HB; have HB := n0_; have BK273 := n1_; have GW273 := n2_; have GE273 := n3_; clear n0_ n1_ n2_ n3_; clear hb hbox hg) | ((with_reducible refine gate_dst (N := 2) rfl ?_); refine box_event ?hg (N := 2) ?hd (cs := #[.slice none 0 0, .slice none 0 0, .slice none 0 0, .slice none 0 0, .slice none 0 0, .int .i64 0]) (t := 42) ?hr ?_; (case hd => rfl); (case hg => rfl); (case hr => first | (go_simp; done) | (go_simp; rfl)); intro gb274 hg w8 hbox hb; have n0_ := Aside0.mk (blk_below (g := gb273) (o := .cells #[.slice A0_0 l0_0.length c0_0, .slice A0_1 l0_1.length c0_1, .slice A0_2 l0_2.length c0_2, .slice A0_3 l0_3.length c0_3, .slice A0_4 l0_4.length c0_4] 28 (0, 0)) (bk_ BK273) hb); have n1_ := Aside0.mk (below_step bel_ hb); have n2_ := Aside0.mk (hbox); have n3_ := Aside0.mk ((by rw [hg]; exact (below_size bel_) : w.heap.size ≤ gb274)); have n4_ := n3_; have n5_ := Aside0.mk ((by rw [hg]; exact Nat.ne_of_lt (blk_lt (g := gb273) (o := .cells #[.slice A0_0 l0_0.length c0_0, .slice A0_1 l0_1.length c0_1, .slice A0_2 l0_2.length c0_2, .slice A0_3 l0_3.length c0_3, .slice A0_4 l0_4.length c0_4] 28 (0, 0)) (bk_ BK273)) : gb273 ≠ gb274)); have n6_ := Aside0.mk ((by rw [hg]; exact Nat.ne_of_gt (blk_lt (g := gb273) (o := .cells #[.slice A0_0 l0_0.length c0_0, .slice A0_1 l0_1.length c0_1, .slice A0_2 l0_2.length c0_2, .slice A0_3 l0_3.length c0_3, .slice A0_4 l0_4.length c0_4] 28 (0, 0)) (bk_ BK273)) : gb274 ≠ gb273)); clear BK273; clear HB; have BK273 := n0_; have HB := n1_; have BK274 := n2_; have GW274 := n3_; have GE274 := n4_; have NB273_274 := n5_; have NB274_273 := n6_; clear n0_ n1_ n2_ n3_ n4_ n5_ n6_; clear hb hbox hg; have hnb9 := NB273_274.out; have hnc9 := NB274_273.out; obtain ⟨z10_0, z10_1, z10_2, z10_3, z10_4, y10_0, y10_1, y10_2, y10_3, y10_4⟩ := blkA5 BK273.out))
     have n0_ := Aside0.mk (blk_drew BK273.out); have n1_ := Aside0.mk (blk_drew BK274.out); have n2_ := Aside0.mk (below_drew1 HB.out); clear BK273; clear BK274; clear HB; have BK273 := n0_; have BK274 := n1_; have HB := n2_; clear n0_ n1_ n2_; refine start_ (n := 15) (S := fun w' => w'.cell? ⟨gb273, 0, none⟩ = some (.slice A0_0 l0_0.length c0_0) ∧ w'.cell? ⟨gb273, 1, none⟩ = some (.slice A0_1 l0_1.length c0_1) ∧ w'.cell? ⟨gb273, 2, none⟩ = some (.slice A0_2 l0_2.length c0_2) ∧ w'.cell? ⟨gb273, 3, none⟩ = some (.slice A0_3 l0_3.length c0_3) ∧ w'.cell? ⟨gb273, 4, none⟩ = some (.slice A0_4 l0_4.length c0_4)) (ds := []) #[false, false, false, false, false, false, false, false, false, false, false, false, false, false, false] (by kernel_rfl) rfl rfl ⟨(blk_cell BK273.out 0).trans rfl, (blk_cell BK273.out 1).trans rfl, (blk_cell BK273.out 2).trans rfl, (blk_cell BK273.out 3).trans rfl, (blk_cell BK273.out 4).trans rfl⟩ (fun hHeld => ?_); refine with_tabW weirref11_First.tab2 weirref11_First.bits2 (fun HT_ HW_ => ?_)
     generalize w8.drew = w11 at BK273 BK274 HB hHeld ⊢
     refine pure_ (i := 0) (N := some 7) (v := ?_) (a' := ?_) #[true, false, false, false, false, false, false, false, false, false, false, false, false, false, false] rfl rfl (any_of HT_.out (by kernel_rfl)) (fun _ _ _ h => h) (Or.inl ⟨by rfl, ?_⟩) ?_ ?_; rotate_left
     ·
      intro w'
      go_simp
      with_reducible rfl
     rotate_left
     ·
      simp only [Act.put, put_]
      rfl
     refine pure_ (i := 2) (N := some 9) (v := ?_) (a' := ?_) #[true, false, true, false, false, false, false, false, false, false, false, false, false, false, false] rfl rfl (any_of HT_.out (by kernel_rfl)) (fun _ _ _ h => h) (Or.inl ⟨by rfl, ?_⟩) ?_ ?_; rotate_left
     ·
      intro w'
      go_simp
      with_reducible rfl
     rotate_left
     ·
      simp only [Act.put, put_]
      rfl
     refine pure_ (i := 4) (N := some 11) (v := ?_) (a' := ?_) #[true, false, true, false, true, false, false, false, false, false, false, false, false, false, false] rfl rfl (any_of HT_.out (by kernel_rfl)) (fun _ _ _ h => h) (Or.inl ⟨by rfl, ?_⟩) ?_ ?_; rotate_left
     ·
      intro w'
      go_simp
      with_reducible rfl
     rotate_left
     ·
      simp only [Act.put, put_]
      rfl
     refine pure_ (i := 8) (N := some 15) (v := ?_) (a' := ?_) #[true, false, true, false, true, false, false, false, true, false, false, false, false, false, false] rfl rfl (any_of HT_.out (by kernel_rfl)) (fun _ _ _ h => h) (Or.inl ⟨by rfl, ?_⟩) ?_ ?_; rotate_left
     ·
      intro w'
      go_simp
      with_reducible rfl
     rotate_left
     ·
      simp only [Act.put, put_]
      rfl
     refine pure_ (i := 11) (N := some 18) (v := ?_) (a' := ?_) #[true, false, true, false, true, false, false, false, true, false, false, true, false, false, false] rfl rfl (any_of HT_.out (by kernel_rfl)) (fun _ _ _ h => h) (Or.inl ⟨by rfl, ?_⟩) ?_ ?_; rotate_left
     ·
      intro w'
      go_simp
      with_reducible rfl
     rotate_left
     ·
      simp only [Act.put, put_]
      rfl
     refine take_ (i := 5) (N := some 12) (v := ?_) (a' := ?_) #[true, false, true, false, true, true, false, false, true, false, false, true, false, false, false] rfl rfl (take_ofW HT_.out HW_.out (by kernel_rfl)) (fun _ _ _ h => h) (Or.inl ⟨by rfl, ?_⟩) hHeld ?_ ?_; rotate_left
     ·
      rintro w' ⟨s0, s1, s2, s3, s4⟩
      go_simp
      with_reducible rfl
     rotate_left
     ·
      simp only [Act.put, put_]
      rfl
     refine take_ (i := 9) (N := some 16) (v := ?_) (a' := ?_) #[true, false, true, false, true, true, false, false, true, true, false, true, false, false, false] rfl rfl (take_ofW HT_.out HW_.out (by kernel_rfl)) (fun _ _ _ h => h) (Or.inl ⟨by rfl, ?_⟩) hHeld ?_ ?_; rotate_left
     ·
      rintro w' ⟨s0, s1, s2, s3, s4⟩
      go_simp
      with_reducible rfl
     rotate_left
     ·
      simp only [Act.put, put_]
      rfl
     refine join_ (σ := Value × Value × Value × Value × Value × Value) 2 #[true, true, true, true, true, true, true, true, true, true, true, true, true, false, false] (fun s_ => [(8, s_.1), (10, s_.2.1), (13, s_.2.2.1), (14, s_.2.2.2.1), (17, s_.2.2.2.2.1), (19, s_.2.2.2.2.2)]) (fun s_ w' => (w'.cell? ⟨gb273, 0, none⟩ = some (.slice A0_0 l0_0.length c0_0) ∧ w'.cell? ⟨gb273, 1, none⟩ = some (.slice A0_1 l0_1.length c0_1) ∧ w'.cell? ⟨gb273, 2, none⟩ = some (.slice A0_2 l0_2.length c0_2) ∧ w'.cell? ⟨gb273, 3, none⟩ = some (.slice A0_3 l0_3.length c0_3) ∧ w'.cell? ⟨gb273, 4, none⟩ = some (.slice A0_4 l0_4.length c0_4)) ∧ (Kd.R (Kd.int .i64) 3 w' w.heap.size (fun k_ => some k_ ≠ (s_.2.1 : Value).ownBlock) s_.1 y275) ∧ (Kd.R (Kd.int .i64) 3 w' w.heap.size (fun k_ => some k_ ≠ (s_.1 : Value).ownBlock) s_.2.1 y278) ∧ (Kd.S (Kd.slice 2 (Kd.int .i64)) 26 w' w.heap.size (fun k_ => some k_ ≠ (s_.2.2.2.2.1 : Value).ownBlock) s_.2.2.1 t281) ∧ (Kd.R (Kd.int .i64) 2 w' w.heap.size (fun _ => True) s_.2.2.2.2.1 y287) ∧ (Kd.S (Kd.slice 59 k59) 57 w' w.heap.size (fun _ => True) s_.2.2.2.2.2 y290) ∧ (w'.heap[gb273]? = some (.cells #[.slice A0_0 l0_0.length c0_0, .slice A0_1 l0_1.length c0_1, .slice A0_2 l0_2.length c0_2, .slice A0_3 l0_3.length c0_3, .slice A0_4 l0_4.length c0_4] 28 (0, 0))) ∧ (w'.heap[gb274]? = some (.cells #[.slice none 0 0, .slice none 0 0, .slice none 0 0, .slice none 0 0, .slice none 0 0, .int .i64 0] 42 (0, 0))) ∧ (Below w.heap.size w w')) ?_ ?_; rotate_left
     ·
      intro hJ_; refine inv_ 2 #[true, true, true, true, true, true, true, true, true, true, true, true, true, false, false] (w0 := w11) [(1, 8), (3, 10), (6, 13), (7, 14), (10, 17), (12, 19)] (fun e => match e with | 10 => [7] | _ => []) (fun e vs ok W => match e with | 1 => Kd.R (Kd.int .i64) 3 W w11.heap.size ok (vs 1) y275 | 3 => Kd.R (Kd.int .i64) 3 W w11.heap.size ok (vs 3) y278 | 6 => Kd.S (Kd.slice 2 (Kd.int .i64)) 26 W w11.heap.size ok (vs 6) t281 | 7 => Kd.R (Kd.int .i64) 2 W w11.heap.size ok (vs 7) y284 | 10 => Kd.R (Kd.int .i64) 2 W w11.heap.size ok (vs 10) y287 | 12 => Kd.S (Kd.slice 59 k59) 57 W w11.heap.size ok (vs 12) y290 | _ => True) HT_.out (by kernel_rfl) (by rfl) ?iS ?iE ?iC
      case iS =>
       intro W hb_; have BK273 := Aside0.mk (blk_below (g := gb273) (o := .cells #[.slice A0_0 l0_0.length c0_0, .slice A0_1 l0_1.length c0_1, .slice A0_2 l0_2.length c0_2, .slice A0_3 l0_3.length c0_3, .slice A0_4 l0_4.length c0_4] 28 (0, 0)) BK273.out hb_); have BK274 := Aside0.mk (blk_below (g := gb274) (o := .cells #[.slice none 0 0, .slice none 0 0, .slice none 0 0, .slice none 0 0, .slice none 0 0, .int .i64 0] 42 (0, 0)) BK274.out hb_); exact ⟨(blk_cell BK273.out 0).trans rfl, (blk_cell BK273.out 1).trans rfl, (blk_cell BK273.out 2).trans rfl, (blk_cell BK273.out 3).trans rfl, (blk_cell BK273.out 4).trans rfl⟩
      case iE =>
       refine evs_cons ?_ (evs_cons ?_ (evs_cons ?_ (evs_cons ?_ (evs_cons ?_ (evs_cons ?_ (evs_nil))))))
       ·
        refine ev_fresh (fun v ok W => Kd.R (Kd.int .i64) 3 W w11.heap.size ok v y275) (fun _ _ _ _ _ h_ hm_ => R_mv h_ hm_) rfl rfl rfl (fun l_ vs_ W_ hb_ K hK => ?_); have BK273 := Aside0.mk (blk_below (g := gb273) (o := .cells #[.slice A0_0 l0_0.length c0_0, .slice A0_1 l0_1.length c0_1, .slice A0_2 l0_2.length c0_2, .slice A0_3 l0_3.length c0_3, .slice A0_4 l0_4.length c0_4] 28 (0, 0)) BK273.out hb_); have BK274 := Aside0.mk (blk_below (g := gb274) (o := .cells #[.slice none 0 0, .slice none 0 0, .slice none 0 0, .slice none 0 0, .slice none 0 0, .int .i64 0] 42 (0, 0)) BK274.out hb_); have HB := Aside0.mk (below_step HB.out hb_); refine Kd.R_make_step (Kd.int .i64) _ 3 (by rfl) (N := 8) rfl 29 _ _ rfl (l0_0.length : Int) rfl rfl Try.underlying29 (.int .i64 0) 8 info3 rfl (by decide) (by omega) 0 (ok := fun _ => True) (okp := fun _ => True) rfl (fun _ hk => hk) trivial (dt_) (Nat.le_trans (Nat.mul_le_mul_right _ (dt_ : (l0_0.length : Int).toNat ≤ 35184372088832)) (by omega)) (Below.refl _ _) (Nat.le_refl _) ?_; intro v276 w12 ho13 hb hg_ hnew_
        (first | rw [← Ny275.out] at ho13 | (simp only [Int.reduceToNat] at ho13; rw [← Ny275.out] at ho13))
        exact hK.out _ _ hb (Kd.R_lower (Kd.R_mono (Kd.R_bound ho13) (fun k_ hk_ => hk_.2.1)) hb_.size)
       ·
        refine ev_fresh (fun v ok W => Kd.R (Kd.int .i64) 3 W w11.heap.size ok v y278) (fun _ _ _ _ _ h_ hm_ => R_mv h_ hm_) rfl rfl rfl (fun l_ vs_ W_ hb_ K hK => ?_); have BK273 := Aside0.mk (blk_below (g := gb273) (o := .cells #[.slice A0_0 l0_0.length c0_0, .slice A0_1 l0_1.length c0_1, .slice A0_2 l0_2.length c0_2, .slice A0_3 l0_3.length c0_3, .slice A0_4 l0_4.length c0_4] 28 (0, 0)) BK273.out hb_); have BK274 := Aside0.mk (blk_below (g := gb274) (o := .cells #[.slice none 0 0, .slice none 0 0, .slice none 0 0, .slice none 0 0, .slice none 0 0, .int .i64 0] 42 (0, 0)) BK274.out hb_); have HB := Aside0.mk (below_step HB.out hb_); refine Kd.R_make_step (Kd.int .i64) _ 3 (by rfl) (N := 10) rfl 29 _ _ rfl (l0_0.length : Int) rfl rfl Try.underlying29 (.int .i64 0) 8 info3 rfl (by decide) (by omega) 0 (ok := fun _ => True) (okp := fun _ => True) rfl (fun _ hk => hk) trivial (dt_) (Nat.le_trans (Nat.mul_le_mul_right _ (dt_ : (l0_0.length : Int).toNat ≤ 35184372088832)) (by omega)) (Below.refl _ _) (Nat.le_refl _) ?_; intro v279 w12 ho13 hb hg_ hnew_
        (first | rw [← Ny278.out] at ho13 | (simp only [Int.reduceToNat] at ho13; rw [← Ny278.out] at ho13))
        exact hK.out _ _ hb (Kd.R_lower (Kd.R_mono (Kd.R_bound ho13) (fun k_ hk_ => hk_.2.1)) hb_.size)
       ·
        refine ev_fresh (fun v ok W => Kd.S (Kd.slice 2 (Kd.int .i64)) 26 W w11.heap.size ok v t281) (fun _ _ _ _ _ h_ hm_ => S_mv h_ hm_) rfl rfl rfl (fun l_ vs_ W_ hb_ K hK => ?_); have BK273 := Aside0.mk (blk_below (g := gb273) (o := .cells #[.slice A0_0 l0_0.length c0_0, .slice A0_1 l0_1.length c0_1, .slice A0_2 l0_2.length c0_2, .slice A0_3 l0_3.length c0_3, .slice A0_4 l0_4.length c0_4] 28 (0, 0)) BK273.out hb_); have BK274 := Aside0.mk (blk_below (g := gb274) (o := .cells #[.slice none 0 0, .slice none 0 0, .slice none 0 0, .slice none 0 0, .slice none 0 0, .int .i64 0] 42 (0, 0)) BK274.out hb_); have HB := Aside0.mk (below_step HB.out hb_); refine goes_ Try.func44 (by kernel_rfl) rfl #[.slice A0_3 l0_3.length c0_3] (by rfl) rfl rfl (by (try simp only [List.map_toArray, List.map_cons, List.map_nil]); first | done | rfl | (simp only [List.length_drop, List.length_take]; rfl)) ?_
        with_reducible refine (weirref09_Copy.calls k _ _ l0_3 t281 _ ?side1 ?side2 A4.out).mono ?_
        (case side1 => exact cb_ HR0_3)
        (case side2 => exact HC0_3.out)
        rintro e w12 ⟨v282, rfl, ho0, hb⟩
        refine ⟨_, rfl, ?_⟩; exact hK.out _ _ hb (Kd.S_lower (Kd.S_mono (Kd.S_bound ho0) (fun k_ hk_ => hk_.2.1)) hb_.size)
       ·
        refine ev_fresh (fun v ok W => Kd.R (Kd.int .i64) 2 W w11.heap.size ok v y284) (fun _ _ _ _ _ h_ hm_ => R_mv h_ hm_) rfl rfl rfl (fun l_ vs_ W_ hb_ K hK => ?_); have BK273 := Aside0.mk (blk_below (g := gb273) (o := .cells #[.slice A0_0 l0_0.length c0_0, .slice A0_1 l0_1.length c0_1, .slice A0_2 l0_2.length c0_2, .slice A0_3 l0_3.length c0_3, .slice A0_4 l0_4.length c0_4] 28 (0, 0)) BK273.out hb_); have BK274 := Aside0.mk (blk_below (g := gb274) (o := .cells #[.slice none 0 0, .slice none 0 0, .slice none 0 0, .slice none 0 0, .slice none 0 0, .int .i64 0] 42 (0, 0)) BK274.out hb_); have HB := Aside0.mk (below_step HB.out hb_); refine Kd.R_lit_step (Kd.int .i64) _ 2 ?hg (N := 14) ?hd (xs := ([] : List Int)) (inner := []) (ok := fun _ => True) (okp := fun _ => True) ?hr ?hp (fun _ hk => hk) trivial (Below.refl _ _) (Nat.le_refl _) (by simp) ?_; (case hd => rfl); (case hg => rfl); (case hr => first | (go_simp; done) | (go_simp; rfl)); (case hp => exact (Reps.none _ _)); intro v285 w12 ho13 hb hg_ hnew_
        (first | rw [← Ny284.out] at ho13 | (simp only [Int.reduceToNat] at ho13; rw [← Ny284.out] at ho13))
        exact hK.out _ _ hb (Kd.R_lower (Kd.R_mono (Kd.R_bound ho13) (fun k_ hk_ => hk_.2.1)) hb_.size)
       ·
        refine ev_append (Kd.int .i64) 7 14 (.tmp 16) 26 2 (.int .i64 0) 8 y284 l0_4 _ _ _ (by kernel_rfl) rfl rfl rfl rfl (by kernel_rfl) (by decide) (by simp) ?hF rfl rfl Try.underlying26 info2 rfl (by decide) (by omega) (fun _ _ => rfl) (fun W hb_ => ?hr) (fun _ _ _ h_ => h_) ?hl
        case hF => first | (rw [← Ny287.out]; done) | (rw [← Ny287.out]; rfl)
        case hr =>
         have HB := Aside0.mk (below_step HB.out hb_)
         repeat (first | exact (Kd.C_below HR0_4.out HB.out) | (with_reducible refine Kd.C_alloc ?_ _) | (with_reducible refine Kd.C_drewN ?_ _) | (with_reducible refine Kd.C_drew ?_))
        case hl => have := LMc5.out; omega
       ·
        refine ev_fresh (fun v ok W => Kd.S (Kd.slice 59 k59) 57 W w11.heap.size ok v y290) (fun _ _ _ _ _ h_ hm_ => S_mv h_ hm_) rfl rfl rfl (fun l_ vs_ W_ hb_ K hK => ?_); have BK273 := Aside0.mk (blk_below (g := gb273) (o := .cells #[.slice A0_0 l0_0.length c0_0, .slice A0_1 l0_1.length c0_1, .slice A0_2 l0_2.length c0_2, .slice A0_3 l0_3.length c0_3, .slice A0_4 l0_4.length c0_4] 28 (0, 0)) BK273.out hb_); have BK274 := Aside0.mk (blk_below (g := gb274) (o := .cells #[.slice none 0 0, .slice none 0 0, .slice none 0 0, .slice none 0 0, .slice none 0 0, .int .i64 0] 42 (0, 0)) BK274.out hb_); have HB := Aside0.mk (below_step HB.out hb_); refine Kd.S_make_step (Kd.slice 59 k59) _ 57 (by rfl) (N := 19) rfl 40 _ _ rfl (l0_0.length : Int) rfl rfl Try.underlying40 (.slice none 0 0) 24 info57 rfl (by decide) (by omega) [] (ok := fun _ => True) (okp := fun _ => True) ⟨_, rfl, Kd.R_nil _ _ _ _ _⟩ (fun _ hk => hk) trivial (dt_) (Nat.le_trans (Nat.mul_le_mul_right _ (dt_ : (l0_0.length : Int).toNat ≤ 11728124029610)) (by omega)) (Below.refl _ _) (Nat.le_refl _) ?_; intro v291 w12 ho13 hb hg_ hnew_
        (first | rw [← Ny290.out] at ho13 | (simp only [Int.reduceToNat] at ho13; rw [← Ny290.out] at ho13))
        exact hK.out _ _ hb (Kd.S_lower (Kd.S_mono (Kd.S_bound ho13) (fun k_ hk_ => hk_.2.1)) hb_.size)
      case iC =>
       intro vs col W hb_ hF_; have ltgb273 := blk_lt (g := gb273) (o := .cells #[.slice A0_0 l0_0.length c0_0, .slice A0_1 l0_1.length c0_1, .slice A0_2 l0_2.length c0_2, .slice A0_3 l0_3.length c0_3, .slice A0_4 l0_4.length c0_4] 28 (0, 0)) BK273.out; have ltgb274 := blk_lt (g := gb274) (o := .cells #[.slice none 0 0, .slice none 0 0, .slice none 0 0, .slice none 0 0, .slice none 0 0, .int .i64 0] 42 (0, 0)) BK274.out; have f1 : Kd.R (Kd.int .i64) 3 W w11.heap.size (fun k => col k = some 1) (vs 1) y275 := hF_ (1, 8) (by decide) (by decide); have f3 : Kd.R (Kd.int .i64) 3 W w11.heap.size (fun k => col k = some 3) (vs 3) y278 := hF_ (3, 10) (by decide) (by decide); have f6 : Kd.S (Kd.slice 2 (Kd.int .i64)) 26 W w11.heap.size (fun k => col k = some 6) (vs 6) t281 := hF_ (6, 13) (by decide) (by decide); have f10 : Kd.R (Kd.int .i64) 2 W w11.heap.size (fun k => col k = some 10) (vs 10) y287 := hF_ (10, 17) (by decide) (by decide); have f12 : Kd.S (Kd.slice 59 k59) 57 W w11.heap.size (fun k => col k = some 12) (vs 12) y290 := hF_ (12, 19) (by decide) (by decide); have BK273 := Aside0.mk (blk_below (g := gb273) (o := .cells #[.slice A0_0 l0_0.length c0_0, .slice A0_1 l0_1.length c0_1, .slice A0_2 l0_2.length c0_2, .slice A0_3 l0_3.length c0_3, .slice A0_4 l0_4.length c0_4] 28 (0, 0)) BK273.out hb_); have BK274 := Aside0.mk (blk_below (g := gb274) (o := .cells #[.slice none 0 0, .slice none 0 0, .slice none 0 0, .slice none 0 0, .slice none 0 0, .int .i64 0] 42 (0, 0)) BK274.out hb_); have HB' := below_step HB.out hb_; have hZ := HB.out.size; simp only [List.map_cons, List.map_nil]; exact hJ_ (vs 1, vs 3, vs 6, vs 7, vs 10, vs 12) W ⟨⟨(blk_cell BK273.out 0).trans rfl, (blk_cell BK273.out 1).trans rfl, (blk_cell BK273.out 2).trans rfl, (blk_cell BK273.out 3).trans rfl, (blk_cell BK273.out 4).trans rfl⟩, (Kd.R_lower (Kd.R_mono (Kd.R_bound f1) (fun k_ hk_ => fun h_ => absurd (hk_.1.symm.trans ((f3).1 k_ h_.symm)) (by simp))) hZ), (Kd.R_lower (Kd.R_mono (Kd.R_bound f3) (fun k_ hk_ => fun h_ => absurd (hk_.1.symm.trans ((f1).1 k_ h_.symm)) (by simp))) hZ), (Kd.S_lower (Kd.S_mono (Kd.S_bound f6) (fun k_ hk_ => fun h_ => absurd (hk_.1.symm.trans ((f10).1 k_ h_.symm)) (by simp))) hZ), (Kd.R_lower (Kd.R_mono f10 (fun _ _ => trivial)) hZ), (Kd.S_lower (Kd.S_mono f12 (fun _ _ => trivial)) hZ), (BK273.out), (BK274.out), (HB')⟩
     rintro ⟨v276, v279, v282, v285, v288, v291⟩ w27 ⟨hS_, h0_, h1_, h2_, h3_, h4_, h5_, h6_, h7_⟩
     have n0_ : Aside0 (Kd.R (Kd.int .i64) 3 w27 w.heap.size (fun k_ => some k_ ≠ (v279 : Value).ownBlock) v276 y275) := ⟨h0_⟩; have n1_ : Aside0 (Kd.R (Kd.int .i64) 3 w27 w.heap.size (fun k_ => some k_ ≠ (v276 : Value).ownBlock) v279 y278) := ⟨h1_⟩; have n2_ : Aside0 (Kd.S (Kd.slice 2 (Kd.int .i64)) 26 w27 w.heap.size (fun k_ => some k_ ≠ (v288 : Value).ownBlock) v282 t281) := ⟨h2_⟩; have n3_ : Aside0 (Kd.R (Kd.int .i64) 2 w27 w.heap.size (fun _ => True) v288 y287) := ⟨h3_⟩; have n4_ : Aside0 (Kd.S (Kd.slice 59 k59) 57 w27 w.heap.size (fun _ => True) v291 y290) := ⟨h4_⟩; have n5_ : Aside0 (w27.heap[gb273]? = some (.cells #[.slice A0_0 l0_0.length c0_0, .slice A0_1 l0_1.length c0_1, .slice A0_2 l0_2.length c0_2, .slice A0_3 l0_3.length c0_3, .slice A0_4 l0_4.length c0_4] 28 (0, 0))) := ⟨h5_⟩; have n6_ : Aside0 (w27.heap[gb274]? = some (.cells #[.slice none 0 0, .slice none 0 0, .slice none 0 0, .slice none 0 0, .slice none 0 0, .int .i64 0] 42 (0, 0))) := ⟨h6_⟩; have n7_ : Aside0 (Below w.heap.size w w27) := ⟨h7_⟩; clear BK273; clear BK274; clear HB; clear h0_ h1_ h2_ h3_ h4_ h5_ h6_ h7_; have HO277 := n0_; have HO280 := n1_; have HO283 := n2_; have HO289 := n3_; have HO292 := n4_; have BK273 := n5_; have BK274 := n6_; have HB := n7_; clear n0_ n1_ n2_ n3_ n4_ n5_ n6_ n7_; have hHeld : w27.cell? ⟨gb273, 0, none⟩ = some (.slice A0_0 l0_0.length c0_0) ∧ w27.cell? ⟨gb273, 1, none⟩ = some (.slice A0_1 l0_1.length c0_1) ∧ w27.cell? ⟨gb273, 2, none⟩ = some (.slice A0_2 l0_2.length c0_2) ∧ w27.cell? ⟨gb273, 3, none⟩ = some (.slice A0_3 l0_3.length c0_3) ∧ w27.cell? ⟨gb273, 4, none⟩ = some (.slice A0_4 l0_4.length c0_4) := hS_; obtain ⟨Ao28, co28, eo28⟩ := Kd.S_slice HO292.out
     (first | subst eo28 | (injection eo28 with f1_ f2_ f3_; have f4_ := f1_.symm; have f5_ := f3_.symm; clear f1_ f2_ f3_; subst f4_; subst f5_))
     obtain ⟨Ao29, co29, eo29⟩ := Kd.R_slice HO289.out
     (first | subst eo29 | (injection eo29 with f1_ f2_ f3_; have f4_ := f1_.symm; have f5_ := f3_.symm; clear f1_ f2_ f3_; subst f4_; subst f5_))
     obtain ⟨Ao30, co30, eo30⟩ := Kd.S_slice HO283.out
     (first | subst eo30 | (injection eo30 with f1_ f2_ f3_; have f4_ := f1_.symm; have f5_ := f3_.symm; clear f1_ f2_ f3_; subst f4_; subst f5_))
     obtain ⟨Ao31, co31, eo31⟩ := Kd.R_slice HO280.out
     (first | subst eo31 | (injection eo31 with f1_ f2_ f3_; have f4_ := f1_.symm; have f5_ := f3_.symm; clear f1_ f2_ f3_; subst f4_; subst f5_))
     obtain ⟨Ao32, co32, eo32⟩ := Kd.R_slice HO277.out
     (first | subst eo32 | (injection eo32 with f1_ f2_ f3_; have f4_ := f1_.symm; have f5_ := f3_.symm; clear f1_ f2_ f3_; subst f4_; subst f5_))
     refine norm_ (a' := ?_) ?_ ?_; rotate_left
     ·
      simp only [putAll, Act.put, List.setIfInBounds_toArray, List.set_cons_zero, List.set_cons_succ]
      rfl
     refine pure_ (i := 13) (N := some 20) (v := ?_) (a' := ?_) #[true, true, true, true, true, true, true, true, true, true, true, true, true, true, false] rfl rfl (any_of HT_.out (by kernel_rfl)) (fun _ _ _ h => h) (Or.inl ⟨by rfl, ?_⟩) ?_ ?_; rotate_left
     ·
      intro w'
      go_simp
      with_reducible rfl
     rotate_left
     ·
      simp only [Act.put, put_]
      rfl
     refine one_ (i := 14) (N := none) #[true, true, true, true, true, true, true, true, true, true, true, true, true, true, true] rfl rfl (one_of HT_.out (by kernel_rfl)) (by decide) (fun K hK => ?_); have hs33 : w27.cell? ⟨gb274, 0, none⟩ = some (.slice none 0 0) := (blk_cell BK274.out 0).trans rfl; have hfs33 := blk_frozen BK274.out 0; have hns33_0 := NB273_274.out; have hms33_0 := NB274_273.out; have hs34 : w27.cell? ⟨gb274, 1, none⟩ = some (.slice none 0 0) := (blk_cell BK274.out 1).trans rfl; have hfs34 := blk_frozen BK274.out 1; have hns34_0 := NB273_274.out; have hms34_0 := NB274_273.out; have hs35 : w27.cell? ⟨gb274, 2, none⟩ = some (.slice none 0 0) := (blk_cell BK274.out 2).trans rfl; have hfs35 := blk_frozen BK274.out 2; have hns35_0 := NB273_274.out; have hms35_0 := NB274_273.out; have hs36 : w27.cell? ⟨gb274, 3, none⟩ = some (.slice none 0 0) := (blk_cell BK274.out 3).trans rfl; have hfs36 := blk_frozen BK274.out 3; have hns36_0 := NB273_274.out; have hms36_0 := NB274_273.out; have hs37 : w27.cell? ⟨gb274, 4, none⟩ = some (.slice none 0 0) := (blk_cell BK274.out 4).trans rfl; have hfs37 := blk_frozen BK274.out 4; have hns37_0 := NB273_274.out; have hms37_0 := NB274_273.out; have hs38 : w27.cell? ⟨gb274, 5, none⟩ = some (.int .i64 0) := (blk_cell BK274.out 5).trans rfl; have hfs38 := blk_frozen BK274.out 5; have hns38_0 := NB273_274.out; have hms38_0 := NB274_273.out; refine skip_ (w1 := ?_) (by rfl) rfl ?_ ?_; rotate_left
     ·
      go_simp
      rfl
     refine hK.out _ _ ⟨((cell_far (p := ⟨gb274, _, none⟩) NB273_274.out _).trans (((cell_far (p := ⟨gb274, _, none⟩) NB273_274.out _).trans (((cell_far (p := ⟨gb274, _, none⟩) NB273_274.out _).trans (((cell_far (p := ⟨gb274, _, none⟩) NB273_274.out _).trans (((cell_far (p := ⟨gb274, _, none⟩) NB273_274.out _).trans (((cell_far (p := ⟨gb274, _, none⟩) NB273_274.out _).trans (hHeld.1)))))))))))), ((cell_far (p := ⟨gb274, _, none⟩) NB273_274.out _).trans (((cell_far (p := ⟨gb274, _, none⟩) NB273_274.out _).trans (((cell_far (p := ⟨gb274, _, none⟩) NB273_274.out _).trans (((cell_far (p := ⟨gb274, _, none⟩) NB273_274.out _).trans (((cell_far (p := ⟨gb274, _, none⟩) NB273_274.out _).trans (((cell_far (p := ⟨gb274, _, none⟩) NB273_274.out _).trans (hHeld.2.1)))))))))))), ((cell_far (p := ⟨gb274, _, none⟩) NB273_274.out _).trans (((cell_far (p := ⟨gb274, _, none⟩) NB273_274.out _).trans (((cell_far (p := ⟨gb274, _, none⟩) NB273_274.out _).trans (((cell_far (p := ⟨gb274, _, none⟩) NB273_274.out _).trans (((cell_far (p := ⟨gb274, _, none⟩) NB273_274.out _).trans (((cell_far (p := ⟨gb274, _, none⟩) NB273_274.out _).trans (hHeld.2.2.1)))))))))))), ((cell_far (p := ⟨gb274, _, none⟩) NB273_274.out _).trans (((cell_far (p := ⟨gb274, _, none⟩) NB273_274.out _).trans (((cell_far (p := ⟨gb274, _, none⟩) NB273_274.out _).trans (((cell_far (p := ⟨gb274, _, none⟩) NB273_274.out _).trans (((cell_far (p := ⟨gb274, _, none⟩) NB273_274.out _).trans (((cell_far (p := ⟨gb274, _, none⟩) NB273_274.out _).trans (hHeld.2.2.2.1)))))))))))), ((cell_far (p := ⟨gb274, _, none⟩) NB273_274.out _).trans (((cell_far (p := ⟨gb274, _, none⟩) NB273_274.out _).trans (((cell_far (p := ⟨gb274, _, none⟩) NB273_274.out _).trans (((cell_far (p := ⟨gb274, _, none⟩) NB273_274.out _).trans (((cell_far (p := ⟨gb274, _, none⟩) NB273_274.out _).trans (((cell_far (p := ⟨gb274, _, none⟩) NB273_274.out _).trans (hHeld.2.2.2.2))))))))))))⟩ (fun hHeld => ?_); clear hK K; refine done_ (done_of HT_.out (by kernel_rfl)) ?_
     try go_wp2
     refine bodyPost_ret (results_cell_row rfl _ _ gb274 42 #[.slice Ao32 y275.length co32, .slice Ao31 y278.length co31, .slice Ao30 t281.length co30, .slice Ao29 y287.length co29, .slice Ao28 y290.length co28, .int .i64 (-1)] (0, 0) _ rfl (by (with_reducible repeat (first | refine blk_drewN ?_ _ | refine blk_drew ?_ | refine blk_alloc ?_ _)); refine blk_put (cs := #[.slice Ao32 y275.length co32, .slice Ao31 y278.length co31, .slice Ao30 t281.length co30, .slice Ao29 y287.length co29, .slice Ao28 y290.length co28, .int .i64 0]) ?_ 5 _ rfl; (with_reducible repeat (first | refine blk_drewN ?_ _ | refine blk_drew ?_ | refine blk_alloc ?_ _)); refine blk_put (cs := #[.slice Ao32 y275.length co32, .slice Ao31 y278.length co31, .slice Ao30 t281.length co30, .slice Ao29 y287.length co29, .slice none 0 0, .int .i64 0]) ?_ 4 _ rfl; (with_reducible repeat (first | refine blk_drewN ?_ _ | refine blk_drew ?_ | refine blk_alloc ?_ _)); refine blk_put (cs := #[.slice Ao32 y275.length co32, .slice Ao31 y278.length co31, .slice Ao30 t281.length co30, .slice none 0 0, .slice none 0 0, .int .i64 0]) ?_ 3 _ rfl; (with_reducible repeat (first | refine blk_drewN ?_ _ | refine blk_drew ?_ | refine blk_alloc ?_ _)); refine blk_put (cs := #[.slice Ao32 y275.length co32, .slice Ao31 y278.length co31, .slice none 0 0, .slice none 0 0, .slice none 0 0, .int .i64 0]) ?_ 2 _ rfl; (with_reducible repeat (first | refine blk_drewN ?_ _ | refine blk_drew ?_ | refine blk_alloc ?_ _)); refine blk_put (cs := #[.slice Ao32 y275.length co32, .slice none 0 0, .slice none 0 0, .slice none 0 0, .slice none 0 0, .int .i64 0]) ?_ 1 _ rfl; (with_reducible repeat (first | refine blk_drewN ?_ _ | refine blk_drew ?_ | refine blk_alloc ?_ _)); refine blk_put (cs := #[.slice none 0 0, .slice none 0 0, .slice none 0 0, .slice none 0 0, .slice none 0 0, .int .i64 0]) ?_ 0 _ rfl; (with_reducible repeat (first | refine blk_drewN ?_ _ | refine blk_drew ?_ | refine blk_alloc ?_ _)); exact BK274.out) Try.underlying42 rfl (by kernel_rfl)) rfl ?_; exact ⟨_, _, _, _, _, ee_, by (with_reducible repeat (first | apply Kd.R_alloc | apply Kd.R_drewN | apply Kd.R_drew)); exact Kd.R_mono (Kd.R_far (p := ⟨gb274, 5, none⟩) (Kd.R_far (p := ⟨gb274, 4, none⟩) (Kd.R_far (p := ⟨gb274, 3, none⟩) (Kd.R_far (p := ⟨gb274, 2, none⟩) (Kd.R_far (p := ⟨gb274, 1, none⟩) (Kd.R_far (p := ⟨gb274, 0, none⟩) (Kd.R_types HO277.out BK274.out (by decide)) (fun _ hk => hk.2) (.slice Ao32 y275.length co32)) (fun _ hk => hk.2) (.slice Ao31 y278.length co31)) (fun _ hk => hk.2) (.slice Ao30 t281.length co30)) (fun _ hk => hk.2) (.slice Ao29 y287.length co29)) (fun _ hk => hk.2) (.slice Ao28 y290.length co28)) (fun _ hk => hk.2) (.int .i64 (-1))) (fun _ hk => hk.1), by (with_reducible repeat (first | apply Kd.R_alloc | apply Kd.R_drewN | apply Kd.R_drew)); exact Kd.R_mono (Kd.R_far (p := ⟨gb274, 5, none⟩) (Kd.R_far (p := ⟨gb274, 4, none⟩) (Kd.R_far (p := ⟨gb274, 3, none⟩) (Kd.R_far (p := ⟨gb274, 2, none⟩) (Kd.R_far (p := ⟨gb274, 1, none⟩) (Kd.R_far (p := ⟨gb274, 0, none⟩) (Kd.R_types HO280.out BK274.out (by decide)) (fun _ hk => hk.2) (.slice Ao32 y275.length co32)) (fun _ hk => hk.2) (.slice Ao31 y278.length co31)) (fun _ hk => hk.2) (.slice Ao30 t281.length co30)) (fun _ hk => hk.2) (.slice Ao29 y287.length co29)) (fun _ hk => hk.2) (.slice Ao28 y290.length co28)) (fun _ hk => hk.2) (.int .i64 (-1))) (fun _ hk => hk.1), by (with_reducible repeat (first | apply Kd.S_alloc | apply Kd.S_drewN | apply Kd.S_drew)); exact Kd.S_mono (Kd.S_far (p := ⟨gb274, 5, none⟩) (Kd.S_far (p := ⟨gb274, 4, none⟩) (Kd.S_far (p := ⟨gb274, 3, none⟩) (Kd.S_far (p := ⟨gb274, 2, none⟩) (Kd.S_far (p := ⟨gb274, 1, none⟩) (Kd.S_far (p := ⟨gb274, 0, none⟩) (Kd.S_types HO283.out BK274.out (by decide)) (fun _ hk => hk.2) (.slice Ao32 y275.length co32)) (fun _ hk => hk.2) (.slice Ao31 y278.length co31)) (fun _ hk => hk.2) (.slice Ao30 t281.length co30)) (fun _ hk => hk.2) (.slice Ao29 y287.length co29)) (fun _ hk => hk.2) (.slice Ao28 y290.length co28)) (fun _ hk => hk.2) (.int .i64 (-1))) (fun _ hk => hk.1), by (with_reducible repeat (first | apply Kd.R_alloc | apply Kd.R_drewN | apply Kd.R_drew)); exact Kd.R_mono (Kd.R_far (p := ⟨gb274, 5, none⟩) (Kd.R_far (p := ⟨gb274, 4, none⟩) (Kd.R_far (p := ⟨gb274, 3, none⟩) (Kd.R_far (p := ⟨gb274, 2, none⟩) (Kd.R_far (p := ⟨gb274, 1, none⟩) (Kd.R_far (p := ⟨gb274, 0, none⟩) (Kd.R_types HO289.out BK274.out (by decide)) (fun _ hk => hk.2) (.slice Ao32 y275.length co32)) (fun _ hk => hk.2) (.slice Ao31 y278.length co31)) (fun _ hk => hk.2) (.slice Ao30 t281.length co30)) (fun _ hk => hk.2) (.slice Ao29 y287.length co29)) (fun _ hk => hk.2) (.slice Ao28 y290.length co28)) (fun _ hk => hk.2) (.int .i64 (-1))) (fun _ hk => trivial), by (with_reducible repeat (first | apply Kd.S_alloc | apply Kd.S_drewN | apply Kd.S_drew)); exact Kd.S_mono (Kd.S_far (p := ⟨gb274, 5, none⟩) (Kd.S_far (p := ⟨gb274, 4, none⟩) (Kd.S_far (p := ⟨gb274, 3, none⟩) (Kd.S_far (p := ⟨gb274, 2, none⟩) (Kd.S_far (p := ⟨gb274, 1, none⟩) (Kd.S_far (p := ⟨gb274, 0, none⟩) (Kd.S_types HO292.out BK274.out (by decide)) (fun _ hk => hk.2) (.slice Ao32 y275.length co32)) (fun _ hk => hk.2) (.slice Ao31 y278.length co31)) (fun _ hk => hk.2) (.slice Ao30 t281.length co30)) (fun _ hk => hk.2) (.slice Ao29 y287.length co29)) (fun _ hk => hk.2) (.slice Ao28 y290.length co28)) (fun _ hk => hk.2) (.int .i64 (-1))) (fun _ hk => trivial), bel_⟩
    ·
     rw [if_neg c6] at H; exact absurd H (by simp)
   ·
    rw [if_neg c5] at H; exact absurd H (by simp)
  ·
   rw [if_neg c3] at H; exact absurd H (by simp)
 ·
  rw [if_neg c2] at H; exact absurd H (by simp)

-- NOT PRINTED: function 30 (weirref09_End)

end Go.Proofs.Ytemhpbdlonfikaa.P
