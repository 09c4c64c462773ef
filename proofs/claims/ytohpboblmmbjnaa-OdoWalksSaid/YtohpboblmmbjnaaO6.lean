-- Printed by xprint.py, a program of this session over the kit's printer.
import Derived.Test.YtohpboblmmbjnaaP0
import Derived.Test.YtohpboblmmbjnaaRsf
import Derived.Test.YtohpboblmmbjnaaCna
import Derived.Test.YtohpboblmmbjnaaRep
import Derived.Deep.QuietTactic
import Derived.BigQuiet
set_option linter.unusedVariables false
set_option linter.unusedSimpArgs false
set_option linter.unnecessarySimpa false
namespace Go.Proofs.Ytohpboblmmbjnaa.P
open Go.RowKit Go.Proofs.YtohpboblmmbjnaaW.PrintWords Go.Proofs.YtohpboblmmbjnaaW.PrintLast Go.Proofs.YtohpboblmmbjnaaW.PrintMore
attribute [local go_sem] max2_int min2_int max_two min_two max_three min_three max_four min_four   -- for this text's walks alone

/-! ### weirref03_Space_First: function 21 -/
mutual
def weirref03_Space_First.l0 : Nat → List Int → Int → Int → List Int → Option (List Int × Bool × Int)
  | 0, _, _, _, _ => none
  | k + 1, x4, x5, x1000, x1001 => if x5 < (x1001.length : Int) then (if x1000 = 1 then (if 0 ≤ x5 then (if (rd x1001 x5) = 0 then (some (([] : List Int), false, x1000)) else (if x4.length < 17592186044416 then (weirref03_Space_First.l0 k (x4 ++ [0]) (wrap64 (x5 + 1)) x1000 x1001) else (none))) else (none)) else (weirref03_Space_First.l1 k x4 x5 0 x1000 x1001)) else (some (x4, true, x1000))
def weirref03_Space_First.l1 : Nat → List Int → Int → Int → Int → List Int → Option (List Int × Bool × Int)
  | 0, _, _, _, _, _ => none
  | k + 1, x4, x5, x6, x1000, x1001 => if 0 ≤ x5 then (if x5 < (x1001.length : Int) then (if x6 < (rd x1001 x5) then (if x4.length < 17592186044416 then (weirref03_Space_First.l1 k (x4 ++ [x5]) x5 (wrap64 (x6 + 1)) x1000 x1001) else (none)) else (weirref03_Space_First.l0 k x4 (wrap64 (x5 + 1)) x1000 x1001)) else (none)) else (none)
end
def weirref03_Space_First.f (k : Nat) (s0_0 : Int) (s0_1 : List Int) : Option (List Int × Bool × Int) := weirref03_Space_First.l0 k ([] : List Int) 0 s0_0 s0_1
theorem weirref03_Space_First.mono_l : ∀ k, (∀ y0 y1 y2 y3, LeO (weirref03_Space_First.l0 k y0 y1 y2 y3) (weirref03_Space_First.l0 (k + 1) y0 y1 y2 y3)) ∧ (∀ y0 y1 y2 y3 y4, LeO (weirref03_Space_First.l1 k y0 y1 y2 y3 y4) (weirref03_Space_First.l1 (k + 1) y0 y1 y2 y3 y4))
  | 0 => ⟨fun _ _ _ _ r h => by simp [weirref03_Space_First.l0] at h, fun _ _ _ _ _ r h => by simp [weirref03_Space_First.l1] at h⟩
  | k + 1 => by
    obtain ⟨ih0, ih1⟩ := weirref03_Space_First.mono_l k
    refine ⟨?_, ?_⟩
    · intro y0 y1 y2 y3
      unfold weirref03_Space_First.l0
      repeat' first
      | (with_reducible exact ih0 _ _ _ _)
      | (with_reducible exact ih1 _ _ _ _ _)
      | (with_reducible exact LeO.refl _)
      | (with_reducible exact LeO.none _)
      | (with_reducible refine LeO.ite ?_ ?_)
      | (with_reducible refine LeO.bind ?_ (fun _ => ?_))
      | exact ih0 _ _ _ _
      | exact ih1 _ _ _ _ _
      | exact LeO.none _
      | refine LeO.ite ?_ ?_
      | refine LeO.bind ?_ (fun _ => ?_)
    · intro y0 y1 y2 y3 y4
      unfold weirref03_Space_First.l1
      repeat' first
      | (with_reducible exact ih0 _ _ _ _)
      | (with_reducible exact ih1 _ _ _ _ _)
      | (with_reducible exact LeO.refl _)
      | (with_reducible exact LeO.none _)
      | (with_reducible refine LeO.ite ?_ ?_)
      | (with_reducible refine LeO.bind ?_ (fun _ => ?_))
      | exact ih0 _ _ _ _
      | exact ih1 _ _ _ _ _
      | exact LeO.none _
      | refine LeO.ite ?_ ?_
      | refine LeO.bind ?_ (fun _ => ?_)
theorem weirref03_Space_First.mono : ∀ a0 a1 k, LeO (weirref03_Space_First.f k a0 a1) (weirref03_Space_First.f (k + 1) a0 a1) := by
  intro a0 a1 k
  obtain ⟨ih0, ih1⟩ := weirref03_Space_First.mono_l k
  unfold weirref03_Space_First.f
  repeat' first
      | (with_reducible exact ih0 _ _ _ _)
      | (with_reducible exact ih1 _ _ _ _ _)
      | (with_reducible exact LeO.refl _)
      | (with_reducible exact LeO.none _)
      | (with_reducible refine LeO.ite ?_ ?_)
      | (with_reducible refine LeO.bind ?_ (fun _ => ?_))
      | exact ih0 _ _ _ _
      | exact ih1 _ _ _ _ _
      | exact LeO.none _
      | refine LeO.ite ?_ ?_
      | refine LeO.bind ?_ (fun _ => ?_)
set_option maxHeartbeats 8000000 in
set_option maxRecDepth 100000 in
theorem weirref03_Space_First.calls (k : Nat) (g : Nat) (s0_0 : Int) (s0_1 : List Int) (r1 : List Int) (r2 : Bool) (r3 : Int) (w0 w : World) (hI : IsRf w0 w g s0_0 s0_1) (hB : Below w0.heap.size w0 w) (h : weirref03_Space_First.f k s0_0 s0_1 = some (r1, r2, r3)) :
    Calls Try.prog 21 #[.pointer (some ⟨g, 0, none⟩)] w fun e w' => ∃ v0_ : Value, e = .returned (.tuple #[v0_, .bool r2]) ∧ Kd.R (Kd.int .i64) 3 w' w.heap.size (fun _ => True) v0_ r1 ∧ IsRf w0 w' g r3 s0_1 ∧ Below w0.heap.size w0 w' ∧ KeepBut w w' g none := by
  have HI0 := Aside0.mk hI
  have HK := Aside0.mk (KeepBut.refl w g none)
  have HL := Aside0.mk hB.size
  clear hI
  have HW0 := Aside0.mk hB.size
  have HB := Aside0.mk hB
  clear hB
  have H : (weirref03_Space_First.l0 k ([] : List Int) 0 s0_0 s0_1) = some (r1, r2, r3) := h
  clear h
  have H' := Aside0.mk H
  clear H
  go_enter Try.func21, Try.ntmps21
  go_wp2
  go_loopg [4, 5] k (fun kq v4 v5 w' => ∃ (x4_1 : List Int) (x5_1 : Int), v5 = .int .i64 x5_1 ∧ Aside0 (weirref03_Space_First.l0 kq x4_1 x5_1 s0_0 s0_1 = some (r1, r2, r3)) ∧ Aside0 (kq ≤ k) ∧ Aside0 (Kd.R (Kd.int .i64) 3 w' w.heap.size (fun _ => True) v4 x4_1) ∧ Aside0 (IsRf w0 w' g s0_0 s0_1) ∧ Aside0 (KeepBut w w' g none) ∧ Aside0 (Below w0.heap.size w0 w'))
  case atStart => exact ⟨(([] : List Int)), (0), (by first | rfl | (simp; done) | (simp [*]; done)), H', ⟨Nat.le_refl _⟩, ⟨by first | exact Kd.R_nil _ _ _ _ _ | exact Kd.N_nil _ _ _ _ _ | exact Kd.V_nil _ _ _ _ _ | exact Kd.Q_nil _ _ _ _ _ | exact Kd.S_nil _ _ _ _ _⟩, ⟨by repeat (first | (with_reducible first | exact HI0.out | apply IsRf.alloc | apply IsRf.drewN | apply IsRf.drew | apply IsRf.set_0) | exact HI0.out)⟩, ⟨by repeat (first | (with_reducible first | exact HK.out | apply KeepBut.set_ | apply keep_drewN | apply keep_drew | apply keep_alloc) | exact HK.out)⟩, ⟨by repeat (first | (with_reducible first | exact HB.out | apply below_alloc | apply pw_below_drewN | apply below_drew1 | refine below_set ?_ (IsRf.ge HI0.out)) | exact HB.out)⟩⟩
  case round =>
    clear H'
    obtain ⟨x4_1, x5_1, rfl, HA, HK1, HO_4, HI0, HK, HB⟩ := hrel
    cases gk with
    | zero => exact absurd HA.out (by simp [weirref03_Space_First.l0])
    | succ k1 =>
      have H := HA.out
      clear HA
      simp only [weirref03_Space_First.l0] at H
      by_cases c2 : x5_1 < (s0_1.length : Int)
      · rw [if_pos c2] at H
        have c2b0 : decide (x5_1 < (s0_1.length : Int)) = true := decide_eq_true c2
        clear c2
        by_cases c3 : s0_0 = 1
        · rw [if_pos c3] at H
          have c3b0 : (s0_0 == 1) = true := beq_iff_eq.mpr c3
          have c3b1 : (s0_0 != 1) = false := bne_eq_false_iff_eq.mpr c3
          clear c3
          by_cases c4 : 0 ≤ x5_1
          · rw [if_pos c4] at H
            have c4b0 : decide (0 ≤ x5_1) = true := decide_eq_true c4
            clear c4
            by_cases c5 : (rd s0_1 x5_1) = 0
            · rw [if_pos c5] at H
              have c5b0 : ((rd s0_1 x5_1) == 0) = true := beq_iff_eq.mpr c5
              have c5b1 : ((rd s0_1 x5_1) != 0) = false := bne_eq_false_iff_eq.mpr c5
              clear c5
              simp only [Option.some.injEq, Prod.mk.injEq] at H
              obtain ⟨rfl, rfl, rfl⟩ := H
              obtain ⟨ASz6_1, cSz6_1, HGz6, hgz6, HSz6_1⟩ := HI0.out
              have hcz6_0 := cellRf_0 HGz6
              have hcz6_1 := cellRf_1 HGz6
              have hfz6_0 := blk_frozen HGz6 0
              clear HGz6 hgz6
              have p204 : 0 ≤ (x5_1 : Int) := of_decide_eq_true (by first | (with_reducible assumption) | assumption)
              have q204 : x5_1 < (s0_1.length : Int) := of_decide_eq_true (by first | (with_reducible assumption) | assumption)
              obtain ⟨ad204, e204, hx204_0⟩ := Kd.at_int HSz6_1 x5_1 p204 q204
              cases e204
              replace hx204_0 := pw_cell_below HB.out hx204_0
              replace p204 := eq_true p204
              replace q204 := eq_true q204
              go_wp2
              go_ret2
              exact ⟨_, by first | rfl | (simp [errW_none, errW_some] <;> rfl) | (simp [*, errW_none, errW_some] <;> rfl), by first | exact Kd.R_nil _ _ _ _ _ | exact Kd.N_nil _ _ _ _ _ | exact Kd.V_nil _ _ _ _ _ | exact Kd.Q_nil _ _ _ _ _ | exact Kd.S_nil _ _ _ _ _, by repeat (first | (with_reducible first | exact HI0.out | apply IsRf.alloc | apply IsRf.drewN | apply IsRf.drew | apply IsRf.set_0) | exact HI0.out), by repeat (first | (with_reducible first | exact HB.out | apply below_alloc | apply pw_below_drewN | apply below_drew1 | refine below_set ?_ (IsRf.ge HI0.out)) | exact HB.out), by repeat (first | (with_reducible first | exact HK.out | apply KeepBut.set_ | apply keep_drewN | apply keep_drew | apply keep_alloc) | exact HK.out)⟩
            · rw [if_neg c5] at H
              have c5b0 : ((rd s0_1 x5_1) == 0) = false := beq_eq_false_iff_ne.mpr c5
              have c5b1 : ((rd s0_1 x5_1) != 0) = true := bne_iff_ne.mpr c5
              by_cases c7 : x4_1.length < 17592186044416
              · rw [if_pos c7] at H
                have LMc7 := Aside0.mk c7
                clear c7
                obtain ⟨y205, hy205⟩ : ∃ y_ : List Int, y_ = (x4_1 ++ [0]) := ⟨_, rfl⟩
                replace H : (weirref03_Space_First.l0 k1 y205 (wrap64 (x5_1 + 1)) s0_0 s0_1) = some (r1, r2, r3) := by first | (rw [hy205]; with_reducible exact H) | (have H2_ := (Option.bind_some _ _).symm.trans H; rw [hy205]; with_reducible exact H2_) | (have H2_ := (Option.bind_some _ _).symm.trans H; with_reducible exact H2_) | with_reducible exact H | (rw [hy205]; exact H) | exact H
                have Ny205 := Aside0.mk hy205
                clear hy205
                have H' := Aside0.mk H
                clear H
                obtain ⟨ASz8_1, cSz8_1, HGz8, hgz8, HSz8_1⟩ := HI0.out
                have hcz8_0 := cellRf_0 HGz8
                have hcz8_1 := cellRf_1 HGz8
                have hfz8_0 := blk_frozen HGz8 0
                clear HGz8 hgz8
                have p204 : 0 ≤ (x5_1 : Int) := of_decide_eq_true (by first | (with_reducible assumption) | assumption)
                have q204 : x5_1 < (s0_1.length : Int) := of_decide_eq_true (by first | (with_reducible assumption) | assumption)
                obtain ⟨ad204, e204, hx204_0⟩ := Kd.at_int HSz8_1 x5_1 p204 q204
                cases e204
                replace hx204_0 := pw_cell_below HB.out hx204_0
                replace p204 := eq_true p204
                replace q204 := eq_true q204
                go_wp2_with (first | ((with_reducible refine gate_builtin (b := .append) (xs := #[.tmp 29, .tmp 30]) rfl ?_); at_builtin; refine Kd.R_append (Kd.int .i64) w.heap.size rfl (.tmp 29) (.tmp 30) 22 3 (.int .i64 0) 8 rfl Try.underlying22 info3 rfl (by decide) (by omega) u4 x4_1 0 [.int .i64 0] (fun _ => True) (fun _ => False) rfl rfl ?aP (fun _ hk => hk.elim) ?aF ?aO (Below.refl _ _) ?aS ?aL ?_; (case aP => exact rfl); (case aF => exact (fun _ _ => trivial)); (case aO => exact (by (with_reducible repeat (first | apply Kd.R_alloc | apply Kd.R_drewN | apply Kd.R_drew)); exact HO_4.out)); (case aS => exact (keep_size (w := w) (g := g) (row := none) (by repeat (first | (with_reducible first | exact HK.out | apply KeepBut.set_ | apply keep_drewN | apply keep_drew | apply keep_alloc) | exact HK.out)))); (case aL => have := LMc7.out; omega); intro v206 w9 ho hb hg hat; rw [← Ny205.out] at ho; have n0_ := Aside0.mk (IsRf.grown (by repeat (first | (with_reducible first | exact HI0.out | apply IsRf.alloc | apply IsRf.drewN | apply IsRf.drew | apply IsRf.set_0) | exact HI0.out)) hg (IsRf.own_ne HI0.out HO_4.out (by decide))); have n1_ := Aside0.mk (below_weaken (by repeat (first | (with_reducible first | exact HB.out | apply below_alloc | apply pw_below_drewN | apply below_drew1 | refine below_set ?_ (IsRf.ge HI0.out)) | exact HB.out)) HL.out hb); have n2_ := Aside0.mk (KeepBut.trans (by repeat (first | (with_reducible first | exact HK.out | apply KeepBut.set_ | apply keep_drewN | apply keep_drew | apply keep_alloc) | exact HK.out)) (KeepBut.of_grown hg g) (Kd.R_base2 HO_4.out)); have n3_ := Aside0.mk (ho); clear HI0; clear HB; clear HK; clear HO_4; have HI0 := n0_; have HB := n1_; have HK := n2_; have HO207 := n3_; clear n0_ n1_ n2_ n3_; clear ho hb hg hat))
                go_roundg k1
                case measure => have := HK1.out; omega
                case rel => exact ⟨(y205), (wrap64 (x5_1 + 1)), (by first | rfl | (simp; done) | (simp [*]; done)), H', ⟨by have := HK1.out; omega⟩, ⟨by (with_reducible repeat (first | apply Kd.R_alloc | apply Kd.R_drewN | apply Kd.R_drew)); exact HO207.out⟩, ⟨by repeat (first | (with_reducible first | exact HI0.out | apply IsRf.alloc | apply IsRf.drewN | apply IsRf.drew | apply IsRf.set_0) | exact HI0.out)⟩, ⟨by repeat (first | (with_reducible first | exact HK.out | apply KeepBut.set_ | apply keep_drewN | apply keep_drew | apply keep_alloc) | exact HK.out)⟩, ⟨by repeat (first | (with_reducible first | exact HB.out | apply below_alloc | apply pw_below_drewN | apply below_drew1 | refine below_set ?_ (IsRf.ge HI0.out)) | exact HB.out)⟩⟩
              · rw [if_neg c7] at H
                exact absurd H (by simp)
          · rw [if_neg c4] at H
            exact absurd H (by simp)
        · rw [if_neg c3] at H
          have c3b0 : (s0_0 == 1) = false := beq_eq_false_iff_ne.mpr c3
          have c3b1 : (s0_0 != 1) = true := bne_iff_ne.mpr c3
          have H' := Aside0.mk H
          clear H
          obtain ⟨ASz10_1, cSz10_1, HGz10, hgz10, HSz10_1⟩ := HI0.out
          have hcz10_0 := cellRf_0 HGz10
          have hcz10_1 := cellRf_1 HGz10
          have hfz10_0 := blk_frozen HGz10 0
          clear HGz10 hgz10
          go_wp2
          go_loopg [4, 6] k1 (fun kq v4 v6 w' => ∃ (x4_2 : List Int) (x6_2 : Int), v6 = .int .i64 x6_2 ∧ Aside0 (weirref03_Space_First.l1 kq x4_2 x5_1 x6_2 s0_0 s0_1 = some (r1, r2, r3)) ∧ Aside0 (kq ≤ k1) ∧ Aside0 (Kd.R (Kd.int .i64) 3 w' w.heap.size (fun _ => True) v4 x4_2) ∧ Aside0 (IsRf w0 w' g s0_0 s0_1) ∧ Aside0 (KeepBut w w' g none) ∧ Aside0 (Below w0.heap.size w0 w'))
          case atStart => exact ⟨(x4_1), (0), (by first | rfl | (simp; done) | (simp [*]; done)), H', ⟨Nat.le_refl _⟩, ⟨by (with_reducible repeat (first | apply Kd.R_alloc | apply Kd.R_drewN | apply Kd.R_drew)); exact HO_4.out⟩, ⟨by repeat (first | (with_reducible first | exact HI0.out | apply IsRf.alloc | apply IsRf.drewN | apply IsRf.drew | apply IsRf.set_0) | exact HI0.out)⟩, ⟨by repeat (first | (with_reducible first | exact HK.out | apply KeepBut.set_ | apply keep_drewN | apply keep_drew | apply keep_alloc) | exact HK.out)⟩, ⟨by repeat (first | (with_reducible first | exact HB.out | apply below_alloc | apply pw_below_drewN | apply below_drew1 | refine below_set ?_ (IsRf.ge HI0.out)) | exact HB.out)⟩⟩
          case round =>
            clear H'
            try clear c2
            try clear c2b0
            try clear p2
            try clear q2
            try clear hx2
            try clear c3
            try clear c3b0
            try clear c3b1
            try clear c4
            try clear c4b0
            try clear c5
            try clear c5b0
            try clear c5b1
            try clear p6
            try clear c7
            try clear hcz10_0
            try clear hcz10_1
            try clear hcz6_0
            try clear hcz6_1
            try clear hcz8_0
            try clear hcz8_1
            try clear hfz10_0
            try clear hfz6_0
            try clear hfz8_0
            try clear hx204_0
            try clear p204
            try clear q204
            obtain ⟨x4_2, x6_2, rfl, HA, HK2, HO_4, HI0, HK, HB⟩ := hrel
            cases gk with
            | zero => exact absurd HA.out (by simp [weirref03_Space_First.l1])
            | succ k2 =>
              have H := HA.out
              clear HA
              simp only [weirref03_Space_First.l1] at H
              by_cases c11 : 0 ≤ x5_1
              · rw [if_pos c11] at H
                have c11b0 : decide (0 ≤ x5_1) = true := decide_eq_true c11
                clear c11
                by_cases c12 : x5_1 < (s0_1.length : Int)
                · rw [if_pos c12] at H
                  have c12b0 : decide (x5_1 < (s0_1.length : Int)) = true := decide_eq_true c12
                  clear c12
                  by_cases c13 : x6_2 < (rd s0_1 x5_1)
                  · rw [if_pos c13] at H
                    have c13b0 : decide (x6_2 < (rd s0_1 x5_1)) = true := decide_eq_true c13
                    clear c13
                    by_cases c14 : x4_2.length < 17592186044416
                    · rw [if_pos c14] at H
                      have LMc14 := Aside0.mk c14
                      clear c14
                      obtain ⟨y209, hy209⟩ : ∃ y_ : List Int, y_ = (x4_2 ++ [x5_1]) := ⟨_, rfl⟩
                      replace H : (weirref03_Space_First.l1 k2 y209 x5_1 (wrap64 (x6_2 + 1)) s0_0 s0_1) = some (r1, r2, r3) := by first | (rw [hy209]; with_reducible exact H) | (have H2_ := (Option.bind_some _ _).symm.trans H; rw [hy209]; with_reducible exact H2_) | (have H2_ := (Option.bind_some _ _).symm.trans H; with_reducible exact H2_) | with_reducible exact H | (rw [hy209]; exact H) | exact H
                      have Ny209 := Aside0.mk hy209
                      clear hy209
                      have H' := Aside0.mk H
                      clear H
                      obtain ⟨ASz15_1, cSz15_1, HGz15, hgz15, HSz15_1⟩ := HI0.out
                      have hcz15_0 := cellRf_0 HGz15
                      have hcz15_1 := cellRf_1 HGz15
                      have hfz15_0 := blk_frozen HGz15 0
                      clear HGz15 hgz15
                      have p208 : 0 ≤ (x5_1 : Int) := of_decide_eq_true (by first | (with_reducible assumption) | assumption)
                      have q208 : x5_1 < (s0_1.length : Int) := of_decide_eq_true (by first | (with_reducible assumption) | assumption)
                      obtain ⟨ad208, e208, hx208_0⟩ := Kd.at_int HSz15_1 x5_1 p208 q208
                      cases e208
                      replace hx208_0 := pw_cell_below HB.out hx208_0
                      replace p208 := eq_true p208
                      replace q208 := eq_true q208
                      go_wp2_with (first | ((with_reducible refine gate_builtin (b := .append) (xs := #[.tmp 43, .tmp 45]) rfl ?_); at_builtin; refine Kd.R_append (Kd.int .i64) w.heap.size rfl (.tmp 43) (.tmp 45) 22 3 (.int .i64 0) 8 rfl Try.underlying22 info3 rfl (by decide) (by omega) u4 x4_2 x5_1 [.int .i64 x5_1] (fun _ => True) (fun _ => False) rfl rfl ?aP (fun _ hk => hk.elim) ?aF ?aO (Below.refl _ _) ?aS ?aL ?_; (case aP => exact rfl); (case aF => exact (fun _ _ => trivial)); (case aO => exact (by (with_reducible repeat (first | apply Kd.R_alloc | apply Kd.R_drewN | apply Kd.R_drew)); exact HO_4.out)); (case aS => exact (keep_size (w := w) (g := g) (row := none) (by repeat (first | (with_reducible first | exact HK.out | apply KeepBut.set_ | apply keep_drewN | apply keep_drew | apply keep_alloc) | exact HK.out)))); (case aL => have := LMc14.out; omega); intro v210 w16 ho hb hg hat; rw [← Ny209.out] at ho; have n0_ := Aside0.mk (IsRf.grown (by repeat (first | (with_reducible first | exact HI0.out | apply IsRf.alloc | apply IsRf.drewN | apply IsRf.drew | apply IsRf.set_0) | exact HI0.out)) hg (IsRf.own_ne HI0.out HO_4.out (by decide))); have n1_ := Aside0.mk (below_weaken (by repeat (first | (with_reducible first | exact HB.out | apply below_alloc | apply pw_below_drewN | apply below_drew1 | refine below_set ?_ (IsRf.ge HI0.out)) | exact HB.out)) HL.out hb); have n2_ := Aside0.mk (KeepBut.trans (by repeat (first | (with_reducible first | exact HK.out | apply KeepBut.set_ | apply keep_drewN | apply keep_drew | apply keep_alloc) | exact HK.out)) (KeepBut.of_grown hg g) (Kd.R_base2 HO_4.out)); have n3_ := Aside0.mk (ho); clear HI0; clear HB; clear HK; clear HO_4; have HI0 := n0_; have HB := n1_; have HK := n2_; have HO211 := n3_; clear n0_ n1_ n2_ n3_; clear ho hb hg hat))
                      go_roundg k2
                      case measure => have := HK1.out; have := HK2.out; omega
                      case rel => exact ⟨(y209), (wrap64 (x6_2 + 1)), (by first | rfl | (simp; done) | (simp [*]; done)), H', ⟨by have := HK1.out; have := HK2.out; omega⟩, ⟨by (with_reducible repeat (first | apply Kd.R_alloc | apply Kd.R_drewN | apply Kd.R_drew)); exact HO211.out⟩, ⟨by repeat (first | (with_reducible first | exact HI0.out | apply IsRf.alloc | apply IsRf.drewN | apply IsRf.drew | apply IsRf.set_0) | exact HI0.out)⟩, ⟨by repeat (first | (with_reducible first | exact HK.out | apply KeepBut.set_ | apply keep_drewN | apply keep_drew | apply keep_alloc) | exact HK.out)⟩, ⟨by repeat (first | (with_reducible first | exact HB.out | apply below_alloc | apply pw_below_drewN | apply below_drew1 | refine below_set ?_ (IsRf.ge HI0.out)) | exact HB.out)⟩⟩
                    · rw [if_neg c14] at H
                      exact absurd H (by simp)
                  · rw [if_neg c13] at H
                    have c13b0 : decide (x6_2 < (rd s0_1 x5_1)) = false := decide_eq_false c13
                    clear c13
                    have H' := Aside0.mk H
                    clear H
                    obtain ⟨ASz17_1, cSz17_1, HGz17, hgz17, HSz17_1⟩ := HI0.out
                    have hcz17_0 := cellRf_0 HGz17
                    have hcz17_1 := cellRf_1 HGz17
                    have hfz17_0 := blk_frozen HGz17 0
                    clear HGz17 hgz17
                    have p208 : 0 ≤ (x5_1 : Int) := of_decide_eq_true (by first | (with_reducible assumption) | assumption)
                    have q208 : x5_1 < (s0_1.length : Int) := of_decide_eq_true (by first | (with_reducible assumption) | assumption)
                    obtain ⟨ad208, e208, hx208_0⟩ := Kd.at_int HSz17_1 x5_1 p208 q208
                    cases e208
                    replace hx208_0 := pw_cell_below HB.out hx208_0
                    replace p208 := eq_true p208
                    replace q208 := eq_true q208
                    go_wp2
                    go_roundg k2
                    case measure => have := HK1.out; have := HK2.out; omega
                    case rel => exact ⟨(x4_2), (wrap64 (x5_1 + 1)), (by first | rfl | (simp; done) | (simp [*]; done)), H', ⟨by have := HK1.out; have := HK2.out; omega⟩, ⟨by (with_reducible repeat (first | apply Kd.R_alloc | apply Kd.R_drewN | apply Kd.R_drew)); exact HO_4.out⟩, ⟨by repeat (first | (with_reducible first | exact HI0.out | apply IsRf.alloc | apply IsRf.drewN | apply IsRf.drew | apply IsRf.set_0) | exact HI0.out)⟩, ⟨by repeat (first | (with_reducible first | exact HK.out | apply KeepBut.set_ | apply keep_drewN | apply keep_drew | apply keep_alloc) | exact HK.out)⟩, ⟨by repeat (first | (with_reducible first | exact HB.out | apply below_alloc | apply pw_below_drewN | apply below_drew1 | refine below_set ?_ (IsRf.ge HI0.out)) | exact HB.out)⟩⟩
                · rw [if_neg c12] at H
                  exact absurd H (by simp)
              · rw [if_neg c11] at H
                exact absurd H (by simp)
      · rw [if_neg c2] at H
        have c2b0 : decide (x5_1 < (s0_1.length : Int)) = false := decide_eq_false c2
        clear c2
        simp only [Option.some.injEq, Prod.mk.injEq] at H
        obtain ⟨rfl, rfl, rfl⟩ := H
        obtain ⟨ASz18_1, cSz18_1, HGz18, hgz18, HSz18_1⟩ := HI0.out
        have hcz18_0 := cellRf_0 HGz18
        have hcz18_1 := cellRf_1 HGz18
        have hfz18_0 := blk_frozen HGz18 0
        clear HGz18 hgz18
        go_wp2
        go_ret2
        exact ⟨_, by first | rfl | (simp [errW_none, errW_some] <;> rfl) | (simp [*, errW_none, errW_some] <;> rfl), by (with_reducible repeat (first | apply Kd.R_alloc | apply Kd.R_drewN | apply Kd.R_drew)); exact HO_4.out, by repeat (first | (with_reducible first | exact HI0.out | apply IsRf.alloc | apply IsRf.drewN | apply IsRf.drew | apply IsRf.set_0) | exact HI0.out), by repeat (first | (with_reducible first | exact HB.out | apply below_alloc | apply pw_below_drewN | apply below_drew1 | refine below_set ?_ (IsRf.ge HI0.out)) | exact HB.out), by repeat (first | (with_reducible first | exact HK.out | apply KeepBut.set_ | apply keep_drewN | apply keep_drew | apply keep_alloc) | exact HK.out)⟩

end Go.Proofs.Ytohpboblmmbjnaa.P
/- What the document's First answers: odo's first list. -/
namespace Go.Proofs.Ytohpboblmmbjnaa.P
open Go.RowKit Go.Proofs.YtohpboblmmbjnaaW.PrintWords Go.Proofs.YtohpboblmmbjnaaW.PrintMore Go.Proofs.Odo

/-! ### First -/
theorem rfp (p : List Nat) (hl : p.length ≤ 64) : ∀ (d j : Nat), j + d = p.length → ¬ 0 ∈ p.take j →
    Ev (fun k => weirref03_Space_First.l0 k (ints (List.replicate j 0)) (j : Int) 1 (ints p)) (if 0 ∈ p then [] else ints (List.replicate p.length 0), decide (¬ 0 ∈ p), 1) := by
  intro d
  induction d with
  | zero =>
    intro j hj h0
    have hjp : j = p.length := by omega
    subst hjp
    rw [List.take_length] at h0
    rw [if_neg h0, decide_eq_true h0]
    refine Ev.step (fun k => ?_) (Ev.now _)
    rw [weirref03_Space_First.l0, if_neg (by rw [ints_length]; omega)]
  | succ d ih =>
    intro j hj h0
    by_cases hz : p.getD j 0 = 0
    · have hm : 0 ∈ p := by
        rw [List.getD_eq_getElem?_getD, List.getElem?_eq_getElem (by omega)] at hz
        have := List.getElem_mem (l := p) (n := j) (by omega)
        rw [show p[j] = 0 from hz] at this
        exact this
      rw [if_pos hm, decide_eq_false (fun h => h hm)]
      refine Ev.step (fun k => ?_) (Ev.now _)
      rw [weirref03_Space_First.l0, if_pos (by rw [ints_length]; omega), if_pos rfl, if_pos (by omega), rd_ints, hz, if_pos (show ((0 : Nat) : Int) = 0 from rfl)]
    · have h1 : ¬ 0 ∈ p.take (j + 1) := by
        rw [take_up (by omega)]
        simp only [List.mem_append, List.mem_singleton, not_or]
        exact ⟨h0, fun h => hz h.symm⟩
      refine Ev.step (fun k => ?_) (ih (j + 1) (by omega) h1)
      rw [weirref03_Space_First.l0, if_pos (by rw [ints_length]; omega), if_pos rfl, if_pos (by omega), rd_ints, if_neg (by omega), if_pos (by rw [ints_length]; simp; omega), i64_inc j (by omega)]
      have e : ints (List.replicate j 0) ++ [0] = ints (List.replicate (j + 1) 0) := by simp [ints, List.replicate_succ']
      rw [e]
theorem rfirst_product (p : List Nat) (hl : p.length ≤ 64) : Ev (fun k => weirref03_Space_First.f k 1 (ints p)) (if 0 ∈ p then [] else ints (List.replicate p.length 0), decide (¬ 0 ∈ p), 1) :=
  rfp p hl p.length 0 (by omega) (by simp)
theorem rfw_in (p : List Nat) (hs : p.sum ≤ 64) (hl : p.length ≤ 64) (kd : Int) {j : Nat} (hj : j < p.length) (r : List Int × Bool × Int) (hgo : Ev (fun k => weirref03_Space_First.l0 k (ints (firstA 0 (p.take (j + 1)))) ((j + 1 : Nat) : Int) kd (ints p)) r) :
    ∀ (d q : Nat), q + d = p.getD j 0 → Ev (fun k => weirref03_Space_First.l1 k (ints (firstA 0 (p.take j)) ++ List.replicate q (j : Int)) (j : Int) (q : Int) kd (ints p)) r := by
  have hlen := (first_len hs hj).2
  intro d
  induction d with
  | zero =>
    intro q hq
    refine Ev.step (fun k => ?_) hgo
    rw [weirref03_Space_First.l1, if_pos (by omega), if_pos (by rw [ints_length]; omega), rd_ints, if_neg (by omega), i64_inc j (by omega), firstA_take hj, show q = p.getD j 0 by omega]
  | succ d ih =>
    intro q hq
    refine Ev.step (fun k => ?_) (ih (q + 1) (by omega))
    rw [weirref03_Space_First.l1, if_pos (by omega), if_pos (by rw [ints_length]; omega), rd_ints, if_pos (by omega), if_pos (by rw [List.length_append, List.length_replicate]; omega), i64_inc q (by have := (first_len hs hj).1; omega), List.append_assoc, List.replicate_succ']
theorem rfw (p : List Nat) (hs : p.sum ≤ 64) (hl : p.length ≤ 64) (kd : Int) (hk : kd ≠ 1) : ∀ (d j : Nat), j + d = p.length →
    Ev (fun k => weirref03_Space_First.l0 k (ints (firstA 0 (p.take j))) (j : Int) kd (ints p)) (ints (firstA 0 p), true, kd) := by
  intro d
  induction d with
  | zero =>
    intro j hj
    have hjp : j = p.length := by omega
    subst hjp
    refine Ev.step (fun k => ?_) (Ev.now _)
    rw [weirref03_Space_First.l0, if_neg (by rw [ints_length]; omega), List.take_length]
  | succ d ih =>
    intro j hj
    have h := rfw_in p hs hl kd (j := j) (by omega) _ (ih (j + 1) (by omega)) (p.getD j 0) 0 (by omega)
    refine Ev.step (fun k => ?_) h
    rw [weirref03_Space_First.l0, if_pos (by rw [ints_length]; omega), if_neg hk, List.replicate_zero, List.append_nil]
    rfl
theorem rfirst_weaves (p : List Nat) (hs : p.sum ≤ 64) (hl : p.length ≤ 64) (kd : Int) (hk : kd ≠ 1) : Ev (fun k => weirref03_Space_First.f k kd (ints p)) (ints (firstA 0 p), true, kd) :=
  rfw p hs hl kd hk p.length 0 (by omega)
end Go.Proofs.Ytohpboblmmbjnaa.P
/- New of the document's spaces. -/
namespace Go.Proofs.Ytohpboblmmbjnaa.P
open Go Go.RowKit Go.Proofs.YtohpboblmmbjnaaW.PrintWords Go.Proofs.YtohpboblmmbjnaaW.PrintLast Go.Proofs.YtohpboblmmbjnaaW.PrintMore Go.Proofs.Odo
/-- A space made in memory of its own, or nil. -/
def NewR (w W : World) (v : Value) (kd : Int) : Option (List Int) → Prop
  | none => v = .pointer none ∧ Below w.heap.size w W
  | some l => ∃ (g : Nat) (A : Option Addr) (c : Nat), v = .pointer (some ⟨g, 0, none⟩) ∧ Owned w [.row (Kd.int .i64) 3 (.slice A l.length c) l, .box g 74 #[.int .i64 kd, .slice A l.length c]] W
theorem cl_small {n : Nat} (h : n ≤ 64) : n * 8 ≤ 140737488355328 := by omega
set_option maxHeartbeats 8000000 in
set_option maxRecDepth 100000 in
theorem rnewp_c {w : World} {l : List Int} {A : Option Addr} {c : Nat} (hl : Kd.C (Kd.int .i64) w A l.length l) :
    Calls Try.prog 25 #[.int .i64 1, .slice A l.length c] w fun e W' => ∃ v, e = .returned (.tuple #[v, .int .i64 (odo_Product.f l).2]) ∧ NewR w W' v 1 (odo_Product.f l).1 := by
  have HA := Aside0.mk hl
  clear hl
  by_cases h64 : 64 < l.length
  · have hf : odo_Product.f l = (none, 1) := by unfold odo_Product.f; rw [if_pos h64]
    rw [hf]
    clear hf
    have c3 : decide (64 < (l.length : Int)) = true := decide_eq_true (by omega)
    go_enter Try.func25, Try.ntmps25
    go_wp2_with fail
    go_ret2
    exact ⟨_, rfl, rfl, Below.refl _ _⟩
  · have c3 : decide (64 < (l.length : Int)) = false := decide_eq_false (by omega)
    have hlen := Aside0.mk (show l.length ≤ 64 by omega)
    have h64' := Aside0.mk h64
    clear h64
    go_enter Try.func25, Try.ntmps25
    go_wp2_with fail
    clear c3
    go_loopw [8] (fun vi W => ∃ k : Nat, vi = .int .i64 k ∧ k ≤ l.length ∧ Aside0 (anyNeg (l.take k) = false) ∧ Aside0 (W = w ∨ False)) (fun vi _ => l.length - (intOf vi).toNat)
    case atStart => exact ⟨0, rfl, Nat.zero_le _, ⟨by simp [anyNeg]⟩, ⟨by simp⟩⟩
    case round =>
      obtain ⟨k, rfl, hk, ha, hw⟩ := hrel
      obtain rfl := hw.out.resolve_right id
      by_cases hlt : k < l.length
      · obtain ⟨ad, rfl, hxk⟩ := Kd.at_int HA.out (k : Int) (Int.natCast_nonneg k) (Int.ofNat_lt.2 hlt)
        rw [Int.toNat_natCast] at hxk
        have hs := anyNeg_take hlt
        rw [ha.out, Bool.false_or] at hs
        have hwk := Aside0.mk (Big.next_nat hlt (Nat.le_trans hlen.out (by decide)))
        have HLT := Aside0.mk hlt
        by_cases hn : rd l k < 0
        · have hfin : Aside0 (odo_Product.f l = (none, 4)) := ⟨by
            unfold odo_Product.f
            rw [if_neg h64'.out, if_pos (anyNeg_more (k := k + 1) (by rw [hs]; exact decide_eq_true hn))]⟩
          clear hs
          have hnb : decide (rd l k < 0) = true := decide_eq_true hn
          clear hn
          go_wp2_with fail
          go_ret2
          rw [hfin.out]
          exact ⟨_, rfl, rfl, Below.refl _ _⟩
        · have hs' : Aside0 (anyNeg (l.take (k + 1)) = false) := ⟨by rw [hs]; exact decide_eq_false hn⟩
          clear hs
          have hnb : decide (rd l k < 0) = false := decide_eq_false hn
          clear hn
          go_wp2_with fail
          go_roundw
          case rel => exact ⟨k + 1, by rw [hwk.out], HLT.out, hs', ⟨by simp⟩⟩
          case measure => rw [hwk.out]; exact nat_dec HLT.out
      · have hfin : Aside0 (odo_Product.f l = (some l, 0)) := ⟨by
          unfold odo_Product.f
          have := ha.out
          rw [List.take_of_length_le (Nat.le_of_not_lt hlt)] at this
          rw [if_neg h64'.out, if_neg (by rw [this]; decide)]⟩
        have hcl := Aside0.mk (cl_small hlen.out)
        go_wp2_with (first | ((with_reducible refine gate_builtin (b := .append) (xs := #[.tmp 79, .tmp 80]) rfl ?_); at_builtin; refine Owned.clone (Kd.int .i64) (Owned.nil wr) (.tmp 79) (.tmp 80) 22 3 (.int .i64 0) 8 Try.underlying22 info3 rfl (by decide) (by decide) hcl.out (fun _ _ h => h) (Kd.C_alloc HA.out _) ?_ rfl rfl rfl rfl; intro v2 w3 h2; obtain ⟨Y, cy, e2⟩ := row_slice (h2.get (j := 0) rfl); subst e2; have HO := Aside0.mk (h2.box 74 #[.int .i64 1, .slice Y l.length cy]); clear h2))
        go_ret2
        rw [hfin.out]
        exact ⟨_, rfl, _, Y, cy, rfl, HO.out⟩
set_option maxHeartbeats 8000000 in
set_option maxRecDepth 100000 in
theorem rneww_c {w : World} {l : List Int} {A : Option Addr} {c : Nat} (hl : Kd.C (Kd.int .i64) w A l.length l) :
    Calls Try.prog 25 #[.int .i64 3, .slice A l.length c] w fun e W' => ∃ v, e = .returned (.tuple #[v, .int .i64 (odo_Weaves.f l).2]) ∧ NewR w W' v 3 (odo_Weaves.f l).1 := by
  have HA := Aside0.mk hl
  clear hl
  by_cases h64 : 64 < l.length
  · have hf : odo_Weaves.f l = (none, 1) := by unfold odo_Weaves.f; rw [if_pos h64]
    rw [hf]
    clear hf
    have c3 : decide (64 < (l.length : Int)) = true := decide_eq_true (by omega)
    go_enter Try.func25, Try.ntmps25
    go_wp2_with fail
    go_ret2
    exact ⟨_, rfl, rfl, Below.refl _ _⟩
  · have c3 : decide (64 < (l.length : Int)) = false := decide_eq_false (by omega)
    have hlen := Aside0.mk (show l.length ≤ 64 by omega)
    have h64' := Aside0.mk h64
    clear h64
    go_enter Try.func25, Try.ntmps25
    go_wp2_with fail
    clear c3
    go_loopw [8] (fun vi W => ∃ k : Nat, vi = .int .i64 k ∧ k ≤ l.length ∧ Aside0 (anyNeg (l.take k) = false) ∧ Aside0 (W = w ∨ False)) (fun vi _ => l.length - (intOf vi).toNat)
    case atStart => exact ⟨0, rfl, Nat.zero_le _, ⟨by simp [anyNeg]⟩, ⟨by simp⟩⟩
    case round =>
      obtain ⟨k, rfl, hk, ha, hw⟩ := hrel
      obtain rfl := hw.out.resolve_right id
      by_cases hlt : k < l.length
      · obtain ⟨ad, rfl, hxk⟩ := Kd.at_int HA.out (k : Int) (Int.natCast_nonneg k) (Int.ofNat_lt.2 hlt)
        rw [Int.toNat_natCast] at hxk
        have hs := anyNeg_take hlt
        rw [ha.out, Bool.false_or] at hs
        have hwk := Aside0.mk (Big.next_nat hlt (Nat.le_trans hlen.out (by decide)))
        have HLT := Aside0.mk hlt
        by_cases hn : rd l k < 0
        · have hfin : Aside0 (odo_Weaves.f l = (none, 4)) := ⟨by
            unfold odo_Weaves.f
            rw [if_neg h64'.out, if_pos (anyNeg_more (k := k + 1) (by rw [hs]; exact decide_eq_true hn))]⟩
          clear hs
          have hnb : decide (rd l k < 0) = true := decide_eq_true hn
          clear hn
          go_wp2_with fail
          go_ret2
          rw [hfin.out]
          exact ⟨_, rfl, rfl, Below.refl _ _⟩
        · have hs' : Aside0 (anyNeg (l.take (k + 1)) = false) := ⟨by rw [hs]; exact decide_eq_false hn⟩
          clear hs
          have hnb : decide (rd l k < 0) = false := decide_eq_false hn
          clear hn
          go_wp2_with fail
          go_roundw
          case rel => exact ⟨k + 1, by rw [hwk.out], HLT.out, hs', ⟨by simp⟩⟩
          case measure => rw [hwk.out]; exact nat_dec HLT.out
      · have hneg := Aside0.mk (show anyNeg l = false by
          have := ha.out
          rw [List.take_of_length_le (Nat.le_of_not_lt hlt)] at this
          exact this)
        go_wp2_with fail
        clear hlt hk ha
        go_loopw [9, 10] (fun vs vi W => ∃ k : Nat, vi = .int .i64 k ∧ k ≤ l.length ∧ vs = .int .i64 (l.take k).sum ∧ Aside0 ((l.take k).sum ≤ 64) ∧ Aside0 (W = wr ∨ False)) (fun _ vi _ => l.length - (intOf vi).toNat)
        case atStart => exact ⟨0, rfl, Nat.zero_le _, rfl, ⟨by simp⟩, ⟨by simp⟩⟩
        case round =>
          rename_i wr0 _ _ _ _
          obtain ⟨k, rfl, hk, rfl, hs64, hw⟩ := hrel
          obtain rfl := hw.out.resolve_right id
          obtain ⟨s, hs⟩ : ∃ s, (l.take k).sum = s := ⟨_, rfl⟩
          have HSS := Aside0.mk hs
          rw [hs] at hs64
          simp only [hs]
          have hs0 := Aside0.mk (show 0 ≤ s by rw [← hs]; exact (sum_le hneg.out k).1)
          have hw1 : wrap64 (64 - s) = 64 - s := by have := hs0.out; have := hs64.out; unfold wrap64; omega
          by_cases hlt : k < l.length
          · obtain ⟨ad, rfl, hxk⟩ := Kd.at_int HA.out (k : Int) (Int.natCast_nonneg k) (Int.ofNat_lt.2 hlt)
            rw [Int.toNat_natCast] at hxk
            obtain ⟨x, hx⟩ : ∃ x, rd l (k : Int) = x := ⟨_, rfl⟩
            rw [hx] at hxk
            have hst := Aside0.mk (show (l.take (k + 1)).sum = s + x by rw [sum_take hlt, hs, hx])
            have hwk := Aside0.mk (Big.next_nat hlt (Nat.le_trans hlen.out (by decide)))
            have HLT := Aside0.mk hlt
            by_cases hn : x > 64 - s
            · have hfin : Aside0 (odo_Weaves.f l = (none, 1)) := ⟨by
                unfold odo_Weaves.f
                have h1 := (sum_le hneg.out (k + 1)).2
                rw [hst.out] at h1
                rw [if_neg h64'.out, if_neg (by rw [hneg.out]; decide), if_pos (by omega)]⟩
              have hnb : decide (64 - s < x) = true := decide_eq_true hn
              clear hn hs
              go_wp2_with fail
              go_ret2
              rw [hfin.out]
              exact ⟨_, rfl, rfl, Below.refl _ _⟩
            · have hnb : decide (64 - s < x) = false := decide_eq_false hn
              have hns := Aside0.mk (show s + x ≤ 64 by omega)
              have h0 := Aside0.mk (show 0 ≤ s + x by rw [← hst.out]; exact (sum_le hneg.out (k + 1)).1)
              have hw2 := Aside0.mk (show wrap64 (s + x) = s + x by have := hns.out; have := h0.out; unfold wrap64; omega)
              clear hn hs
              go_wp2_with fail
              go_roundw
              case rel => exact ⟨k + 1, by rw [hwk.out], HLT.out, by rw [hw2.out, hst.out], ⟨by rw [hst.out]; exact hns.out⟩, ⟨by simp⟩⟩
              case measure => rw [hwk.out]; exact nat_dec HLT.out
          · have hfin : Aside0 (odo_Weaves.f l = (some l, 0)) := ⟨by
              unfold odo_Weaves.f
              have h1 := hs64.out
              rw [← hs, List.take_of_length_le (Nat.le_of_not_lt hlt)] at h1
              rw [if_neg h64'.out, if_neg (by rw [hneg.out]; decide), if_neg (by omega)]⟩
            clear hs hw1
            have hcl := Aside0.mk (cl_small hlen.out)
            go_wp2_with (first | ((with_reducible refine gate_builtin (b := .append) (xs := #[.tmp 79, .tmp 80]) rfl ?_); at_builtin; refine Owned.clone (Kd.int .i64) (Owned.nil wr) (.tmp 79) (.tmp 80) 22 3 (.int .i64 0) 8 Try.underlying22 info3 rfl (by decide) (by decide) hcl.out (fun _ _ h => h) (Kd.C_alloc HA.out _) ?_ rfl rfl rfl rfl; intro v2 w3 h2; obtain ⟨Y, cy, e2⟩ := row_slice (h2.get (j := 0) rfl); subst e2; have HO := Aside0.mk (h2.box 74 #[.int .i64 3, .slice Y l.length cy]); clear h2))
            go_ret2
            rw [hfin.out]
            exact ⟨_, rfl, _, Y, cy, rfl, HO.out⟩
set_option maxHeartbeats 8000000 in
set_option maxRecDepth 100000 in
theorem rnewo_c {w : World} {n : Int} {A : Option Addr} {c : Nat} (hl : Kd.C (Kd.int .i64) w A 1 [n]) :
    Calls Try.prog 25 #[.int .i64 2, .slice A 1 c] w fun e W' => ∃ v, e = .returned (.tuple #[v, .int .i64 (odo_Orders.f n).2]) ∧ NewR w W' v 2 (odo_Orders.f n).1 := by
  have HA := Aside0.mk hl
  obtain ⟨ad, rfl, hx⟩ := Kd.at_int hl 0 (Int.le_refl 0) (by decide)
  have hx0 : w.cell? (ad.add 0) = some (.int .i64 n) := hx
  clear hx
  have hx : w.cell? ad = some (.int .i64 n) := by rw [show ad.add 0 = ad from by cases ad; simp [Addr.add]] at hx0; exact hx0
  clear hx0
  have HX := Aside0.mk hx
  clear hl
  by_cases h0 : n < 0
  · have hf : odo_Orders.f n = (none, 4) := by unfold odo_Orders.f; rw [if_neg (by omega)]
    rw [hf]
    have d1 : decide (n < 0) = true := decide_eq_true h0
    clear hf h0
    go_enter Try.func25, Try.ntmps25
    go_wp2_with fail
    go_ret2
    exact ⟨_, rfl, rfl, Below.refl _ _⟩
  · have d1 : decide (n < 0) = false := decide_eq_false h0
    by_cases h64 : 64 < n
    · have hf : odo_Orders.f n = (none, 4) := by unfold odo_Orders.f; rw [if_neg (by omega)]
      rw [hf]
      have d2 : decide (64 < n) = true := decide_eq_true h64
      clear hf h0 h64
      go_enter Try.func25, Try.ntmps25
      go_wp2_with fail
      go_ret2
      exact ⟨_, rfl, rfl, Below.refl _ _⟩
    · have d2 : decide (64 < n) = false := decide_eq_false h64
      have hf : odo_Orders.f n = (some (List.replicate n.toNat 1), 0) := by unfold odo_Orders.f; rw [if_pos (by omega)]
      obtain ⟨m, rfl⟩ : ∃ m : Nat, n = m := ⟨n.toNat, by omega⟩
      rw [hf, Int.toNat_natCast]
      have hm := Aside0.mk (show m ≤ 64 by omega)
      clear hf h0 h64
      go_enter Try.func25, Try.ntmps25
      go_upto_region 5 with fail
      have HO := Aside0.mk (((Owned.nil w).fresh (p' := .row (Kd.int .i64) 3 (.slice none 0 0) []) (Below.refl _ _) (Kd.R_nil _ _ _ _ _)).box 74 #[.int .i64 2, .slice none 0 0])
      clear d1 d2 hx
      generalize hg : w.heap.size = g at HO ⊢
      go_wp2_with fail
      go_loopw [7] (fun vi W => ∃ i : Nat, vi = .int .i64 i ∧ i ≤ m ∧ Aside0 (∃ (vl : Value) (X : List Int), X = List.replicate i 1 ∧ Owned w [.row (Kd.int .i64) 3 vl X, .box g 74 #[.int .i64 2, vl]] W)) (fun vi _ => m - (intOf vi).toNat)
      case atStart => exact ⟨0, rfl, Nat.zero_le _, ⟨_, [], rfl, HO.out⟩⟩
      case round =>
        clear HO
        obtain ⟨i, rfl, hi, HX1⟩ := hrel
        obtain ⟨vl, X, hX, hO⟩ := HX1.out
        have HO := Aside0.mk hO
        have EX := Aside0.mk hX
        obtain ⟨Y, cy, rfl⟩ := row_slice (HO.out.get (j := 0) rfl)
        clear HX1 hX hO
        obtain ⟨y0, y1, f0, f1⟩ := blkA2 (HO.out.blk (j := 1) rfl)
        have hx := pw_cell_below HO.out.below HX.out
        by_cases hlt : i < m
        · have hwi := Aside0.mk (Big.next_nat hlt (Nat.le_trans hm.out (by decide)))
          have HI := Aside0.mk hlt
          have hl8 := Aside0.mk (show (X.length + 1) * 8 ≤ 140737488355328 by rw [EX.out, List.length_replicate]; have := hm.out; have := HI.out; omega)
          go_wp2_with ((with_reducible refine gate_builtin (b := .append) (xs := #[.tmp 37, .tmp 38]) rfl ?_); at_builtin; refine Owned.app (Kd.int .i64) HO.out (j := 0) rfl 1 [.int .i64 1] (fun _ => rfl) (.tmp 37) (.tmp 38) 22 (.int .i64 0) 8 Try.underlying22 info3 rfl (by decide) (by decide) hl8.out ?_ rfl rfl rfl rfl; intro v1 W7 h7; clear y0 y1 f0 f1; obtain ⟨Z, e7, ez⟩ := row_slice (h7.get (j := 0) rfl); rw [List.length_append, List.length_singleton] at ez; subst ez; have H7 := Aside0.mk h7; obtain ⟨y0, y1, f0, f1⟩ := blkA2 (h7.blk (j := 1) rfl); clear h7)
          go_roundw
          case rel => exact ⟨i + 1, by rw [hwi.out], HI.out, ⟨.slice Z (X.length + 1) e7, X ++ [1], by rw [EX.out, List.replicate_succ'], H7.out.cell (j := 1) rfl 1 (.slice Z (X.length + 1) e7)⟩⟩
          case measure => rw [hwi.out]; exact nat_dec HI.out
        · have him : i = m := Nat.le_antisymm hi (Nat.le_of_not_lt hlt)
          have hX := EX.out
          rw [him] at hX
          have EX2 := Aside0.mk hX
          clear him hX
          go_wp2_with fail
          go_ret2
          refine ⟨_, rfl, ?_⟩
          have h := HO.out
          rw [EX2.out] at h
          exact ⟨g, Y, cy, rfl, h⟩
end Go.Proofs.Ytohpboblmmbjnaa.P
/- Makers of spaces: what they make is their own. -/
namespace Go.Proofs.Ytohpboblmmbjnaa.P
open Go Go.RowKit Go.Proofs.YtohpboblmmbjnaaW.PrintWords Go.Proofs.YtohpboblmmbjnaaW.PrintLast Go.Proofs.YtohpboblmmbjnaaW.PrintMore Go.Proofs.Odo
def MadeR (T : Nat) (w W : World) (v : Value) : Option (List Int) → Prop
  | none => v = .pointer none ∧ Below w.heap.size w W
  | some l => ∃ (g : Nat) (A : Option Addr) (c : Nat), v = .pointer (some ⟨g, 0, none⟩) ∧ Owned w [.row (Kd.int .i64) 3 (.slice A l.length c) l, .box g 67 #[.iface T (.slice A l.length c)]] W
theorem MadeR.sp {T : Nat} {w W : World} {v : Value} {l : List Int} (h : MadeR T w W v (some l)) : SpAt T W v l := by
  obtain ⟨g, A, c, e, hO⟩ := h
  obtain ⟨A', c', e', h1, h2⟩ := Kd.R_reads (show (Kd.int .i64).R 3 W w.heap.size (fun _ => True) (.slice A l.length c) l from hO.get (j := 0) rfl)
  injection e' with e1 e2 e3
  subst e1 e3
  exact ⟨g, A, c, e, (blk_cell (hO.blk (j := 1) rfl) 0).trans rfl, h1, h2⟩
set_option maxHeartbeats 2000000 in
set_option maxRecDepth 100000 in
theorem odo_Product.made_c (A0 : Option Addr) (c0 : Nat) (l0 : List Int) (w : World) (hr0 : Kd.C (Kd.int .i64) w A0 l0.length l0) (hc0 : l0.length ≤ c0) :
    Calls Try.prog 18 #[.slice A0 l0.length c0] w fun e w' => ∃ v, e = .returned (.tuple #[v, .int .i64 (odo_Product.f l0).2]) ∧ MadeR 80 w w' v (odo_Product.f l0).1 := by
  have HR0 := Aside0.mk hr0
  have HC0 := Aside0.mk hc0
  clear hr0 hc0
  by_cases h64 : 64 < l0.length
  · have hf : odo_Product.f l0 = (none, 1) := by unfold odo_Product.f; rw [if_pos h64]
    rw [hf]
    clear hf
    have c3b0 : decide (64 < (l0.length : Int)) = true := decide_eq_true (by omega)
    go_enter Try.func18, Try.ntmps18
    go_wp2
    go_ret2
    exact ⟨_, rfl, rfl, Below.refl _ _⟩
  · have c3b0 : decide (64 < (l0.length : Int)) = false := decide_eq_false (by omega)
    have hlen : l0.length ≤ 64 := by omega
    have h64' := Aside0.mk h64
    clear h64
    go_enter Try.func18, Try.ntmps18
    go_wp2
    go_loop [11] (fun i => ∃ k : Nat, k ≤ l0.length ∧ i = .int .i64 k ∧ Aside0 (anyNeg (l0.take k) = false)) (fun i => l0.length - (intOf i).toNat)
    case atStart => exact ⟨0, by omega, rfl, ⟨by simp [anyNeg]⟩⟩
    case round =>
      obtain ⟨k, hk, rfl, ha⟩ := hrel
      by_cases hlt : k < l0.length
      · obtain ⟨ad256, e256, hx256_0⟩ := Kd.at_int HR0.out k (by omega) (by omega)
        cases e256
        rw [Int.toNat_natCast] at hx256_0
        have hs := anyNeg_take hlt
        rw [ha.out, Bool.false_or] at hs
        by_cases hn : rd l0 k < 0
        · have hfin : Aside0 (odo_Product.f l0 = (none, 4)) := ⟨by
            unfold odo_Product.f
            rw [if_neg h64'.out, if_pos (anyNeg_more (k := k + 1) (by rw [hs]; exact decide_eq_true hn))]⟩
          clear hs
          have hnb : decide (rd l0 k < 0) = true := decide_eq_true hn
          clear hn
          go_wp2
          go_ret2
          rw [hfin.out]
          exact ⟨_, rfl, rfl, Below.refl _ _⟩
        · have hs' : Aside0 (anyNeg (l0.take (k + 1)) = false) := ⟨by rw [hs]; exact decide_eq_false hn⟩
          clear hs
          have hnb : decide (rd l0 k < 0) = false := decide_eq_false hn
          clear hn
          go_wp2
          go_round
          case rel => exact ⟨k + 1, by omega, by go_num, hs'⟩
          case measure => simp [intOf]; omega
      · have hge : l0.length ≤ k := by omega
        have hfin : Aside0 (odo_Product.f l0 = (some l0, 0)) := ⟨by
          unfold odo_Product.f
          have := ha.out
          rw [List.take_of_length_le hge] at this
          rw [if_neg h64'.out, if_neg (by rw [this]; decide)]⟩
        clear ha hlt h64'
        have hcl : Aside0 (slices_Clone_int_int.f l0 = some l0) := ⟨by
          unfold slices_Clone_int_int.f
          simp only [Option.bind_some, List.length_nil, List.nil_append]
          rw [if_pos (by omega)]⟩
        go_wp2_with (go_at_call 32; refine (slices_Clone_int_int.calls A0 c0 l0 l0 _ HR0.out HC0.out hcl.out).mono ?_; rintro e w1 ⟨v1, rfl, hR1, hB1⟩)
        have h1 := (Owned.nil _).fresh (p' := .row (Kd.int .i64) 3 v1 l0) hB1 (Part.sem.low (B := _) (p := .row (Kd.int .i64) 3 v1 l0) (Kd.R_mono (Kd.R_bound hR1) (fun k hk => hk.2.1)) (by first | exact Nat.le_refl _ | (simp; done) | (simp; omega)))
        obtain ⟨A1, c1, e1⟩ := row_slice (h1.get (j := 0) rfl)
        subst e1
        have HO := Aside0.mk h1
        clear h1 hR1 hB1
        go_wp2
        go_ret2
        rw [hfin.out]
        exact ⟨_, rfl, _, A1, c1, rfl, HO.out.box 67 _⟩
set_option maxHeartbeats 2000000 in
set_option maxRecDepth 100000 in
theorem odo_Weaves.made_c (A0 : Option Addr) (c0 : Nat) (l0 : List Int) (w : World) (hr0 : Kd.C (Kd.int .i64) w A0 l0.length l0) (hc0 : l0.length ≤ c0) :
    Calls Try.prog 26 #[.slice A0 l0.length c0] w fun e w' => ∃ v, e = .returned (.tuple #[v, .int .i64 (odo_Weaves.f l0).2]) ∧ MadeR 82 w w' v (odo_Weaves.f l0).1 := by
  have HR0 := Aside0.mk hr0
  have HC0 := Aside0.mk hc0
  clear hr0 hc0
  by_cases h64 : 64 < l0.length
  · have hf : odo_Weaves.f l0 = (none, 1) := by unfold odo_Weaves.f; rw [if_pos h64]
    rw [hf]
    clear hf
    have c3b0 : decide (64 < (l0.length : Int)) = true := decide_eq_true (by omega)
    go_enter Try.func26, Try.ntmps26
    go_wp2
    go_ret2
    exact ⟨_, rfl, rfl, Below.refl _ _⟩
  · have c3b0 : decide (64 < (l0.length : Int)) = false := decide_eq_false (by omega)
    have hlen : l0.length ≤ 64 := by omega
    have h64' := Aside0.mk h64
    clear h64
    go_enter Try.func26, Try.ntmps26
    go_wp2
    go_loop [14] (fun i => ∃ k : Nat, k ≤ l0.length ∧ i = .int .i64 k ∧ Aside0 (anyNeg (l0.take k) = false)) (fun i => l0.length - (intOf i).toNat)
    case atStart => exact ⟨0, by omega, rfl, ⟨by simp [anyNeg]⟩⟩
    case round =>
      obtain ⟨k, hk, rfl, ha⟩ := hrel
      by_cases hlt : k < l0.length
      · obtain ⟨ad256, e256, hx256_0⟩ := Kd.at_int HR0.out k (by omega) (by omega)
        cases e256
        rw [Int.toNat_natCast] at hx256_0
        have hs := anyNeg_take hlt
        rw [ha.out, Bool.false_or] at hs
        by_cases hn : rd l0 k < 0
        · have hfin : Aside0 (odo_Weaves.f l0 = (none, 4)) := ⟨by
            unfold odo_Weaves.f
            rw [if_neg h64'.out, if_pos (anyNeg_more (k := k + 1) (by rw [hs]; exact decide_eq_true hn))]⟩
          clear hs
          have hnb : decide (rd l0 k < 0) = true := decide_eq_true hn
          clear hn
          go_wp2
          go_ret2
          rw [hfin.out]
          exact ⟨_, rfl, rfl, Below.refl _ _⟩
        · have hs' : Aside0 (anyNeg (l0.take (k + 1)) = false) := ⟨by rw [hs]; exact decide_eq_false hn⟩
          clear hs
          have hnb : decide (rd l0 k < 0) = false := decide_eq_false hn
          clear hn
          go_wp2
          go_round
          case rel => exact ⟨k + 1, by omega, by go_num, hs'⟩
          case measure => simp [intOf]; omega
      · have hge : l0.length ≤ k := by omega
        have hnn : Aside0 (anyNeg l0 = false) := ⟨by
          have := ha.out
          rwa [List.take_of_length_le hge] at this⟩
        clear ha hlt
        go_wp2
        clear hge hk
        go_loop [6, 23] (fun s i => ∃ k : Nat, k ≤ l0.length ∧ i = .int .i64 k ∧ s = .int .i64 (l0.take k).sum ∧ Aside0 ((l0.take k).sum ≤ 64)) (fun _ i => l0.length - (intOf i).toNat)
        case atStart => exact ⟨0, by omega, rfl, by simp, ⟨by simp⟩⟩
        case round =>
          obtain ⟨k, hk, rfl, rfl, ha⟩ := hrel
          by_cases hlt : k < l0.length
          · obtain ⟨ad256, e256, hx256_0⟩ := Kd.at_int HR0.out k (by omega) (by omega)
            cases e256
            rw [Int.toNat_natCast] at hx256_0
            have hs := sum_take hlt
            have b1 := (sum_le hnn.out (k + 1)).1
            have b2 := sum_le hnn.out k
            have b3 := ha.out
            have b4 := (sum_le hnn.out (k + 1)).2
            obtain ⟨s, hse⟩ : ∃ s, (l0.take k).sum = s := ⟨_, rfl⟩
            obtain ⟨x, hxe⟩ : ∃ x, rd l0 k = x := ⟨_, rfl⟩
            rw [hse] at b2 b3 hs
            rw [hxe] at hs hx256_0
            have hx0 : 0 ≤ x := by
              have h1 := anyNeg_take hlt
              rw [(anyNeg_split hnn.out (k + 1)).1, (anyNeg_split hnn.out k).1, Bool.false_or] at h1
              have := of_decide_eq_false h1.symm
              omega
            have hs' := Aside0.mk hs
            rw [hs] at b1 b4
            clear hs
            rw [hse]
            clear hse hxe
            by_cases hn : 64 - s < x
            · have hfin : Aside0 (odo_Weaves.f l0 = (none, 1)) := ⟨by
                unfold odo_Weaves.f
                rw [if_neg h64'.out, if_neg (by rw [hnn.out]; decide), if_pos (by omega)]⟩
              have hnb : decide (64 - s < x) = true := decide_eq_true hn
              go_wp2
              go_ret2
              rw [hfin.out]
              exact ⟨_, rfl, rfl, Below.refl _ _⟩
            · have hnb : decide (64 - s < x) = false := decide_eq_false hn
              go_wp2
              go_round
              case rel => exact ⟨k + 1, by omega, by go_num, by rw [hs'.out], ⟨by rw [hs'.out]; omega⟩⟩
              case measure => simp [intOf]; omega
          · have hge : l0.length ≤ k := by omega
            have hfin : Aside0 (odo_Weaves.f l0 = (some l0, 0)) := ⟨by
              have := ha.out
              rw [List.take_of_length_le hge] at this
              unfold odo_Weaves.f
              rw [if_neg h64'.out, if_neg (by rw [hnn.out]; decide), if_neg (by omega)]⟩
            have hcl : Aside0 (slices_Clone_int_int.f l0 = some l0) := ⟨by
              unfold slices_Clone_int_int.f
              simp only [Option.bind_some, List.length_nil, List.nil_append]
              rw [if_pos (by omega)]⟩
            clear ha
            go_wp2_with (go_at_call 32; refine (slices_Clone_int_int.calls A0 c0 l0 l0 _ HR0.out HC0.out hcl.out).mono ?_; rintro e w1 ⟨v1, rfl, hR1, hB1⟩)
            have h1 := (Owned.nil _).fresh (p' := .row (Kd.int .i64) 3 v1 l0) hB1 (Part.sem.low (B := _) (p := .row (Kd.int .i64) 3 v1 l0) (Kd.R_mono (Kd.R_bound hR1) (fun k hk => hk.2.1)) (by first | exact Nat.le_refl _ | (simp; done) | (simp; omega)))
            obtain ⟨A1, c1, e1⟩ := row_slice (h1.get (j := 0) rfl)
            subst e1
            have HO := Aside0.mk h1
            clear h1 hR1 hB1
            go_wp2
            go_ret2
            rw [hfin.out]
            exact ⟨_, rfl, _, A1, c1, rfl, HO.out.box 67 _⟩
set_option maxHeartbeats 2000000 in
set_option maxRecDepth 100000 in
theorem odo_Orders.made_c (n : Int) (w : World) :
    Calls Try.prog 19 #[.int .i64 n] w fun e w' => ∃ v, e = .returned (.tuple #[v, .int .i64 (odo_Orders.f n).2]) ∧ MadeR 82 w w' v (odo_Orders.f n).1 := by
  by_cases h0 : n < 0
  · have hf : odo_Orders.f n = (none, 4) := by unfold odo_Orders.f; rw [if_neg (by omega)]
    rw [hf]
    clear hf
    have b0 : decide (n < 0) = true := decide_eq_true h0
    go_enter Try.func19, Try.ntmps19
    go_wp2
    go_ret2
    exact ⟨_, rfl, rfl, Below.refl _ _⟩
  · have b0 : decide (n < 0) = false := decide_eq_false h0
    by_cases h1 : 64 < n
    · have hf : odo_Orders.f n = (none, 4) := by unfold odo_Orders.f; rw [if_neg (by omega)]
      rw [hf]
      clear hf
      have b1 : decide (64 < n) = true := decide_eq_true h1
      go_enter Try.func19, Try.ntmps19
      go_wp2
      go_ret2
      exact ⟨_, rfl, rfl, Below.refl _ _⟩
    · have b1 : decide (64 < n) = false := decide_eq_false h1
      obtain ⟨m, rfl⟩ := Int.eq_ofNat_of_zero_le (show 0 ≤ n by omega)
      have hf : odo_Orders.f m = (some (List.replicate m 1), 0) := by unfold odo_Orders.f; rw [if_pos (by omega)]; rfl
      rw [hf]
      clear hf
      have hm : m ≤ 64 := by omega
      have hC := Aside0.mk (lit_C w [1] (by decide))
      go_enter Try.func19, Try.ntmps19
      go_wp2_with (go_at_call 33; refine (slices_Repeat_one 1 m hm _ _ _ hC.out).mono ?_; rintro e w1 ⟨v1, rfl, hR1, hB1⟩)
      have h1 := ((Owned.nil w).later (below_alloc (Below.refl _ w) _)).fresh (p' := .row (Kd.int .i64) 3 v1 (List.replicate m 1)) hB1 (Part.sem.low (B := _) (p := .row (Kd.int .i64) 3 v1 (List.replicate m 1)) (Kd.R_mono (Kd.R_bound hR1) (fun k hk => hk.2.1)) (by first | exact Nat.le_refl _ | (simp; done) | (simp; omega)))
      obtain ⟨A1, c1, e1⟩ := row_slice (h1.get (j := 0) rfl)
      subst e1
      have HO := Aside0.mk h1
      clear h1 hR1 hB1
      go_wp2
      go_ret2
      exact ⟨_, rfl, _, A1, c1, rfl, HO.out.box 67 _⟩

end Go.Proofs.Ytohpboblmmbjnaa.P
