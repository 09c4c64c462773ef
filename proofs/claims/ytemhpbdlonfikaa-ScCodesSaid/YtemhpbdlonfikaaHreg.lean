-- Printed by xprint.py, a program of this session over the kit's printer.
import Derived.Test.YtemhpbdlonfikaaP3
import Derived.Test.YtemhpbdlonfikaaP7
import Derived.Outline
namespace Go.Proofs.Ytemhpbdlonfikaa.P
open Go.RowKit Go.Proofs.YtemhpbdlonfikaaW.PrintWords Go.Proofs.YtemhpbdlonfikaaW.PrintLast Go.Proofs.YtemhpbdlonfikaaW.PrintMore
attribute [local go_sem] max2_int min2_int max_two min_two max_three min_three max_four min_four   -- for this text's walks alone

/-! ### slices_Clone_int64_int64: function 51 -/
def slices_Clone_int64_int64.f (l0 : List Int) : Option (List Int) := (some (([] : List Int) : List Int)).bind fun y155 => (if y155.length + l0.length < 17592186044416 then (some (y155 ++ l0)) else (none))
set_option maxHeartbeats 8000000 in
set_option maxRecDepth 100000 in
theorem slices_Clone_int64_int64.calls (A0 : Option Addr) (c0 : Nat) (l0 : List Int) (r : List Int) (w : World) (hr0 : Kd.C (Kd.int .i64) w A0 l0.length l0) (hc0 : l0.length ≤ c0) (h : slices_Clone_int64_int64.f l0 = some r) :
  Calls Try.prog 51 #[.slice A0 l0.length c0] w fun e w' => ∃ v0_ : Value, e = .returned (v0_) ∧ Kd.R (Kd.int .i64) 2 w' w.heap.size (fun _ => True) v0_ r ∧ Below w.heap.size w w' := by
 have HR0 := Aside0.mk hr0; have HC0 := Aside0.mk hc0; clear hr0 hc0; have HB := Aside0.mk (Below.refl w.heap.size w); have H : ((some (([] : List Int) : List Int)).bind fun y155 => (if y155.length + l0.length < 17592186044416 then (some (y155 ++ l0)) else (none))) = some r := h; clear h; obtain ⟨y155, hy155⟩ : ∃ y_ : List Int, y_ = (([] : List Int)) := ⟨_, rfl⟩; replace H : (if y155.length + l0.length < 17592186044416 then (some (y155 ++ l0)) else (none)) = some r := by first | (rw [hy155]; with_reducible exact H) | (have H2_ := (Option.bind_some _ _).symm.trans H; rw [hy155]; with_reducible exact H2_) | (have H2_ := (Option.bind_some _ _).symm.trans H; with_reducible exact H2_) | with_reducible exact H | (rw [hy155]; exact H) | exact H
 have Ny155 := Aside0.mk hy155; clear hy155
 by_cases c2 : y155.length + l0.length < 17592186044416
 ·
  rw [if_pos c2] at H; have LMc2 := Aside0.mk c2; clear c2; obtain ⟨y158, hy158⟩ : ∃ y_ : List Int, y_ = (y155 ++ l0) := ⟨_, rfl⟩; replace H : (some y158) = some r := by first | (rw [hy158]; with_reducible exact H) | (have H2_ := (Option.bind_some _ _).symm.trans H; rw [hy158]; with_reducible exact H2_) | (have H2_ := (Option.bind_some _ _).symm.trans H; with_reducible exact H2_) | with_reducible exact H | (rw [hy158]; exact H) | exact H
  have Ny158 := Aside0.mk hy158; clear hy158; obtain rfl := Option.some.inj H; have heq_ := fun (W : World) (a_ : Option Addr) (n_ c_ : Nat) => Lib.run_eql_slice_nil (P := Try.prog) W 26 2 a_ n_ c_ 0 0 Try.underlying26
  rcases A0 with _ | ad0
  ·
   have h0_ : l0 = [] := by
    rcases Nat.eq_zero_or_pos l0.length with z_ | z_
    ·
     exact List.eq_nil_of_length_eq_zero z_
    ·
     obtain ⟨ad_, e_, _⟩ := HR0.out.2.2 z_; cases e_
   have e_ : y158 = [] := by rw [Ny158.out, Ny155.out, h0_]; rfl
   rw [e_]; subst h0_; go_enter Try.func51, Try.ntmps51; go_wp2
   go_ret
   exact ⟨_, rfl, Kd.R_nil _ _ _ _ _, by repeat (first | exact Below.refl _ _ | exact HB.out)⟩
  go_enter Try.func51, Try.ntmps51
  go_wp2_with (first | ((with_reducible refine gate_dst (N := 5) rfl ?_); refine Kd.R_lit (Kd.int .i64) _ 2 ?hg (N := 5) ?hd (xs := ([] : List Int)) (inner := []) (ok := fun _ => True) (okp := fun _ => True) ?hr ?hp (fun _ hk => hk) trivial (Below.refl _ _) (Nat.le_refl _) (by simp) ?_; (case hd => rfl); (case hg => rfl); (case hr => first | (go_simp; done) | (go_simp; rfl)); (case hp => exact (Reps.none _ _)); intro v156 w3 ho4 hb hg_ hnew_; clear hg_ hnew_; (first | rw [← Ny155.out] at ho4 | (simp only [Int.reduceToNat] at ho4; rw [← Ny155.out] at ho4)); have HO157 := Aside0.mk (Kd.R_lower ho4 (below_size bel_)); replace HB := bs_ w hb; clear hb ho4) | ((with_reducible refine gate_builtin (b := .append) (xs := #[.tmp 5, .tmp 6]) rfl ?_); at_builtin; refine Kd.R_append_rows (Kd.int .i64) (w0 := w) w.heap.size rfl (.tmp 5) (.tmp 6) 26 2 (.int .i64 0) 8 rfl Try.underlying26 info2 rfl (by decide) (by omega) v156 y155 l0 _ _ _ (fun _ => True) (fun _ => False) rfl rfl ?aO ?aR (fun _ _ h => h) (fun _ h => h.elim) ?aF ?aB ?aS ?aL ?_; (case aR => exact cb_ HR0); (case aB => exact bel_); (case aF => exact (fun _ _ => trivial)); (case aO => exact (rs_ HO157)); (case aS => exact (below_size bel_)); (case aL => have := LMc2.out; omega); intro v159 w5 ho hb hg hat; rw [← Ny158.out] at ho; have n0_ := Aside0.mk (hb); have n1_ := Aside0.mk (ho); clear HB; clear HO157; have HB := n0_; have HO160 := n1_; clear n0_ n1_; clear ho hb hg hat))
  go_ret
  exact ⟨_, ee_, rs_ HO160, bel_⟩
 ·
  rw [if_neg c2] at H; exact absurd H (by simp)

/-! ### sc_rows_int64: function 50 -/
def sc_rows_int64.l0 : Nat → List (List Int) → List (List Int) → Int → Int → Option ((List (List Int)))
 | 0, _, _, _, _ => none
 | k + 1, x0, x3, x9, x10 => if x10 < x9 then (if 0 ≤ x10 then (if x10 < (x0.length : Int) then ((slices_Clone_int64_int64.f (rd_L5 x0 x10)).bind fun t165 => (if x10 < (x3.length : Int) then (sc_rows_int64.l0 k x0 (x3.set (x10 : Int).toNat t165) x9 (wrap64 (x10 + 1))) else (none))) else (none)) else (none)) else (some x3)
def sc_rows_int64.f (k : Nat) (l0 : List (List Int)) : Option ((List (List Int))) := if 0 ≤ (l0.length : Int) then (if ((l0.length : Int) : Int).toNat ≤ 11728124029610 then (sc_rows_int64.l0 k l0 (List.replicate ((l0.length : Int) : Int).toNat []) (l0.length : Int) 0) else (none)) else (none)
theorem sc_rows_int64.mono_l : ∀ k, (∀ y0 y1 y2 y3, LeO (sc_rows_int64.l0 k y0 y1 y2 y3) (sc_rows_int64.l0 (k + 1) y0 y1 y2 y3))
 | 0 => fun _ _ _ _ r h => by simp [sc_rows_int64.l0] at h
 | k + 1 => by
  have ih0 := sc_rows_int64.mono_l k
  ·
   intro y0 y1 y2 y3; unfold sc_rows_int64.l0
   repeat' first
   | (with_reducible exact ih0 _ _ _ _)
   | (with_reducible exact LeO.refl _)
   | (with_reducible exact LeO.none _)
   | (with_reducible refine LeO.ite ?_ ?_)
   | (with_reducible refine LeO.bind ?_ (fun _ => ?_))
   | exact ih0 _ _ _ _
   | exact LeO.none _
   | refine LeO.ite ?_ ?_
   | refine LeO.bind ?_ (fun _ => ?_)
theorem sc_rows_int64.mono : ∀ a0 k, LeO (sc_rows_int64.f k a0) (sc_rows_int64.f (k + 1) a0) := by
 intro a0 k; have ih0 := sc_rows_int64.mono_l k; unfold sc_rows_int64.f
 repeat' first
   | (with_reducible exact ih0 _ _ _ _)
   | (with_reducible exact LeO.refl _)
   | (with_reducible exact LeO.none _)
   | (with_reducible refine LeO.ite ?_ ?_)
   | (with_reducible refine LeO.bind ?_ (fun _ => ?_))
   | exact ih0 _ _ _ _
   | exact LeO.none _
   | refine LeO.ite ?_ ?_
   | refine LeO.bind ?_ (fun _ => ?_)
set_option maxHeartbeats 8000000 in
set_option maxRecDepth 100000 in
theorem sc_rows_int64.calls (k : Nat) (A0 : Option Addr) (c0 : Nat) (l0 : List (List Int)) (r : List (List Int)) (w : World) (hr0 : Kd.C (Kd.slice 2 (Kd.int .i64)) w A0 l0.length l0) (hc0 : l0.length ≤ c0) (h : sc_rows_int64.f k l0 = some r) :
  Calls Try.prog 50 #[.slice A0 l0.length c0] w fun e w' => ∃ v0_ : Value, e = .returned (v0_) ∧ Kd.S (Kd.slice 2 (Kd.int .i64)) 26 w' w.heap.size (fun _ => True) v0_ r ∧ Below w.heap.size w w' := by
 have HR0 := Aside0.mk hr0; have HC0 := Aside0.mk hc0; clear hr0 hc0; have HB := Aside0.mk (Below.refl w.heap.size w); have H : (if 0 ≤ (l0.length : Int) then (if ((l0.length : Int) : Int).toNat ≤ 11728124029610 then (sc_rows_int64.l0 k l0 (List.replicate ((l0.length : Int) : Int).toNat []) (l0.length : Int) 0) else (none)) else (none)) = some r := h; clear h
 by_cases c2 : 0 ≤ (l0.length : Int)
 ·
  rw [if_pos c2] at H; have c2b0 := eq_true c2; have c2b1 : decide (0 ≤ (l0.length : Int)) = true := decide_eq_true c2; clear c2
  by_cases c3 : ((l0.length : Int) : Int).toNat ≤ 11728124029610
  ·
   rw [if_pos c3] at H; have c3b0 := eq_true c3; have c3b1 : decide (((l0.length : Int) : Int).toNat ≤ 11728124029610) = true := decide_eq_true c3; clear c3; obtain ⟨y161, hy161⟩ : ∃ y_ : List (List Int), y_ = (List.replicate ((l0.length : Int) : Int).toNat []) := ⟨_, rfl⟩; replace H : (sc_rows_int64.l0 k l0 y161 (l0.length : Int) 0) = some r := by first | (rw [hy161]; with_reducible exact H) | (have H2_ := (Option.bind_some _ _).symm.trans H; rw [hy161]; with_reducible exact H2_) | (have H2_ := (Option.bind_some _ _).symm.trans H; with_reducible exact H2_) | with_reducible exact H | (rw [hy161]; exact H) | exact H
   have Ny161 := Aside0.mk hy161; clear hy161; have H' := Aside0.mk H; clear H; go_enter Try.func50, Try.ntmps50
   go_wp2_with (first | ((with_reducible refine gate_dst (N := 7) rfl ?_); refine Kd.S_make (Kd.slice 2 (Kd.int .i64)) _ 26 rfl (N := 7) rfl 25 _ _ rfl (l0.length : Int) rfl rfl Try.underlying25 (.slice none 0 0) 24 info26 rfl (by decide) (by omega) [] (ok := fun _ => True) (okp := fun _ => True) ⟨_, rfl, Kd.R_nil _ _ _ _ _⟩ (fun _ hk => hk) trivial (dt_) (Nat.le_trans (Nat.mul_le_mul_right _ (dt_ : (l0.length : Int).toNat ≤ 11728124029610)) (by omega)) (Below.refl _ _) (Nat.le_refl _) ?_; intro v162 w4 ho5 hb hg_ hnew_; clear hg_ hnew_; (first | rw [← Ny161.out] at ho5 | (simp only [Int.reduceToNat] at ho5; rw [← Ny161.out] at ho5)); have HO163 := Aside0.mk (Kd.S_lower ho5 (below_size bel_)); replace HB := bs_ w hb; clear hb ho5))
   go_loopg [10] k (fun kq v10 w' => ∃ (x3_1 : List (List Int)) (x10_1 : Int), v10 = .int .i64 x10_1 ∧ Aside0 (sc_rows_int64.l0 kq l0 x3_1 (l0.length : Int) x10_1 = some r) ∧ Aside0 (kq ≤ k) ∧ Aside0 (Kd.S (Kd.slice 2 (Kd.int .i64)) 26 w' w.heap.size (fun _ => True) v162 x3_1) ∧ Aside0 (Below w.heap.size w w'))
   case atStart => exact ⟨(y161), (0), ff_, H', ⟨Nat.le_refl _⟩, ⟨ss_ HO163⟩, ⟨bel_⟩⟩
   case round =>
    clear H'; (try clear c2b0); (try clear c2b1); (try clear c3b0); (try clear c3b1); obtain ⟨x3_1, x10_1, rfl, HA, HK1, HO_3, HB⟩ := hrel
    cases gk with
    | zero => exact absurd HA.out (by simp [sc_rows_int64.l0])
    | succ k1 =>
     have H := HA.out; clear HA; simp only [sc_rows_int64.l0] at H
     by_cases c6 : x10_1 < (l0.length : Int)
     ·
      rw [if_pos c6] at H; have c6b0 : decide (x10_1 < (l0.length : Int)) = true := decide_eq_true c6; clear c6
      by_cases c7 : 0 ≤ x10_1
      ·
       rw [if_pos c7] at H; have c7b0 : decide (0 ≤ x10_1) = true := decide_eq_true c7; clear c7
       by_cases c8 : x10_1 < (l0.length : Int)
       ·
        rw [if_pos c8] at H; have c8b0 : decide (x10_1 < (l0.length : Int)) = true := decide_eq_true c8; clear c8; replace H := Option.bind_eq_some_iff.mp H; obtain ⟨t165, A90, H⟩ := H; replace H : (if x10_1 < (x3_1.length : Int) then (sc_rows_int64.l0 k1 l0 (x3_1.set (x10_1 : Int).toNat t165) (l0.length : Int) (wrap64 (x10_1 + 1))) else (none)) = some r := H; have A9 := Aside0.mk A90; clear A90
        by_cases c10 : x10_1 < (x3_1.length : Int)
        ·
         rw [if_pos c10] at H; have c10b0 : decide (x10_1 < (x3_1.length : Int)) = true := decide_eq_true c10; clear c10; obtain ⟨y168, hy168⟩ : ∃ y_ : List (List Int), y_ = (x3_1.set (x10_1 : Int).toNat t165) := ⟨_, rfl⟩; replace H : (sc_rows_int64.l0 k1 l0 y168 (l0.length : Int) (wrap64 (x10_1 + 1))) = some r := by first | (rw [hy168]; with_reducible exact H) | (have H2_ := (Option.bind_some _ _).symm.trans H; rw [hy168]; with_reducible exact H2_) | (have H2_ := (Option.bind_some _ _).symm.trans H; with_reducible exact H2_) | with_reducible exact H | (rw [hy168]; exact H) | exact H
         have Ny168 := Aside0.mk hy168; clear hy168; have H' := Aside0.mk H; clear H; have p164 : 0 ≤ (x10_1 : Int) := dt_; have q164 : x10_1 < (l0.length : Int) := dt_; obtain ⟨ad164, A164_0, c164_0, e164, hx164_0, hl164_0, hi164_0⟩ := at_L5 HR0.out x10_1 p164 q164; cases e164; replace hx164_0 := hx_ HB hx164_0; have HR164_0 := Aside0.mk hi164_0; have HC164_0 := Aside0.mk hl164_0; clear hi164_0 hl164_0; replace p164 := eq_true p164; replace q164 := eq_true q164
         go_wp2_with (first | ((with_reducible refine gate_callee (f := 51) rfl ?_); refine goesL_ (some 19) rfl rfl Try.func51 (by kernel_rfl) rfl #[.slice A164_0 (rd_L5 l0 x10_1).length c164_0] rfl ag_ ?_; (with_reducible refine (slices_Clone_int64_int64.calls _ _ (rd_L5 l0 x10_1) t165 _ ?side1 ?side2 A9.out).mono ?_); (case side1 => exact cb_ HR164_0); (case side2 => exact HC164_0.out); rintro e w12 ⟨v166, rfl, ho0, hb⟩; refine ⟨_, rfl, ?_⟩; replace HO_3 := Aside0.mk (Kd.S_elder' (ss_ HO_3) (Kd.R_base ho0) hb); have HO167 := Aside0.mk (Kd.R_lower ho0 (below_size bel_)); replace HB := bs_ w hb; (try clear hb); (try clear hb2); (try clear hk); (try clear hi); (try clear ho0); have p11 : 0 ≤ (x10_1 : Int) := dt_; have q11 : (x10_1 : Int) < ((x3_1.length : Int) : Int) := dt_; obtain ⟨go11, co11, eo11, gb11, gl11, cl11, HG11⟩ := Kd.S_form HO_3.out (by omega); (first | cases eo11 | (injection eo11 with ea_ en_ ec_; (first | subst ea_ | (injection ea_ with ea_; subst ea_)); subst ec_; clear en_)); have GB11 := Aside0.mk gb11; have GG11 := Aside0.mk HG11; clear gb11 gl11 HG11; obtain ⟨_, ce11, hcl11, hM11, hcc11, hfr11, _, _⟩ := Kd.S_elem HO_3.out [] (x10_1 : Int) p11 q11; obtain ⟨ve11_0, rfl, ge11_0⟩ := hM11; have hx11_0 := hcc11 0 _ rfl; have hf11_0 := hfr11 0; (try simp only [show ((Kd.slice 2 (Kd.int .i64))).sz = 1 from rfl, Nat.mul_one, Nat.add_zero] at hx11_0); (try simp only [show ((Kd.slice 2 (Kd.int .i64))).sz = 1 from rfl, Nat.mul_one, Nat.add_zero] at hf11_0); clear hcl11 hcc11 hfr11; (try clear hM11); replace p11 := eq_true p11; replace q11 := eq_true q11; obtain ⟨Ao13, co13, eo13⟩ := Kd.R_slice HO167.out; subst eo13; have n_ := Aside0.mk (Kd.S_mono (ok' := (fun k_ => some k_ ≠ (.slice Ao13 t165.length co13 : Value).ownBlock)) HO_3.out (fun k_ hk => hk.2)); clear HO_3; have HO_3 := n_; clear n_; have HX14 := Aside0.mk (show Kd.S (Kd.slice 2 (Kd.int .i64)) 26 w12 w.heap.size (fun k_ => ((fun _ => True)) k_ ∧ ¬ ((fun k_ => some k_ = (.slice Ao13 t165.length co13 : Value).ownBlock)) k_) (.slice (some ⟨go11, 0, none⟩) x3_1.length co11) x3_1 from (by (with_reducible repeat (first | apply Kd.S_alloc | apply Kd.S_drewN | apply Kd.S_drew)); exact Kd.S_mono HO_3.out (fun k_ hk => ⟨trivial, fun e_ => hk e_⟩))); obtain ⟨oki14, ce14, hcl14, hM14, hcc14, hfr14, hoki14, hH14⟩ := Kd.S_elem HX14.out [] (x10_1 : Int) (dt_) (by have h_ : (x10_1 : Int) < ((x3_1.length : Int) : Int) := dt_; first | exact h_ | (have e_ := (Kd.S_reads' HO_3.out).1; omega) | simpa using h_); obtain ⟨ve14_0, rfl, ge14_0⟩ := hM14; have HP14 := Kd.S_seg hH14 (dt_) (by have h_ : (x10_1 : Int) < ((x3_1.length : Int) : Int) := dt_; first | exact h_ | (have e_ := (Kd.S_reads' HO_3.out).1; omega) | simpa using h_) (seg := [.slice Ao13 t165.length co13]) (j := 0) (show 1 ≤ 1 from by decide) (x' := t165) (Kd.M_row (Kd.R_mono (Kd.R_tight rfl (Kd.R_mono (ok' := fun k_ => ((fun _ => True)) k_ ∧ k_ ≠ go11) (Kd.R_apart' (HO167.out) (Kd.S_typed HO_3.out) (by decide)) (fun k_ hk => ⟨trivial, fun e_ => (hk.2) (by rw [e_]; rfl)⟩))) (fun _ h_ => Or.inr (h_)))) (fun _ hk => hk) (fun k_ hk_ => ((Kd.R_mono (ok' := fun k_ => ((fun _ => True)) k_ ∧ k_ ≠ go11) (Kd.R_apart' (HO167.out) (Kd.S_typed HO_3.out) (by decide)) (fun k_ hk => ⟨trivial, fun e_ => (hk.2) (by rw [e_]; rfl)⟩))).1 k_ hk_.symm); have hx14_0 := hcc14 0 _ rfl; (try simp only [show ((Kd.slice 2 (Kd.int .i64))).sz = 1 from rfl, Nat.mul_one, Nat.add_zero] at hx14_0); have hf14_0 := hfr14 0; (try simp only [show ((Kd.slice 2 (Kd.int .i64))).sz = 1 from rfl, Nat.mul_one, Nat.add_zero] at hf14_0); clear hcl14 hcc14 hfr14 hoki14 hH14; (try clear hM14); (try simp only [show ((Kd.slice 2 (Kd.int .i64))).sz = 1 from rfl, Nat.mul_one, Nat.add_zero] at HP14)) | ((with_reducible refine gate_store (t := 26) (p := 20) rfl ?_); refine st_ (t := 26) (p := 20) (w1 := (w12.setCell ⟨go11, (x10_1 : Int).toNat, none⟩ (.slice Ao13 t165.length co13))) ?_; intro w15 hw; have hg : w12.grownBy w15 (some go11) := (by rw [hw]; exact HP14.2); have hp_ : Kd.S (Kd.slice 2 (Kd.int .i64)) 26 w15 w.heap.size (fun _ => True) (.slice (some ⟨go11, 0, none⟩) x3_1.length co11) y168 := (by rw [hw, Ny168.out]; exact HP14.1); clear HP14; have n0_ := Aside0.mk (hp_); have n1_ := Aside0.mk ((by rw [hw]; exact below_set (HB.out) GB11.out : Below w.heap.size w w15)); clear HO_3; clear HB; clear HO167; have HO_3 := n0_; have HB := n1_; clear n0_ n1_; clear hg hw hp_))
         go_roundg k1
         case measure => have := HK1.out; omega
         case rel => exact ⟨(y168), (wrap64 (x10_1 + 1)), ff_, H', ⟨by have := HK1.out; omega⟩, ⟨ss_ HO_3⟩, ⟨bel_⟩⟩
        ·
         rw [if_neg c10] at H; exact absurd H (by simp)
       ·
        rw [if_neg c8] at H; exact absurd H (by simp)
      ·
       rw [if_neg c7] at H; exact absurd H (by simp)
     ·
      rw [if_neg c6] at H; have c6b0 : decide (x10_1 < (l0.length : Int)) = false := decide_eq_false c6; clear c6; obtain rfl := Option.some.inj H; go_wp2
      go_ret
      exact ⟨_, ee_, ss_ HO_3, bel_⟩
  ·
   rw [if_neg c3] at H; exact absurd H (by simp)
 ·
  rw [if_neg c2] at H; exact absurd H (by simp)

-- NOT PRINTED: function 85 (sc_do)

-- NOT PRINTED: function 40 (sc_turn)

-- NOT PRINTED: function 108 (prog_final_1)

-- NOT PRINTED: function 84 (prog_final)

-- NOT PRINTED: function 86 (prog_First)

-- NOT PRINTED: function 42 (sc_final)

-- NOT PRINTED: function 9 (sc_Play)

/-! ### weirref09_rises: function 60 -/
def weirref09_rises.l0 : Nat → List ByteArray → Int → Option (Bool)
 | 0, _, _ => none
 | k + 1, x0, x3 => if x3 < (x0.length : Int) then (if 0 ≤ (wrap64 (x3 - 1)) then (if (wrap64 (x3 - 1)) < (x0.length : Int) then (if 0 ≤ x3 then (if ((Op.bytesLess ((rdOf ByteArray.empty x0 (wrap64 (x3 - 1))).toList) ((rdOf ByteArray.empty x0 x3).toList)) = true) then (weirref09_rises.l0 k x0 (wrap64 (x3 + 1))) else (some false)) else (none)) else (none)) else (none)) else (some true)
def weirref09_rises.f (k : Nat) (l0 : List ByteArray) : Option (Bool) := weirref09_rises.l0 k l0 1
theorem weirref09_rises.mono_l : ∀ k, (∀ y0 y1, LeO (weirref09_rises.l0 k y0 y1) (weirref09_rises.l0 (k + 1) y0 y1))
 | 0 => fun _ _ r h => by simp [weirref09_rises.l0] at h
 | k + 1 => by
  have ih0 := weirref09_rises.mono_l k
  ·
   intro y0 y1; unfold weirref09_rises.l0
   repeat' first
   | (with_reducible exact ih0 _ _)
   | (with_reducible exact LeO.refl _)
   | (with_reducible exact LeO.none _)
   | (with_reducible refine LeO.ite ?_ ?_)
   | (with_reducible refine LeO.bind ?_ (fun _ => ?_))
   | exact ih0 _ _
   | exact LeO.none _
   | refine LeO.ite ?_ ?_
   | refine LeO.bind ?_ (fun _ => ?_)
theorem weirref09_rises.mono : ∀ a0 k, LeO (weirref09_rises.f k a0) (weirref09_rises.f (k + 1) a0) := by
 intro a0 k; have ih0 := weirref09_rises.mono_l k; unfold weirref09_rises.f
 repeat' first
   | (with_reducible exact ih0 _ _)
   | (with_reducible exact LeO.refl _)
   | (with_reducible exact LeO.none _)
   | (with_reducible refine LeO.ite ?_ ?_)
   | (with_reducible refine LeO.bind ?_ (fun _ => ?_))
   | exact ih0 _ _
   | exact LeO.none _
   | refine LeO.ite ?_ ?_
   | refine LeO.bind ?_ (fun _ => ?_)
set_option maxHeartbeats 8000000 in
set_option maxRecDepth 100000 in
theorem weirref09_rises.calls (k : Nat) (A0 : Option Addr) (c0 : Nat) (l0 : List ByteArray) (r : Bool) (w : World) (hr0 : Kd.C Kd.string w A0 l0.length l0) (hc0 : l0.length ≤ c0) (h : weirref09_rises.f k l0 = some r) :
  Calls Try.prog 60 #[.slice A0 l0.length c0] w fun e w' => e = .returned (.bool r) ∧ Drawn0 w w' := by
 have HR0 := Aside0.mk hr0; have HC0 := Aside0.mk hc0; clear hr0 hc0; have H : (weirref09_rises.l0 k l0 1) = some r := h; clear h; have H' := Aside0.mk H; clear H; go_enter Try.func60, Try.ntmps60; go_wp2
 repeat (go_quiet (fail); try go_wp2)
 go_loopg [3] k (fun kq v3 w' => ∃ (x3_1 : Int), v3 = .int .i64 x3_1 ∧ Aside0 (weirref09_rises.l0 kq l0 x3_1 = some r) ∧ Aside0 (kq ≤ k) ∧ Drawn0 w w')
 case atStart => exact ⟨(1), ff_, H', ⟨Nat.le_refl _⟩, by repeat (first | exact Drawn0.refl _ | apply Drawn0.step)⟩
 case round =>
  clear H'; obtain ⟨x3_1, rfl, HA, HK1, ⟨m1, rfl⟩⟩ := hrel
  cases gk with
  | zero => exact absurd HA.out (by simp [weirref09_rises.l0])
  | succ k1 =>
   have H := HA.out; clear HA; simp only [weirref09_rises.l0] at H
   by_cases c2 : x3_1 < (l0.length : Int)
   ·
    rw [if_pos c2] at H; have c2b0 : decide (x3_1 < (l0.length : Int)) = true := decide_eq_true c2; clear c2; obtain ⟨ji3, hji3⟩ : ∃ j_ : Int, (wrap64 (x3_1 - 1)) = j_ := ⟨_, rfl⟩; replace H : (if 0 ≤ (ji3) then (if (ji3) < (l0.length : Int) then (if 0 ≤ x3_1 then (if ((Op.bytesLess ((rdOf ByteArray.empty l0 (ji3)).toList) ((rdOf ByteArray.empty l0 x3_1).toList)) = true) then (weirref09_rises.l0 k1 l0 (wrap64 (x3_1 + 1))) else (some false)) else (none)) else (none)) else (none)) = some r := by first | (rw [hji3] at H; exact H) | (simp only [hji3] at H ⊢; exact H)
    have hji3w : (IntKind.i64.wrap (x3_1 - 1)) = ji3 := (i64_w _).trans hji3
    by_cases c4 : 0 ≤ (ji3)
    ·
     rw [if_pos c4] at H; have c4b0 : decide (0 ≤ (ji3)) = true := decide_eq_true c4; clear c4
     by_cases c5 : (ji3) < (l0.length : Int)
     ·
      rw [if_pos c5] at H; have c5b0 : decide ((ji3) < (l0.length : Int)) = true := decide_eq_true c5; clear c5
      by_cases c6 : 0 ≤ x3_1
      ·
       rw [if_pos c6] at H; have c6b0 : decide (0 ≤ x3_1) = true := decide_eq_true c6; clear c6
       by_cases c7 : ((Op.bytesLess ((rdOf ByteArray.empty l0 (ji3)).toList) ((rdOf ByteArray.empty l0 x3_1).toList)) = true)
       ·
        rw [if_pos c7] at H; have c7b0 : (Op.bytesLess ((rdOf ByteArray.empty l0 (ji3)).toList) ((rdOf ByteArray.empty l0 x3_1).toList)) = true := c7; clear c7; have H' := Aside0.mk H; clear H; have p222 : 0 ≤ ((ji3) : Int) := dt_; have q222 : (ji3) < (l0.length : Int) := dt_; obtain ⟨ad222, e222, hx222_0⟩ := Kd.at_string HR0.out (ji3) p222 q222; cases e222; replace p222 := eq_true p222; replace q222 := eq_true q222; have p223 : 0 ≤ (x3_1 : Int) := dt_; have q223 : x3_1 < (l0.length : Int) := dt_; obtain ⟨ad223, e223, hx223_0⟩ := Kd.at_string HR0.out x3_1 p223 q223; obtain rfl : ad222 = ad223 := (by injection e223); replace p223 := eq_true p223; replace q223 := eq_true q223; go_wp2
        repeat (go_quiet (fail); try go_wp2)
        go_roundg k1
        case measure => have := HK1.out; omega
        case rel => exact ⟨(wrap64 (x3_1 + 1)), ff_, H', ⟨by have := HK1.out; omega⟩, by repeat (first | exact Drawn0.refl _ | apply Drawn0.step)⟩
       ·
        rw [if_neg c7] at H; have c7b0 : (Op.bytesLess ((rdOf ByteArray.empty l0 (ji3)).toList) ((rdOf ByteArray.empty l0 x3_1).toList)) = false := by simpa using c7
        clear c7; obtain rfl := Option.some.inj H; have p222 : 0 ≤ ((ji3) : Int) := dt_; have q222 : (ji3) < (l0.length : Int) := dt_; obtain ⟨ad222, e222, hx222_0⟩ := Kd.at_string HR0.out (ji3) p222 q222; cases e222; replace p222 := eq_true p222; replace q222 := eq_true q222; have p223 : 0 ≤ (x3_1 : Int) := dt_; have q223 : x3_1 < (l0.length : Int) := dt_; obtain ⟨ad223, e223, hx223_0⟩ := Kd.at_string HR0.out x3_1 p223 q223; obtain rfl : ad222 = ad223 := (by injection e223); replace p223 := eq_true p223; replace q223 := eq_true q223; go_wp2
        repeat (go_quiet (fail); try go_wp2)
        go_ret
        exact ⟨by first | rfl | (simp; done) | (simp only [← hji3] <;> (first | rfl | simp)) | (simp [*]; done), by repeat (first | exact Drawn0.refl _ | apply Drawn0.step)⟩
      ·
       rw [if_neg c6] at H; exact absurd H (by simp)
     ·
      rw [if_neg c5] at H; exact absurd H (by simp)
    ·
     rw [if_neg c4] at H; exact absurd H (by simp)
   ·
    rw [if_neg c2] at H; have c2b0 : decide (x3_1 < (l0.length : Int)) = false := decide_eq_false c2; clear c2; obtain rfl := Option.some.inj H; go_wp2
    repeat (go_quiet (fail); try go_wp2)
    go_ret
    exact ⟨ff_, by repeat (first | exact Drawn0.refl _ | apply Drawn0.step)⟩

-- EXTERN 97 weirref09_Register

end Go.Proofs.Ytemhpbdlonfikaa.P
/- The contract of the document's Register, whose table is an array of sixteen texts in memory, in the printer's form. -/
namespace Go.Proofs.Ytemhpbdlonfikaa.P
open Go.RowKit Go.Proofs.YtemhpbdlonfikaaW.PrintWords

def regNames : List ByteArray := [⟨#[69, 65, 88]⟩, ⟨#[69, 66, 88]⟩, ⟨#[69, 67, 88]⟩, ⟨#[69, 68, 88]⟩, ⟨#[69, 83, 73]⟩, ⟨#[69, 68, 73]⟩, ⟨#[69, 66, 80]⟩, ⟨#[69, 83, 80]⟩, ⟨#[82, 56]⟩, ⟨#[82, 57]⟩, ⟨#[82, 49, 48]⟩, ⟨#[82, 49, 49]⟩, ⟨#[82, 49, 50]⟩, ⟨#[82, 49, 51]⟩, ⟨#[82, 49, 52]⟩, ⟨#[82, 49, 53]⟩]
theorem regNames_length : regNames.length = 16 := rfl
/-- The name with a number. -/
def nth (k : Nat) : ByteArray := regNames.getD k ⟨#[]⟩
/-- Stands a text among the first k names? -/
def among (s : ByteArray) (k : Nat) : Bool := (regNames.take k).any fun x => x.toList == s.toList
theorem among_step (s : ByteArray) (k : Nat) (hk : k < 16) : among s (k + 1) = (among s k || (nth k).toList == s.toList) := by
  unfold among nth
  rw [List.take_succ_eq_append_getElem (by rw [regNames_length]; exact hk), List.any_append]
  simp [List.getD_eq_getElem?_getD, List.getElem?_eq_getElem (show k < regNames.length by rw [regNames_length]; exact hk)]

theorem among_all {s : ByteArray} {k : Nat} (h : among s k = true) : among s 16 = true := by
  have e : among s 16 = regNames.any fun x => x.toList == s.toList := by unfold among; rw [List.take_of_length_le (by rw [regNames_length]; omega)]
  rw [e]
  unfold among at h
  obtain ⟨x, hx, hq⟩ := List.any_eq_true.1 h
  exact List.any_eq_true.2 ⟨x, List.mem_of_mem_take hx, hq⟩
/-- Is a text one of the sixteen names? -/
def weirref09_Register.f (a0 : ByteArray) : Option Bool := some (among a0 16)

set_option maxHeartbeats 4000000 in
set_option maxRecDepth 100000 in
theorem weirref09_Register.calls (a0 : ByteArray) (r : Bool) (w : World) (h : weirref09_Register.f a0 = some r) :
    Calls Try.prog 97 #[.string a0] w fun e w' => e = .returned (.bool r) ∧ Below w.heap.size w w' := by
  obtain rfl := Option.some.inj h
  clear h
  have hua := Try.underlying177
  have hus := Try.underlying9
  go_enter Try.func97, Try.ntmps97
  go_wp2
  obtain ⟨W, hW⟩ : ∃ W, w.alloc (Obj.cells (regNames.map Value.string).toArray 177) = W := ⟨_, rfl⟩
  have hc : Aside0 (∀ k : Nat, k < 16 → W.cell? ⟨w.heap.size, k, none⟩ = some (.string (nth k))) := by
    refine ⟨fun k hk => ?_⟩
    rw [← hW, World.cell?_alloc_new]
    unfold nth
    simp [List.getD_eq_getElem?_getD, List.getElem?_eq_getElem (show k < regNames.length by rw [regNames_length]; exact hk)]
  have hB : Aside0 (Below w.heap.size w W) := ⟨by rw [← hW]; exact (Below.refl _ _).alloc (Nat.le_refl _) _⟩
  simp only [regNames, List.map_cons, List.map_nil] at hW
  rw [hW]
  clear hW
  go_loop [4] (fun i => ∃ k : Nat, k ≤ 16 ∧ i = .int .i64 k ∧ Aside0 (among a0 k = false)) (fun i => 16 - (intOf i).toNat)
  case atStart => exact ⟨0, by omega, rfl, ⟨rfl⟩⟩
  case round =>
    obtain ⟨k, hk, rfl, ha⟩ := hrel
    by_cases hlt : k < 16
    · have hck := hc.out k hlt
      have hs := among_step a0 k hlt
      rw [ha.out, Bool.false_or] at hs
      by_cases he : ((nth k).toList == a0.toList) = true
      · have hfin : Aside0 (among a0 16 = true) := ⟨among_all (hs.trans he)⟩
        clear hs
        go_wp2
        go_ret
        exact ⟨by rw [hfin.out]; rfl, hB.out⟩
      · have he' : ((nth k).toList == a0.toList) = false := by simpa using he
        have hs' := Aside0.mk (hs.trans he')
        clear hs he
        go_wp2
        go_round
        case rel => exact ⟨k + 1, by omega, by go_num, hs'⟩
        case measure => simp [intOf]; omega
    · have hge : 16 ≤ k := by omega
      have hfin : Aside0 (among a0 16 = false) := ⟨by rw [← ha.out, show k = 16 by omega]⟩
      clear ha hlt
      go_wp2
      go_ret
      exact ⟨by rw [hfin.out]; rfl, hB.out⟩
end Go.Proofs.Ytemhpbdlonfikaa.P
