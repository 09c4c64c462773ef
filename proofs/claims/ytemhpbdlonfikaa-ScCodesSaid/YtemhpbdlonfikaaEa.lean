-- Printed by xprint.py, a program of this session over the kit's printer.
import Derived.Test.YtemhpbdlonfikaaP3
import Derived.Test.YtemhpbdlonfikaaP4
import Derived.Test.YtemhpbdlonfikaaP5
import Derived.Test.YtemhpbdlonfikaaP6
import Derived.Test.YtemhpbdlonfikaaP7
import Derived.Test.YtemhpbdlonfikaaHreg
import Derived.Test.YtemhpbdlonfikaaP9
import Derived.Test.YtemhpbdlonfikaaP11
import Derived.Test.YtemhpbdlonfikaaP12
import Derived.Test.YtemhpbdlonfikaaP13
import Derived.Test.YtemhpbdlonfikaaP14
import Derived.Outline
import Derived.Test.YtemhpbdlonfikaaRegAny
namespace Go.Proofs.Ytemhpbdlonfikaa.P
open Go.RowKit Go.Proofs.YtemhpbdlonfikaaW.PrintWords Go.Proofs.YtemhpbdlonfikaaW.PrintLast Go.Proofs.YtemhpbdlonfikaaW.PrintMore
attribute [local go_sem] max2_int min2_int max_two min_two max_three min_three max_four min_four   -- for this text's walks alone

/-! ### weirref09_Copy: function 44 -/
def weirref09_Copy.l0 : Nat → List (List Int) → List (List Int) → Int → Option ((List (List Int)))
 | 0, _, _, _ => none
 | k + 1, x0, x3, x4 => if x4 < (x0.length : Int) then ((some (([] : List Int) : List Int)).bind fun y263 => (if 0 ≤ x4 then (if y263.length + (rd_L5 x0 x4).length < 17592186044416 then (if x3.length < 5864062014805 then (weirref09_Copy.l0 k x0 (x3 ++ [(y263 ++ (rd_L5 x0 x4))]) (wrap64 (x4 + 1))) else (none)) else (none)) else (none))) else (some x3)
def weirref09_Copy.f (k : Nat) (l0 : List (List Int)) : Option ((List (List Int))) := weirref09_Copy.l0 k l0 ([] : List (List Int)) 0
theorem weirref09_Copy.mono_l : ∀ k, (∀ y0 y1 y2, LeO (weirref09_Copy.l0 k y0 y1 y2) (weirref09_Copy.l0 (k + 1) y0 y1 y2))
 | 0 => fun _ _ _ r h => by simp [weirref09_Copy.l0] at h
 | k + 1 => by
  have ih0 := weirref09_Copy.mono_l k
  ·
   intro y0 y1 y2; unfold weirref09_Copy.l0
   repeat' first
   | (with_reducible exact ih0 _ _ _)
   | (with_reducible exact LeO.refl _)
   | (with_reducible exact LeO.none _)
   | (with_reducible refine LeO.ite ?_ ?_)
   | (with_reducible refine LeO.bind ?_ (fun _ => ?_))
   | exact ih0 _ _ _
   | exact LeO.none _
   | refine LeO.ite ?_ ?_
   | refine LeO.bind ?_ (fun _ => ?_)
theorem weirref09_Copy.mono : ∀ a0 k, LeO (weirref09_Copy.f k a0) (weirref09_Copy.f (k + 1) a0) := by
 intro a0 k; have ih0 := weirref09_Copy.mono_l k; unfold weirref09_Copy.f
 repeat' first
   | (with_reducible exact ih0 _ _ _)
   | (with_reducible exact LeO.refl _)
   | (with_reducible exact LeO.none _)
   | (with_reducible refine LeO.ite ?_ ?_)
   | (with_reducible refine LeO.bind ?_ (fun _ => ?_))
   | exact ih0 _ _ _
   | exact LeO.none _
   | refine LeO.ite ?_ ?_
   | refine LeO.bind ?_ (fun _ => ?_)
set_option maxHeartbeats 8000000 in
set_option maxRecDepth 100000 in
theorem weirref09_Copy.calls (k : Nat) (A0 : Option Addr) (c0 : Nat) (l0 : List (List Int)) (r : List (List Int)) (w : World) (hr0 : Kd.C (Kd.slice 2 (Kd.int .i64)) w A0 l0.length l0) (hc0 : l0.length ≤ c0) (h : weirref09_Copy.f k l0 = some r) :
  Calls Try.prog 44 #[.slice A0 l0.length c0] w fun e w' => ∃ v0_ : Value, e = .returned (v0_) ∧ Kd.S (Kd.slice 2 (Kd.int .i64)) 26 w' w.heap.size (fun _ => True) v0_ r ∧ Below w.heap.size w w' := by
 have HR0 := Aside0.mk hr0; have HC0 := Aside0.mk hc0; clear hr0 hc0; have HB := Aside0.mk (Below.refl w.heap.size w); have H : (weirref09_Copy.l0 k l0 ([] : List (List Int)) 0) = some r := h; clear h; have H' := Aside0.mk H; clear H; go_enter Try.func44, Try.ntmps44; go_wp2
 go_loopg [3, 4] k (fun kq v3 v4 w' => ∃ (x3_1 : List (List Int)) (x4_1 : Int), v4 = .int .i64 x4_1 ∧ Aside0 (weirref09_Copy.l0 kq l0 x3_1 x4_1 = some r) ∧ Aside0 (kq ≤ k) ∧ Aside0 (Kd.S (Kd.slice 2 (Kd.int .i64)) 26 w' w.heap.size (fun _ => True) v3 x3_1) ∧ Aside0 (Below w.heap.size w w'))
 case atStart => exact ⟨(([] : List (List Int))), (0), ff_, H', ⟨Nat.le_refl _⟩, ⟨by first | exact Kd.S_nil _ _ _ _ _ | exact Kd.N_nil _ _ _ _ _ | exact Kd.V_nil _ _ _ _ _ | exact Kd.Q_nil _ _ _ _ _ | exact Kd.R_nil _ _ _ _ _⟩, ⟨bel_⟩⟩
 case round =>
  clear H'; obtain ⟨x3_1, x4_1, rfl, HA, HK1, HO_3, HB⟩ := hrel
  cases gk with
  | zero => exact absurd HA.out (by simp [weirref09_Copy.l0])
  | succ k1 =>
   have H := HA.out; clear HA; simp only [weirref09_Copy.l0] at H
   by_cases c2 : x4_1 < (l0.length : Int)
   ·
    rw [if_pos c2] at H; have c2b0 : decide (x4_1 < (l0.length : Int)) = true := decide_eq_true c2; clear c2; obtain ⟨y263, hy263⟩ : ∃ y_ : List Int, y_ = (([] : List Int)) := ⟨_, rfl⟩; replace H : (if 0 ≤ x4_1 then (if y263.length + (rd_L5 l0 x4_1).length < 17592186044416 then (if x3_1.length < 5864062014805 then (weirref09_Copy.l0 k1 l0 (x3_1 ++ [(y263 ++ (rd_L5 l0 x4_1))]) (wrap64 (x4_1 + 1))) else (none)) else (none)) else (none)) = some r := by first | (rw [hy263]; with_reducible exact H) | (have H2_ := (Option.bind_some _ _).symm.trans H; rw [hy263]; with_reducible exact H2_) | (have H2_ := (Option.bind_some _ _).symm.trans H; with_reducible exact H2_) | with_reducible exact H | (rw [hy263]; exact H) | exact H
    have Ny263 := Aside0.mk hy263; clear hy263
    by_cases c3 : 0 ≤ x4_1
    ·
     rw [if_pos c3] at H; have c3b0 : decide (0 ≤ x4_1) = true := decide_eq_true c3; clear c3
     by_cases c4 : y263.length + (rd_L5 l0 x4_1).length < 17592186044416
     ·
      rw [if_pos c4] at H; have LMc4 := Aside0.mk c4; clear c4; obtain ⟨y267, hy267⟩ : ∃ y_ : List Int, y_ = (y263 ++ (rd_L5 l0 x4_1)) := ⟨_, rfl⟩; replace H : (if x3_1.length < 5864062014805 then (weirref09_Copy.l0 k1 l0 (x3_1 ++ [y267]) (wrap64 (x4_1 + 1))) else (none)) = some r := by first | (rw [hy267]; with_reducible exact H) | (have H2_ := (Option.bind_some _ _).symm.trans H; rw [hy267]; with_reducible exact H2_) | (have H2_ := (Option.bind_some _ _).symm.trans H; with_reducible exact H2_) | with_reducible exact H | (rw [hy267]; exact H) | exact H
      have Ny267 := Aside0.mk hy267; clear hy267
      by_cases c5 : x3_1.length < 5864062014805
      ·
       rw [if_pos c5] at H; have LMc5 := Aside0.mk c5; clear c5; obtain ⟨y270, hy270⟩ : ∃ y_ : List (List Int), y_ = (x3_1 ++ [y267]) := ⟨_, rfl⟩; replace H : (weirref09_Copy.l0 k1 l0 y270 (wrap64 (x4_1 + 1))) = some r := by first | (rw [hy270]; with_reducible exact H) | (have H2_ := (Option.bind_some _ _).symm.trans H; rw [hy270]; with_reducible exact H2_) | (have H2_ := (Option.bind_some _ _).symm.trans H; with_reducible exact H2_) | with_reducible exact H | (rw [hy270]; exact H) | exact H
       have Ny270 := Aside0.mk hy270; clear hy270; have H' := Aside0.mk H; clear H
       go_wp2_with (first | ((with_reducible refine gate_dst (N := 12) rfl ?_); refine Kd.R_lit (Kd.int .i64) _ 2 ?hg (N := 12) ?hd (xs := ([] : List Int)) (inner := []) (ok := fun _ => True) (okp := fun _ => True) ?hr ?hp (fun _ hk => hk) trivial (Below.refl _ _) (Nat.le_refl _) (by simp) ?_; (case hd => rfl); (case hg => rfl); (case hr => first | (go_simp; done) | (go_simp; rfl)); (case hp => exact (Reps.none _ _)); intro v264 w6 ho7 hb hg_ hnew_; clear hg_ hnew_; (first | rw [← Ny263.out] at ho7 | (simp only [Int.reduceToNat] at ho7; rw [← Ny263.out] at ho7)); replace HO_3 := Aside0.mk (Kd.S_elder' (ss_ HO_3) (Kd.R_base ho7) hb); have HO265 := Aside0.mk (Kd.R_lower ho7 (below_size bel_)); replace HB := bs_ w hb; clear hb ho7; have p266 : 0 ≤ (x4_1 : Int) := dt_; have q266 : x4_1 < (l0.length : Int) := dt_; obtain ⟨ad266, A266_0, c266_0, e266, hx266_0, hl266_0, hi266_0⟩ := at_L5 HR0.out x4_1 p266 q266; cases e266; replace hx266_0 := hx_ HB hx266_0; have HR266_0 := Aside0.mk hi266_0; have HC266_0 := Aside0.mk hl266_0; clear hi266_0 hl266_0; replace p266 := eq_true p266; replace q266 := eq_true q266) | ((with_reducible refine gate_builtin (b := .append) (xs := #[.tmp 12, .tmp 16]) rfl ?_); at_builtin; refine Kd.R_append_rows (Kd.int .i64) (w0 := w) w.heap.size rfl (.tmp 12) (.tmp 16) 26 2 (.int .i64 0) 8 rfl Try.underlying26 info2 rfl (by decide) (by omega) v264 y263 (rd_L5 l0 x4_1) _ _ _ (fun _ => True) (fun _ => False) rfl rfl ?aO ?aR (fun _ _ h => h) (fun _ h => h.elim) ?aF ?aB ?aS ?aL ?_; (case aR => exact cb_ HR266_0); (case aB => exact bel_); (case aF => exact (fun _ _ => trivial)); (case aO => exact (rs_ HO265)); (case aS => exact (below_size bel_)); (case aL => have := LMc4.out; omega); intro v268 w8 ho hb hg hat; rw [← Ny267.out] at ho; have n0_ := Aside0.mk (Kd.S_after (ok := (fun _ => True)) (ss_ HO_3) hg hat); have n1_ := Aside0.mk (hb); have n2_ := Aside0.mk (ho); clear HO_3; clear HB; clear HO265; have HO_3 := n0_; have HB := n1_; have HO269 := n2_; clear n0_ n1_ n2_; clear ho hb hg hat; obtain ⟨Ao10, co10, eo10⟩ := Kd.R_slice HO269.out; subst eo10) | ((with_reducible refine gate_builtin (b := .append) (xs := #[.tmp 11, .tmp 18]) rfl ?_); at_builtin; refine Kd.S_append (Kd.slice 2 (Kd.int .i64)) (w0 := w) w.heap.size rfl (.tmp 11) (.tmp 18) 25 26 (.slice none 0 0) 24 rfl Try.underlying25 info26 rfl (by decide) (by omega) u3 x3_1 y267 [.slice Ao10 y267.length co10] (fun _ => True) (fun k_ => some k_ = (.slice Ao10 y267.length co10 : Value).ownBlock) rfl rfl ?aP (fun k_ hk_ => ((Kd.R_mono (ok' := fun k_ => ((fun _ => True)) k_ ∧ some k_ ≠ (u3 : Value).ownBlock) (Kd.R_apart' (HO269.out) (Kd.S_typed HO_3.out) (by decide)) (fun k_ hk => ⟨trivial, hk.2⟩))).1 k_ hk_.symm) ?aF ?aO ?aB ?aS ?aL ?_; (case aP => exact Kd.M_row (Kd.R_mono (Kd.R_tight rfl (Kd.R_mono (ok' := fun k_ => ((fun _ => True)) k_ ∧ some k_ ≠ (u3 : Value).ownBlock) (Kd.R_apart' (HO269.out) (Kd.S_typed HO_3.out) (by decide)) (fun k_ hk => ⟨trivial, hk.2⟩))) (fun _ h_ => h_))); (case aB => exact bel_); (case aF => exact (fun _ _ => trivial)); (case aO => exact (by (with_reducible repeat (first | apply Kd.S_alloc | apply Kd.S_drewN | apply Kd.S_drew)); exact Kd.S_mono HO_3.out (fun k_ hk => ⟨trivial, fun e_ => hk.2 e_⟩))); (case aS => exact (below_size bel_)); (case aL => have := LMc5.out; omega); intro v271 w9 ho hb hg hat; rw [← Ny270.out] at ho; have n0_ := Aside0.mk (hb); have n1_ := Aside0.mk (ho); clear HB; clear HO_3; clear HO269; have HB := n0_; have HO272 := n1_; clear n0_ n1_; clear ho hb hg hat))
       go_roundg k1
       case measure => have := HK1.out; omega
       case rel => exact ⟨(y270), (wrap64 (x4_1 + 1)), ff_, H', ⟨by have := HK1.out; omega⟩, ⟨ss_ HO272⟩, ⟨bel_⟩⟩
      ·
       rw [if_neg c5] at H; exact absurd H (by simp)
     ·
      rw [if_neg c4] at H; exact absurd H (by simp)
    ·
     rw [if_neg c3] at H; exact absurd H (by simp)
   ·
    rw [if_neg c2] at H; have c2b0 : decide (x4_1 < (l0.length : Int)) = false := decide_eq_false c2; clear c2; obtain rfl := Option.some.inj H; go_wp2
    go_ret
    exact ⟨_, ee_, ss_ HO_3, bel_⟩

-- NOT PRINTED: function 30 (weirref09_End)

end Go.Proofs.Ytemhpbdlonfikaa.P
/- What a function holds: rows and blocks of its own, all apart; what lies below is as it was. -/

namespace Go.Proofs.Ytemhpbdlonfikaa.P
open Go Go.RowKit Go.Proofs.YtemhpbdlonfikaaW.PrintWords Go.Proofs.YtemhpbdlonfikaaW.PrintLast Go.Proofs.YtemhpbdlonfikaaW.PrintMore

/-- A row of one's own: its elements' type, their cells, its value, its length, its cells. -/
structure Rw where
  e : TypeId
  sz : Nat
  v : Value
  n : Nat
  xs : List Value
variable {w W : World} {rows : List Rw} {cells : List (Nat × TypeId × Array Value)}

end Go.Proofs.Ytemhpbdlonfikaa.P
/- sc.do: an instruction is done at once, on two rows that the caller owns. -/
namespace Go.Proofs.Ytemhpbdlonfikaa.P
open Go Go.RowKit Go.Proofs.YtemhpbdlonfikaaW.PrintWords Go.Proofs.YtemhpbdlonfikaaW.PrintLast Go.Proofs.YtemhpbdlonfikaaW.PrintMore

/-- An instruction's numbers lie within. -/
def OpOK (o : S87) (nr nl : Nat) : Prop :=
  ((o.f0 = 1 ∨ o.f0 = 2 ∨ o.f0 = 3 ∨ o.f0 = 7 ∨ o.f0 = 8 ∨ o.f0 = 9) → 0 ≤ o.f1 ∧ o.f1 < nr) ∧ ((o.f0 = 2 ∨ o.f0 = 5 ∨ o.f0 = 8) → 0 ≤ o.f2 ∧ o.f2 < nr) ∧
  ((o.f0 = 3 ∨ o.f0 = 4 ∨ o.f0 = 5 ∨ o.f0 = 7 ∨ o.f0 = 8 ∨ o.f0 = 9) → 0 ≤ o.f3 ∧ o.f3 < nl)


end Go.Proofs.Ytemhpbdlonfikaa.P
/- Programs and states, each told by one fact; a state that the call owns. -/
namespace Go.Proofs.Ytemhpbdlonfikaa.P
open Go Go.RowKit Go.Proofs.YtemhpbdlonfikaaW.PrintWords Go.Proofs.YtemhpbdlonfikaaW.PrintLast Go.Proofs.YtemhpbdlonfikaaW.PrintMore

/-- A program, told by its lists. -/
structure Pg where
  th : List (List S87)
  rg : List (List ByteArray)
  lo : List ByteArray
  r0 : List (List Int)
  m0 : List Int
/-- A state, told by its lists. -/
structure St where
  p : List Int
  q : List Int
  rg : List (List Int)
  me : List Int
  bf : List (List S59)
  lk : Int
/-- A program's five cells. -/
def PgV (W : World) (vs : List Value) (s : Pg) : Prop :=
  ∃ (A0 A1 A2 A3 A4 : Option Addr) (c0 c1 c2 c3 c4 : Nat), vs = [.slice A0 s.th.length c0, .slice A1 s.rg.length c1, .slice A2 s.lo.length c2, .slice A3 s.r0.length c3, .slice A4 s.m0.length c4] ∧
    Kd.C (Kd.slice 87 k87) W A0 s.th.length s.th ∧ s.th.length ≤ c0 ∧ Kd.C (Kd.slice 9 Kd.string) W A1 s.rg.length s.rg ∧ s.rg.length ≤ c1 ∧ Kd.C Kd.string W A2 s.lo.length s.lo ∧ s.lo.length ≤ c2 ∧
    Kd.C (Kd.slice 2 (Kd.int .i64)) W A3 s.r0.length s.r0 ∧ s.r0.length ≤ c3 ∧ Kd.C (Kd.int .i64) W A4 s.m0.length s.m0 ∧ s.m0.length ≤ c4
theorem PgV.below {W W1 : World} {vs : List Value} {s : Pg} (h : PgV W vs s) (hb : Below W.heap.size W W1) : PgV W1 vs s := by
  obtain ⟨A0, A1, A2, A3, A4, c0, c1, c2, c3, c4, rfl, h0, l0, h1, l1, h2, l2, h3, l3, h4, l4⟩ := h
  exact ⟨A0, A1, A2, A3, A4, c0, c1, c2, c3, c4, rfl, Kd.C_below h0 hb, l0, Kd.C_below h1 hb, l1, Kd.C_below h2 hb, l2, Kd.C_below h3 hb, l3, Kd.C_below h4 hb, l4⟩
/-- A state's six cells. -/
def StV (W : World) (vs : List Value) (s : St) : Prop :=
  ∃ (A0 A1 A2 A3 A4 : Option Addr) (c0 c1 c2 c3 c4 : Nat), vs = [.slice A0 s.p.length c0, .slice A1 s.q.length c1, .slice A2 s.rg.length c2, .slice A3 s.me.length c3, .slice A4 s.bf.length c4, .int .i64 s.lk] ∧
    Kd.C (Kd.int .i64) W A0 s.p.length s.p ∧ s.p.length ≤ c0 ∧ Kd.C (Kd.int .i64) W A1 s.q.length s.q ∧ s.q.length ≤ c1 ∧ Kd.C (Kd.slice 2 (Kd.int .i64)) W A2 s.rg.length s.rg ∧ s.rg.length ≤ c2 ∧
    Kd.C (Kd.int .i64) W A3 s.me.length s.me ∧ s.me.length ≤ c3 ∧ Kd.C (Kd.slice 59 k59) W A4 s.bf.length s.bf ∧ s.bf.length ≤ c4
theorem StV.below {W W1 : World} {vs : List Value} {s : St} (h : StV W vs s) (hb : Below W.heap.size W W1) : StV W1 vs s := by
  obtain ⟨A0, A1, A2, A3, A4, c0, c1, c2, c3, c4, rfl, h0, l0, h1, l1, h2, l2, h3, l3, h4, l4⟩ := h
  exact ⟨A0, A1, A2, A3, A4, c0, c1, c2, c3, c4, rfl, Kd.C_below h0 hb, l0, Kd.C_below h1 hb, l1, Kd.C_below h2 hb, l2, Kd.C_below h3 hb, l3, Kd.C_below h4 hb, l4⟩

end Go.Proofs.Ytemhpbdlonfikaa.P
/- Lists, programs and states that are the same: the laws' comparisons answer true. -/
namespace Go.Proofs.Ytemhpbdlonfikaa.P
open Go Go.RowKit Go.Proofs.YtemhpbdlonfikaaW.PrintWords Go.Proofs.YtemhpbdlonfikaaW.PrintLast Go.Proofs.YtemhpbdlonfikaaW.PrintMore
theorem wrapN {k n : Nat} (h : k < n) (hn : n ≤ 9223372036854775807) : wrap64 ((k : Int) + 1) = (k : Int) + 1 := by unfold wrap64; omega
theorem nat_dec {n j : Nat} (h : j < n) : n - (intOf (.int .i64 ((j : Int) + 1))).toNat < n - (intOf (.int .i64 (j : Int))).toNat := by
  show n - ((j : Int) + 1).toNat < n - ((j : Int)).toNat
  omega
theorem belW {W V V' : World} (h1 : Below W.heap.size W V) (h2 : Below V.heap.size V V') : Below W.heap.size W V' := below_then h1 h1.size h2
set_option maxHeartbeats 4000000 in
theorem si_c {w : World} {A B : Option Addr} {c d : Nat} {l : List Int} (ha : Kd.C (Kd.int .i64) w A l.length l) (hb : Kd.C (Kd.int .i64) w B l.length l) :
    Calls Try.prog 11 #[.slice A l.length c, .slice B l.length d] w fun e W' => e = .returned (.bool true) ∧ Below w.heap.size w W' := by
  have HA := Aside0.mk ha
  have HB := Aside0.mk hb
  have HM := Aside0.mk (Kd.C_max ha)
  clear ha hb
  go_enter Try.func11, Try.ntmps11
  go_wp2
  go_loopw [5] (fun v W => ∃ j : Nat, v = .int .i64 j ∧ j ≤ l.length ∧ Aside0 (Below w.heap.size w W)) (fun v _ => l.length - (intOf v).toNat)
  case atStart => exact ⟨0, rfl, Nat.zero_le _, ⟨Below.refl _ _⟩⟩
  case round =>
    obtain ⟨j, rfl, hj, HW⟩ := hrel
    by_cases hlt : j < l.length
    · obtain ⟨a, rfl, hxa⟩ := Kd.at_int HA.out (j : Int) (Int.natCast_nonneg j) (Int.ofNat_lt.2 hlt)
      obtain ⟨b, rfl, hxb⟩ := Kd.at_int HB.out (j : Int) (Int.natCast_nonneg j) (Int.ofNat_lt.2 hlt)
      rw [Int.toNat_natCast] at hxa hxb
      replace hxa := pw_cell_below HW.out hxa
      replace hxb := pw_cell_below HW.out hxb
      have hw := wrapN hlt HM.out
      have HJ := Aside0.mk hlt
      go_wp2_with fail
      go_region_held3 (fun W : World => W.cell? (a.add j) = some (.int .i64 (rd l (j : Int))) ∧ W.cell? (b.add j) = some (.int .i64 (rd l (j : Int)))) (exact ⟨hxa, hxb⟩) (fail)
      all_goals go_wp2_with fail
      all_goals go_roundw
      case rel => exact ⟨j + 1, by rw [hw]; rfl, HJ.out, ⟨below_drew HW.out⟩⟩
      case measure => rw [hw]; exact nat_dec HJ.out
    · go_wp2_with fail
      go_ret
      exact ⟨rfl, HW.out⟩
set_option maxHeartbeats 4000000 in
theorem sv_c {w : World} {A B : Option Addr} {c d : Nat} {l : List Int} (ha : Kd.C (Kd.int .i64) w A l.length l) (hb : Kd.C (Kd.int .i64) w B l.length l) :
    Calls Try.prog 52 #[.slice A l.length c, .slice B l.length d] w fun e W' => e = .returned (.bool true) ∧ Below w.heap.size w W' := by
  have HA := Aside0.mk ha
  have HB := Aside0.mk hb
  have HM := Aside0.mk (Kd.C_max ha)
  clear ha hb
  go_enter Try.func52, Try.ntmps52
  go_wp2
  go_loopw [5] (fun v W => ∃ j : Nat, v = .int .i64 j ∧ j ≤ l.length ∧ Aside0 (Below w.heap.size w W)) (fun v _ => l.length - (intOf v).toNat)
  case atStart => exact ⟨0, rfl, Nat.zero_le _, ⟨Below.refl _ _⟩⟩
  case round =>
    obtain ⟨j, rfl, hj, HW⟩ := hrel
    by_cases hlt : j < l.length
    · obtain ⟨a, rfl, hxa⟩ := Kd.at_int HA.out (j : Int) (Int.natCast_nonneg j) (Int.ofNat_lt.2 hlt)
      obtain ⟨b, rfl, hxb⟩ := Kd.at_int HB.out (j : Int) (Int.natCast_nonneg j) (Int.ofNat_lt.2 hlt)
      rw [Int.toNat_natCast] at hxa hxb
      replace hxa := pw_cell_below HW.out hxa
      replace hxb := pw_cell_below HW.out hxb
      have hw := wrapN hlt HM.out
      have HJ := Aside0.mk hlt
      go_wp2_with fail
      go_region_held3 (fun W : World => W.cell? (a.add j) = some (.int .i64 (rd l (j : Int))) ∧ W.cell? (b.add j) = some (.int .i64 (rd l (j : Int)))) (exact ⟨hxa, hxb⟩) (fail)
      all_goals go_wp2_with fail
      all_goals go_roundw
      case rel => exact ⟨j + 1, by rw [hw]; rfl, HJ.out, ⟨below_drew HW.out⟩⟩
      case measure => rw [hw]; exact nat_dec HJ.out
    · go_wp2_with fail
      go_ret
      exact ⟨rfl, HW.out⟩
set_option maxHeartbeats 4000000 in
theorem sw_c {w : World} {A B : Option Addr} {c d : Nat} {l : List Int} (ha : Kd.C (Kd.int .i64) w A l.length l) (hb : Kd.C (Kd.int .i64) w B l.length l) :
    Calls Try.prog 54 #[.slice A l.length c, .slice B l.length d] w fun e W' => e = .returned (.bool true) ∧ Below w.heap.size w W' := by
  have HA := Aside0.mk ha
  have HB := Aside0.mk hb
  have HM := Aside0.mk (Kd.C_max ha)
  clear ha hb
  go_enter Try.func54, Try.ntmps54
  go_wp2
  go_loopw [5] (fun v W => ∃ j : Nat, v = .int .i64 j ∧ j ≤ l.length ∧ Aside0 (Below w.heap.size w W)) (fun v _ => l.length - (intOf v).toNat)
  case atStart => exact ⟨0, rfl, Nat.zero_le _, ⟨Below.refl _ _⟩⟩
  case round =>
    obtain ⟨j, rfl, hj, HW⟩ := hrel
    by_cases hlt : j < l.length
    · obtain ⟨a, rfl, hxa⟩ := Kd.at_int HA.out (j : Int) (Int.natCast_nonneg j) (Int.ofNat_lt.2 hlt)
      obtain ⟨b, rfl, hxb⟩ := Kd.at_int HB.out (j : Int) (Int.natCast_nonneg j) (Int.ofNat_lt.2 hlt)
      rw [Int.toNat_natCast] at hxa hxb
      replace hxa := pw_cell_below HW.out hxa
      replace hxb := pw_cell_below HW.out hxb
      have hw := wrapN hlt HM.out
      have HJ := Aside0.mk hlt
      go_wp2_with fail
      go_region_held3 (fun W : World => W.cell? (a.add j) = some (.int .i64 (rd l (j : Int))) ∧ W.cell? (b.add j) = some (.int .i64 (rd l (j : Int)))) (exact ⟨hxa, hxb⟩) (fail)
      all_goals go_wp2_with fail
      all_goals go_roundw
      case rel => exact ⟨j + 1, by rw [hw]; rfl, HJ.out, ⟨below_drew HW.out⟩⟩
      case measure => rw [hw]; exact nat_dec HJ.out
    · go_wp2_with fail
      go_ret
      exact ⟨rfl, HW.out⟩
set_option maxHeartbeats 4000000 in
theorem sx_c {w : World} {A B : Option Addr} {c d : Nat} {l : List ByteArray} (ha : Kd.C Kd.string w A l.length l) (hb : Kd.C Kd.string w B l.length l) :
    Calls Try.prog 53 #[.slice A l.length c, .slice B l.length d] w fun e W' => e = .returned (.bool true) ∧ Below w.heap.size w W' := by
  have HA := Aside0.mk ha
  have HB := Aside0.mk hb
  have HM := Aside0.mk (Kd.C_max ha)
  clear ha hb
  go_enter Try.func53, Try.ntmps53
  go_wp2
  go_loopw [5] (fun v W => ∃ j : Nat, v = .int .i64 j ∧ j ≤ l.length ∧ Aside0 (Below w.heap.size w W)) (fun v _ => l.length - (intOf v).toNat)
  case atStart => exact ⟨0, rfl, Nat.zero_le _, ⟨Below.refl _ _⟩⟩
  case round =>
    obtain ⟨j, rfl, hj, HW⟩ := hrel
    by_cases hlt : j < l.length
    · obtain ⟨a, rfl, hxa⟩ := Kd.at_string HA.out (j : Int) (Int.natCast_nonneg j) (Int.ofNat_lt.2 hlt)
      obtain ⟨b, rfl, hxb⟩ := Kd.at_string HB.out (j : Int) (Int.natCast_nonneg j) (Int.ofNat_lt.2 hlt)
      rw [Int.toNat_natCast] at hxa hxb
      replace hxa := pw_cell_below HW.out hxa
      replace hxb := pw_cell_below HW.out hxb
      have hw := wrapN hlt HM.out
      have HJ := Aside0.mk hlt
      go_wp2_with fail
      go_region_held3 (fun W : World => W.cell? (a.add j) = some (.string (rdOf ByteArray.empty l (j : Int))) ∧ W.cell? (b.add j) = some (.string (rdOf ByteArray.empty l (j : Int)))) (exact ⟨hxa, hxb⟩) (fail)
      all_goals go_wp2_with fail
      all_goals go_roundw
      case rel => exact ⟨j + 1, by rw [hw]; rfl, HJ.out, ⟨below_drew HW.out⟩⟩
      case measure => rw [hw]; exact nat_dec HJ.out
    · go_wp2_with fail
      go_ret
      exact ⟨rfl, HW.out⟩
end Go.Proofs.Ytemhpbdlonfikaa.P
/- What a function holds, part by part: each block it has made bears the number of the part it belongs to (its colour), so that parts are apart and each is written by itself. -/
namespace Go.Proofs.Ytemhpbdlonfikaa.P
open Go Go.RowKit Go.Proofs.YtemhpbdlonfikaaW.PrintWords Go.Proofs.YtemhpbdlonfikaaW.PrintLast Go.Proofs.YtemhpbdlonfikaaW.PrintMore

/-- A part: a row of elements, a row of rows, a block of cells, nothing. -/
inductive Part : Type 1
  | row {α : Type} (d : Kd α) (e : Nat) (v : Value) (xs : List α)
  | rows {α : Type} (d : Kd α) (e : Nat) (v : Value) (xs : List (List α)) (e1 : Nat)
  | box (g : Nat) (t : TypeId) (cs : Array Value)
  | none
/-- What is known of a part whose blocks are ok. -/
def Part.sem (B : Nat) : Part → (Nat → Prop) → World → Prop
  | .row d e v xs, ok, W => d.R e W B ok v xs
  | .rows d e v xs e1, ok, W => Kd.S (Kd.slice e1 d) e W B ok v xs
  | .box g t cs, ok, W => ok g ∧ B ≤ g ∧ W.heap[g]? = some (.cells cs t (0, 0))
  | .none, _, _ => True
theorem Part.sem.move {B : Nat} {p : Part} {ok ok' : Nat → Prop} {W W1 : World} (h : p.sem B ok W) (hm : ∀ k, ok k → k < W.heap.size → W1.heap[k]? = W.heap[k]? ∧ ok' k) : p.sem B ok' W1 := by
  cases p with
  | row d e v xs => exact R_mv h hm
  | rows d e v xs e1 => exact S_mv h hm
  | box g t cs => exact ⟨(hm g h.1 (blk_lt h.2.2)).2, h.2.1, (hm g h.1 (blk_lt h.2.2)).1.trans h.2.2⟩
  | none => trivial
theorem Part.sem.low {B B' : Nat} {p : Part} {ok : Nat → Prop} {W : World} (h : p.sem B ok W) (hb : B' ≤ B) : p.sem B' ok W := by
  cases p with
  | row d e v xs => exact Kd.R_lower h hb
  | rows d e v xs e1 => exact Kd.S_lower h hb
  | box g t cs => exact ⟨h.1, Nat.le_trans hb h.2.1, h.2.2⟩
  | none => trivial
theorem Part.sem.wide {B : Nat} {p : Part} {ok ok' : Nat → Prop} {W : World} (h : p.sem B ok W) (hm : ∀ k, ok k → ok' k) : p.sem B ok' W := h.move (fun k hk _ => ⟨rfl, hm k hk⟩)
/-- All parts, by a colouring. -/
def Cols (w : World) (ps : List Part) (col : Nat → Nat) (W : World) : Prop := Below w.heap.size w W ∧ ∀ (j : Nat) (p : Part), ps[j]? = some p → p.sem w.heap.size (fun k => col k = j) W
def Owned (w : World) (ps : List Part) (W : World) : Prop := ∃ col, Cols w ps col W
section
variable {w W W' : World} {ps : List Part} {col : Nat → Nat}
theorem Owned.nil (w : World) : Owned w [] w := ⟨fun _ => 0, Below.refl _ _, by simp⟩
theorem Owned.below (h : Owned w ps W) : Below w.heap.size w W := by obtain ⟨_, h, _⟩ := h; exact h
theorem Owned.get (h : Owned w ps W) {j : Nat} {p : Part} (hj : ps[j]? = some p) : p.sem w.heap.size (fun _ => True) W := by obtain ⟨_, _, h⟩ := h; exact (h j p hj).wide (fun _ _ => trivial)
theorem Owned.later (h : Owned w ps W) (hb : Below W.heap.size W W') : Owned w ps W' := by
  obtain ⟨col, h1, h2⟩ := h
  exact ⟨col, below_then h1 h1.size hb, fun j p hj => (h2 j p hj).move (fun k hk hlt => ⟨hb.block k hlt, hk⟩)⟩
theorem Owned.drew (h : Owned w ps W) : Owned w ps W.drew := h.later ⟨rfl, rfl, rfl, Nat.le_refl _, fun _ _ => rfl⟩
theorem Owned.drewN (h : Owned w ps W) (m : Nat) : Owned w ps (W.drewN m) := h.later ⟨rfl, rfl, rfl, Nat.le_refl _, fun _ _ => rfl⟩
/-- One part is written (it may take new blocks). -/
theorem Cols.upd (h : Cols w ps col W) {j : Nat} {p' : Part} (hj : j < ps.length) (new : p'.sem w.heap.size (fun k => col k = j ∨ W.heap.size ≤ k) W') (chg : ∀ k, k < W.heap.size → col k ≠ j → W'.heap[k]? = W.heap[k]?) (hb : Below w.heap.size w W') : Owned w (ps.set j p') W' := by
  refine ⟨fun k => if k < W.heap.size then col k else j, hb, fun i p hp => ?_⟩
  rw [List.getElem?_set] at hp
  split at hp
  · rename_i hij
    subst hij
    cases hp
    refine new.wide (fun k hk => ?_)
    rcases hk with hk | hk
    · by_cases hlt : k < W.heap.size
      · simp only [if_pos hlt]; exact hk
      · simp only [if_neg hlt]
    · simp only [if_neg (Nat.not_lt.2 hk)]
  · rename_i hij
    exact (h.2 i p hp).move (fun k hk hlt => ⟨chg k hlt (fun e => hij (e.symm.trans hk)), by simp only [if_pos hlt]; exact hk⟩)
/-- A part whose block or row grew. -/
theorem Cols.grown (h : Cols w ps col W) {j : Nat} {p' : Part} (hj : j < ps.length) {row : Option Nat} (hg : W.grownBy W' row) (hr : ∀ k, row = some k → col k = j) (hw : ∀ k, row = some k → w.heap.size ≤ k)
    (new : p'.sem w.heap.size (fun k => col k = j ∨ W.heap.size ≤ k) W') : Owned w (ps.set j p') W' :=
  h.upd hj new (fun k hlt hk => hg.block k hlt (fun e => hk (hr k e.symm))) (h.1.grown hg h.1.size hw)
/-- A new part. -/
theorem Owned.fresh (h : Owned w ps W) {p' : Part} (hb : Below W.heap.size W W') (new : p'.sem w.heap.size (fun k => W.heap.size ≤ k) W') : Owned w (ps ++ [p']) W' := by
  obtain ⟨col, h1, h2⟩ := h
  refine ⟨fun k => if k < W.heap.size then col k else ps.length, below_then h1 h1.size hb, fun i p hp => ?_⟩
  by_cases hi : i < ps.length
  · rw [List.getElem?_append_left hi] at hp
    exact (h2 i p hp).move (fun k hk hlt => ⟨hb.block k hlt, by simp only [if_pos hlt]; exact hk⟩)
  · rw [List.getElem?_append_right (Nat.le_of_not_lt hi)] at hp
    have hi2 : i = ps.length := by
      have := (List.getElem?_eq_some_iff.1 hp).1
      simp only [List.length_singleton] at this
      omega
    subst hi2
    rw [Nat.sub_self] at hp
    cases hp
    exact new.wide (fun k hk => by simp only [if_neg (Nat.not_lt.2 hk)])
/-- A block of one's own, made. -/
theorem Owned.box (h : Owned w ps W) (t : TypeId) (cs : Array Value) : Owned w (ps ++ [.box W.heap.size t cs]) (W.alloc (.cells cs t (0, 0))) :=
  h.fresh (below_alloc (Below.refl _ _) _) ⟨Nat.le_refl _, h.below.size, heap_alloc_new W _⟩
/-- One cell of a block is stored. -/
theorem Owned.cell (h : Owned w ps W) {j g : Nat} {t : TypeId} {cs : Array Value} (hj : ps[j]? = some (.box g t cs)) (i : Nat) (u : Value) : Owned w (ps.set j (.box g t (cs.setIfInBounds i u))) (W.setCell ⟨g, i, none⟩ u) := by
  obtain ⟨col, h1⟩ := h
  obtain ⟨c, l, b⟩ := h1.2 j _ hj
  have hg : W.grownBy (W.setCell ⟨g, i, none⟩ u) (some g) := ⟨rfl, rfl, rfl, by unfold World.setCell; simp, fun k hk hne => by
    unfold World.setCell
    simp only [Array.getElem?_modify]
    rw [if_neg (fun e => hne (by rw [← e]))]⟩
  exact h1.grown (List.getElem?_eq_some_iff.1 hj).1 hg (fun k e => by cases e; exact c) (fun k e => by cases e; exact l) ⟨.inl c, l, blk_set b i u⟩
theorem Owned.blk (h : Owned w ps W) {j g : Nat} {t : TypeId} {cs : Array Value} (hj : ps[j]? = some (.box g t cs)) : W.heap[g]? = some (.cells cs t (0, 0)) := (h.get hj).2.2
/-- A block is written anew by a call that keeps all else. -/
theorem Owned.call (h : Owned w ps W) {j g : Nat} {t : TypeId} {cs cs' : Array Value} (hj : ps[j]? = some (.box g t cs)) (hk : KeepBut W W' g none) (hb : Below w.heap.size w W') (new : W'.heap[g]? = some (.cells cs' t (0, 0))) : Owned w (ps.set j (.box g t cs')) W' := by
  obtain ⟨col, h1⟩ := h
  obtain ⟨c, l, _⟩ := h1.2 j _ hj
  exact h1.upd (List.getElem?_eq_some_iff.1 hj).1 ⟨.inl c, l, new⟩ (fun k hlt hne => hk.2 k hlt (fun e => hne (by rw [e]; exact c)) (by simp)) hb
/-- A number of a row of one's own is stored. -/
theorem Owned.num (h : Owned w ps W) {j e g c : Nat} {xs : List Int} {n : Nat} (hj : ps[j]? = some (.row (Kd.int .i64) e (.slice (some ⟨g, 0, none⟩) n c) xs)) (i : Nat) (x : Int) : Owned w (ps.set j (.row (Kd.int .i64) e (.slice (some ⟨g, 0, none⟩) n c) (xs.set i x))) (W.setCell ⟨g, i, none⟩ (.int .i64 x)) := by
  obtain ⟨col, h1⟩ := h
  have hr : (Kd.int .i64).R e W w.heap.size (fun k => col k = j) (.slice (some ⟨g, 0, none⟩) n c) xs := h1.2 j _ hj
  have h2 := Kd.R_putn (enc := Value.int .i64) hr (i : Int) x
  rw [Int.toNat_natCast] at h2
  have hg : W.grownBy (W.setCell ⟨g, i, none⟩ (.int .i64 x)) (some g) := ⟨rfl, rfl, rfl, by unfold World.setCell; simp, fun k hk hne => by
    unfold World.setCell
    simp only [Array.getElem?_modify]
    rw [if_neg (fun e => hne (by rw [← e]))]⟩
  exact h1.grown (List.getElem?_eq_some_iff.1 hj).1 hg (fun k e => by cases e; exact hr.1 g rfl) (fun k e => by cases e; exact Kd.R_base hr g rfl) (Kd.R_mono h2 (fun _ hk => .inl hk))
/-- A part is given up. -/
theorem Owned.drop (h : Owned w ps W) (j : Nat) : Owned w (ps.set j .none) W := by
  obtain ⟨col, h1, h2⟩ := h
  refine ⟨col, h1, fun i p hp => ?_⟩
  rw [List.getElem?_set] at hp
  split at hp
  · split at hp
    · cases hp; trivial
    · cases hp
  · exact h2 i p hp
theorem Owned.cut (h : Owned w ps W) (n : Nat) : Owned w (ps.take n) W := by
  obtain ⟨col, h1, h2⟩ := h
  refine ⟨col, h1, fun i p hp => h2 i p ?_⟩
  rw [List.getElem?_take] at hp
  split at hp
  · exact hp
  · cases hp
end
end Go.Proofs.Ytemhpbdlonfikaa.P
/- Appends and makes over parts. -/
namespace Go.Proofs.Ytemhpbdlonfikaa.P
open Go Go.RowKit Go.Proofs.YtemhpbdlonfikaaW.PrintWords Go.Proofs.YtemhpbdlonfikaaW.PrintLast Go.Proofs.YtemhpbdlonfikaaW.PrintMore
section
variable {w W W' : World} {ps : List Part} {col : Nat → Nat}
/-- One part takes over another. -/
theorem Cols.merge (h : Cols w ps col W) {j jr : Nat} {p' : Part} (hne : j ≠ jr) (hj : j < ps.length) (new : p'.sem w.heap.size (fun k => (col k = j ∨ col k = jr) ∨ W.heap.size ≤ k) W') (chg : ∀ k, k < W.heap.size → col k ≠ j → W'.heap[k]? = W.heap[k]?) (hb : Below w.heap.size w W') :
    Owned w ((ps.set jr .none).set j p') W' := by
  refine ⟨fun k => if k < W.heap.size then (if col k = jr then j else col k) else j, hb, fun i p hp => ?_⟩
  rw [List.getElem?_set] at hp
  split at hp
  · rename_i hij
    subst hij
    split at hp
    · cases hp
      refine new.wide (fun k hk => ?_)
      by_cases hlt : k < W.heap.size
      · simp only [if_pos hlt]
        rcases hk with (hk | hk) | hk
        · rw [if_neg (fun e => hne (hk.symm.trans e)), hk]
        · rw [if_pos hk]
        · exact absurd hlt (Nat.not_lt.2 hk)
      · simp only [if_neg hlt]
    · cases hp
  · rename_i hij
    rw [List.getElem?_set] at hp
    split at hp
    · split at hp
      · cases hp; trivial
      · cases hp
    · rename_i hir
      exact (h.2 i p hp).move (fun k hk hlt => ⟨chg k hlt (fun e => hij (e.symm.trans hk)), by simp only [if_pos hlt]; rw [if_neg (fun e => hir (e.symm.trans hk))]; exact hk⟩)
variable {ops : Array Oper} {rest : List Oper} {o : Oper} {a : Act} {Q : Exit → Act → World → Prop} {Kc : Act → World → Prop} {α : Type}
theorem Owned.app_step (d : Kd α) (h : Owned w ps W) {j : Nat} {v : Value} {xs : List α} {e : TypeId} (hj : ps[j]? = some (.row d e v xs)) (p : α) (cs : List Value) (hp : ∀ okp, d.M W w.heap.size okp p cs) (s x : Operand) (t : TypeId) (z : Value) (bytes : Nat)
    (ht : Try.prog.underlying t = some (.slice e)) (hinfo : (Try.prog.info? e).map (fun i => (i.zero, i.size, i.bytes)) = some (some z, d.sz, bytes)) (hz : z.cells.size = d.sz) (hs0 : 0 < d.sz) (hb0 : 0 < bytes) (hl : (xs.length + 1) * bytes ≤ 140737488355328)
    (h1 : ∀ v1 w1, Owned w (ps.set j (.row d e v1 (xs ++ [p]))) w1 → Kc (a.put o.dst v1) w1)
    (hw : Region.wanted o (yielded ops a.tmps) = true) (ho : o.op = .call { callee := .builtin .append, args := #[s, x], argTypes := #[t, t] }) (hs : a.eval s = v) (hx : a.eval x = .slice (some ⟨W.heap.size, 0, none⟩) 1 1) :
    if Region.wanted o (yielded ops a.tmps) = true then Oper.wp Try.prog o a (W.alloc (.cells cs.toArray e)) Kc Q else Kc (a.put o.dst undef) (W.alloc (.cells cs.toArray e)) := by
  obtain ⟨col, hc⟩ := h
  have hr : d.R e W w.heap.size (fun k => col k = j) v xs := hc.2 j _ hj
  refine Kd.R_append_step d (w0 := w) w.heap.size hw s x t e z bytes ho ht hinfo hz hs0 hb0 v xs p cs (fun k => col k = j ∨ W.heap.size ≤ k) (fun _ => False) hs hx (hp _) (fun _ hk => hk.elim) (fun _ hk => .inr hk) (Kd.R_mono hr (fun _ hk => .inl hk)) hc.1 hc.1.size hl ?_
  intro v1 w1 hr1 _ hg _
  exact h1 v1 w1 (hc.grown (List.getElem?_eq_some_iff.1 hj).1 hg (fun k hk => hr.1 k hk) (Kd.R_base hr) hr1)
theorem Owned.app (d : Kd α) (h : Owned w ps W) {j : Nat} {v : Value} {xs : List α} {e : TypeId} (hj : ps[j]? = some (.row d e v xs)) (p : α) (cs : List Value) (hp : ∀ okp, d.M W w.heap.size okp p cs) (s x : Operand) (t : TypeId) (z : Value) (bytes : Nat)
    (ht : Try.prog.underlying t = some (.slice e)) (hinfo : (Try.prog.info? e).map (fun i => (i.zero, i.size, i.bytes)) = some (some z, d.sz, bytes)) (hz : z.cells.size = d.sz) (hs0 : 0 < d.sz) (hb0 : 0 < bytes) (hl : (xs.length + 1) * bytes ≤ 140737488355328)
    (h1 : ∀ v1 w1, Owned w (ps.set j (.row d e v1 (xs ++ [p]))) w1 → wpList Try.prog ops Q rest (a.put o.dst v1) w1)
    (hgd : o.guard = none) (ho : o.op = .call { callee := .builtin .append, args := #[s, x], argTypes := #[t, t] }) (hs : a.eval s = v) (hx : a.eval x = .slice (some ⟨W.heap.size, 0, none⟩) 1 1) :
    wpList Try.prog ops Q (o :: rest) a (W.alloc (.cells cs.toArray e)) := by
  obtain ⟨col, hc⟩ := h
  have hr : d.R e W w.heap.size (fun k => col k = j) v xs := hc.2 j _ hj
  refine Kd.R_append d (w0 := w) w.heap.size hgd s x t e z bytes ho ht hinfo hz hs0 hb0 v xs p cs (fun k => col k = j ∨ W.heap.size ≤ k) (fun _ => False) hs hx (hp _) (fun _ hk => hk.elim) (fun _ hk => .inr hk) (Kd.R_mono hr (fun _ hk => .inl hk)) hc.1 hc.1.size hl ?_
  intro v1 w1 hr1 _ hg _
  exact h1 v1 w1 (hc.grown (List.getElem?_eq_some_iff.1 hj).1 hg (fun k hk => hr.1 k hk) (Kd.R_base hr) hr1)
/-- A row is appended to rows: it belongs to them from now on. -/
theorem Owned.push (d : Kd α) (h : Owned w ps W) {j jr : Nat} {v vr : Value} {xs : List (List α)} {row : List α} {e e1 : TypeId} (hne : j ≠ jr) (hj : ps[j]? = some (.rows d e v xs e1)) (hjr : ps[jr]? = some (.row d e1 vr row)) (s x : Operand) (t : TypeId)
    (ht : Try.prog.underlying t = some (.slice e)) (hinfo : (Try.prog.info? e).map (fun i => (i.zero, i.size, i.bytes)) = some (some (.slice none 0 0), 1, 24)) (hl : xs.length < 5864062014805)
    (h1 : ∀ v1 w1, Owned w ((ps.set jr .none).set j (.rows d e v1 (xs ++ [row]) e1)) w1 → wpList Try.prog ops Q rest (a.put o.dst v1) w1)
    (hgd : o.guard = none) (ho : o.op = .call { callee := .builtin .append, args := #[s, x], argTypes := #[t, t] }) (hs : a.eval s = v) (hx : a.eval x = .slice (some ⟨W.heap.size, 0, none⟩) 1 1) :
    wpList Try.prog ops Q (o :: rest) a (W.alloc (.cells [vr].toArray e)) := by
  obtain ⟨col, hc⟩ := h
  have hS : Kd.S (Kd.slice e1 d) e W w.heap.size (fun k => col k = j) v xs := hc.2 j _ hj
  have hR : d.R e1 W w.heap.size (fun k => col k = jr) vr row := hc.2 jr _ hjr
  obtain ⟨f_, hf_⟩ := id hS
  have hv := hf_.1
  refine Kd.S_append (Kd.slice e1 d) (w0 := w) w.heap.size hgd s x t e (.slice none 0 0) 24 ho ht hinfo rfl Nat.one_pos (by decide) v xs row [vr] (fun k => (col k = j ∨ col k = jr) ∨ W.heap.size ≤ k) (fun k => col k = jr) hs hx (Kd.M_row hR)
    (fun k hk => ⟨.inl (.inr hk), fun ek => hne ((hv k ek.symm).symm.trans hk)⟩) (fun _ hk => .inr hk) (Kd.S_mono hS (fun k hk => ⟨.inl (.inl hk), fun e => hne (hk.symm.trans e)⟩)) hc.1 hc.1.size (by omega) ?_
  intro v1 w1 hr1 hb1 hg _
  refine h1 v1 w1 (hc.merge hne (List.getElem?_eq_some_iff.1 hj).1 hr1 (fun k hlt hk => hg.block k hlt (fun ek => hk (hv k ek.symm))) hb1)
/-- make([]T, n). -/
theorem Owned.make (d : Kd α) (h : Owned w ps W) (e : TypeId) {N : Tmp} (t : TypeId) (n : Int) (z : Value) (bytes : Nat) (z0 : α) (hzero : ∀ b okp W, d.M W b okp z0 z.cells.toList) (x y : Operand) (ht : Try.prog.underlying t = some (.slice e))
    (hinfo : (Try.prog.info? e).map (fun i => (i.zero, i.size, i.bytes)) = some (some z, d.sz, bytes)) (hz : z.cells.size = d.sz) (hs0 : 0 < d.sz) (hb0 : 0 < bytes) (h0 : 0 ≤ n) (hl : n.toNat * bytes ≤ 281474976710656)
    (h1 : ∀ v1 w1, Owned w (ps ++ [.row d e v1 (List.replicate n.toNat z0)]) w1 → wpList Try.prog ops Q rest (a.put o.dst v1) w1)
    (hgd : o.guard = none) (hd : o.dst = some N) (ho : o.op = .makeSlice t x y) (hx : a.eval x = .int .i64 n) (hy : a.eval y = .int .i64 n) : wpList Try.prog ops Q (o :: rest) a W := by
  have hb := h.below
  refine Kd.R_make d (w0 := W) W.heap.size e hgd hd t x y ho n hx hy ht z bytes hinfo hz hs0 hb0 z0 (ok := fun _ => True) (okp := fun _ => True) ?_ (fun _ _ => trivial) trivial h0 hl (Below.refl _ _) (Nat.le_refl _) ?_
  · exact hzero _ _ _
  · intro v1 w1 hr1 hb1 _ _
    refine h1 v1 w1 (h.fresh hb1 ?_)
    exact Kd.R_lower (Kd.R_mono (Kd.R_bound hr1) (fun _ hk => hk.2.1)) hb.size
end
end Go.Proofs.Ytemhpbdlonfikaa.P
/- Parts: rows of writes, and parts that change their place. -/
namespace Go.Proofs.Ytemhpbdlonfikaa.P
open Go Go.RowKit Go.Proofs.YtemhpbdlonfikaaW.PrintWords Go.Proofs.YtemhpbdlonfikaaW.PrintLast Go.Proofs.YtemhpbdlonfikaaW.PrintMore
section
variable {w W : World} {ps : List Part}
theorem Owned.give (h : Owned w ps W) {j jr : Nat} {p q : Part} (hne : j ≠ jr) (hj : ps[j]? = some q) (hjr : ps[jr]? = some p) : Owned w ((ps.set jr .none).set j p) W := by
  obtain ⟨col, hc⟩ := h
  exact hc.merge hne (List.getElem?_eq_some_iff.1 hj).1 ((hc.2 jr p hjr).wide (fun k hk => .inl (.inr hk))) (fun _ _ _ => rfl) hc.1
theorem R59_cells {B e : Nat} {ok : Nat → Prop} {g n c i : Nat} {xs : List S59} (h : Kd.R k59 e W B ok (.slice (some ⟨g, 0, none⟩) n c) xs) (hi : i < n) :
    W.cell? ⟨g, i * 2, none⟩ = some (.int .i64 (rd_T59 xs (i : Int)).f0) ∧ W.cell? ⟨g, i * 2 + 1, none⟩ = some (.int .i64 (rd_T59 xs (i : Int)).f1) := by
  obtain ⟨A, c', e1, _, hC⟩ := Kd.R_reads h
  injection e1 with e1 e2 _
  subst e1
  obtain ⟨ad, e3, h0, h1⟩ := at_T59 hC (i : Int) (Int.natCast_nonneg i) (Int.ofNat_lt.2 (by omega))
  have e3 := Option.some.inj e3
  subst e3
  rw [Int.toNat_natCast, add_plain] at h0 h1
  exact ⟨h0, h1⟩
theorem R59_frozen {B e : Nat} {ok : Nat → Prop} {g n c i : Nat} {xs : List S59} (h : Kd.R k59 e W B ok (.slice (some ⟨g, 0, none⟩) n c) xs) : W.frozen? ⟨g, i, none⟩ = false := by
  obtain ⟨_, inner, ho, _⟩ := h
  rcases ho.2 with ⟨e1, _⟩ | ⟨g', cap, cur, e1, _, hh, _⟩
  · cases e1
  · injection e1 with e1 _ _
    injection e1 with e1
    injection e1 with e1
    subst e1
    exact blk_frozen hh i
/-- A field of a write is stored. -/
theorem Owned.fld (h : Owned w ps W) {j g n c : Nat} {xs : List S59} (hj : ps[j]? = some (.row k59 59 (.slice (some ⟨g, 0, none⟩) n c) xs)) (i : Nat) (hi : i < n) (f : Nat) (x : Int) (x' : S59) (hf : f < 2)
    (hx : [(.int .i64 x'.f0 : Value), .int .i64 x'.f1] = [(.int .i64 (rd_T59 xs (i : Int)).f0 : Value), .int .i64 (rd_T59 xs (i : Int)).f1].take f ++ [.int .i64 x] ++ [(.int .i64 (rd_T59 xs (i : Int)).f0 : Value), .int .i64 (rd_T59 xs (i : Int)).f1].drop (f + 1)) :
    Owned w (ps.set j (.row k59 59 (.slice (some ⟨g, 0, none⟩) n c) (xs.set i x'))) (W.setCell ⟨g, i * 2 + f, none⟩ (.int .i64 x)) := by
  obtain ⟨col, h1⟩ := h
  have hr : Kd.R k59 59 W w.heap.size (fun k => col k = j) (.slice (some ⟨g, 0, none⟩) n c) xs := h1.2 j _ hj
  obtain ⟨q0, q1⟩ := R59_cells hr hi
  obtain ⟨h2, hg⟩ := Kd.R_seg (okp := fun _ => False) hr (i : Int) (Int.natCast_nonneg i) (Int.ofNat_lt.2 hi) (c := [.int .i64 (rd_T59 xs (i : Int)).f0, .int .i64 (rd_T59 xs (i : Int)).f1]) (seg := [.int .i64 x]) (j := f) rfl
    (fun k u hk => by
      match k with
      | 0 => cases hk; rw [Int.toNat_natCast]; exact q0
      | 1 => cases hk; rw [Int.toNat_natCast]; exact q1
      | k + 2 => cases hk) (by show f + 1 ≤ 2; omega) (x' := x') (by rw [List.length_singleton, ← hx]; exact k59_mkM _ _ _ _) (fun _ hk => hk.elim)
  rw [Int.toNat_natCast] at h2 hg
  have e : W.setCells g (i * 2 + f) [.int .i64 x] = W.setCell ⟨g, i * 2 + f, none⟩ (.int .i64 x) := rfl
  rw [show k59.sz = 2 from rfl, e] at h2 hg
  exact h1.grown (List.getElem?_eq_some_iff.1 hj).1 hg (fun k ek => by cases ek; exact hr.1 g rfl) (fun k ek => by cases ek; exact Kd.R_base hr g rfl) (Kd.R_mono h2 (fun _ hk => .inl hk))
/-- The parts behind a place alone. -/
theorem Owned.tail (h : Owned w ps W) (n : Nat) : Owned w (ps.drop n) W := by
  obtain ⟨col, h1, h2⟩ := h
  refine ⟨fun k => col k - n, h1, fun j p hp => ?_⟩
  rw [List.getElem?_drop] at hp
  exact (h2 (n + j) p hp).wide (fun k hk => by show col k - n = j; rw [hk]; omega)
/-- A block is stored anew. -/
theorem Owned.setAll (h : Owned w ps W) {j g : Nat} {t : TypeId} {cs : Array Value} (hj : ps[j]? = some (.box g t cs)) (cs' : Array Value) : Owned w (ps.set j (.box g t cs')) (W.setRow g cs') := by
  obtain ⟨col, h1⟩ := h
  obtain ⟨c, l, b⟩ := h1.2 j _ hj
  have hg : W.grownBy (W.setRow g cs') (some g) := ⟨rfl, rfl, rfl, by unfold World.setRow; simp, fun k hk hne => by
    unfold World.setRow
    simp only [Array.getElem?_modify]
    rw [if_neg (fun e => hne (by rw [← e]))]⟩
  exact h1.grown (List.getElem?_eq_some_iff.1 hj).1 hg (fun k e => by cases e; exact c) (fun k e => by cases e; exact l) ⟨.inl c, l, setRow_heap W g cs _ t _ b⟩
theorem Owned.with (h : Owned w ps W) {p : Part} (hp : ∀ ok, p.sem w.heap.size ok W) : Owned w (ps ++ [p]) W := h.fresh (Below.refl _ _) (hp _)
theorem Owned.nils (h : Owned w ps W) : Owned w [.row (Kd.int .i64) 3 (.slice none 0 0) [], .row (Kd.int .i64) 3 (.slice none 0 0) [], .rows (Kd.int .i64) 26 (.slice none 0 0) [] 2, .row (Kd.int .i64) 2 (.slice none 0 0) [], .rows k59 57 (.slice none 0 0) [] 59] W :=
  ((((((h.cut 0).with (p := .row (Kd.int .i64) 3 (.slice none 0 0) []) (fun ok => Kd.R_nil _ _ _ _ _)).with (p := .row (Kd.int .i64) 3 (.slice none 0 0) []) (fun ok => Kd.R_nil _ _ _ _ _)).with (p := .rows (Kd.int .i64) 26 (.slice none 0 0) [] 2) (fun ok => Kd.S_nil _ _ _ _ _)).with (p := .row (Kd.int .i64) 2 (.slice none 0 0) []) (fun ok => Kd.R_nil _ _ _ _ _)).with (p := .rows k59 57 (.slice none 0 0) [] 59) (fun ok => Kd.S_nil _ _ _ _ _))
end
end Go.Proofs.Ytemhpbdlonfikaa.P
/- The events of a drawn region, a line each. -/
namespace Go.Proofs.Ytemhpbdlonfikaa.P
open Go Go.RowKit Go.Proofs.YtemhpbdlonfikaaW.PrintWords Go.Proofs.YtemhpbdlonfikaaW.PrintLast Go.Proofs.YtemhpbdlonfikaaW.PrintMore
section
variable {P : Program} {ops : Array Oper} {Q : Exit → Act → World → Prop} {md : Region.Mode} {S : World → Prop} {ds : List Nat} {oi : Oper} {v : Value} {fuel : Nat} {l : Array Bool} {a a' : Act} {w w1 : World}
/-- An event that looks at no memory. -/
theorem pu_ (i : Nat) (N : Tmp) (h : wpAnyLast P md ops Q S ds fuel (l.setIfInBounds i true) a' w) (hi : ops[i]? = some oi := by rfl) (hN : oi.dst = some N := by rfl)
    (hc : anyB md ops l (l.setIfInBounds i true) i = true := by exact any_of HT_.out (by kernel_rfl)) (hQ : ∀ c a w, Q (.panic c) (a.put oi.dst v) w → Q (.panic c) a w := by exact fun _ _ _ h => h)
    (hw : Region.wanted oi (yielded ops a.tmps) = true := by rfl) (hv : ∀ w, (execOp a.eval oi).run P w = .ok (.value v) w := by intro w'; go_simp; with_reducible rfl)
    (ha : a.put (some N) v = a' := by simp only [Act.put, put_, i64_w, i32_w]; rfl) : wpAnyLast P md ops Q S ds (fuel + 1) l a w := pure_ _ hi hN hc hQ (.inl ⟨hw, hv⟩) ha h
/-- A load of what is held. -/
theorem ta_ (i : Nat) (N : Tmp) (h : wpAnyLast P md ops Q S ds fuel (l.setIfInBounds i true) a' w) (hS : S w) (hi : ops[i]? = some oi := by rfl) (hN : oi.dst = some N := by rfl)
    (hc : takeB md ops ds l (l.setIfInBounds i true) i = true := by exact take_ofW HT_.out HW_.out (by kernel_rfl)) (hQ : ∀ c a w, Q (.panic c) (a.put oi.dst v) w → Q (.panic c) a w := by exact fun _ _ _ h => h)
    (hw : Region.wanted oi (yielded ops a.tmps) = true := by rfl) (hv : ∀ w, S w → (execOp a.eval oi).run P w = .ok (.value v) w := by intro w' hS_; go_simp; with_reducible rfl)
    (ha : a.put (some N) v = a' := by simp only [Act.put, put_, i64_w, i32_w]; rfl) : wpAnyLast P md ops Q S ds (fuel + 1) l a w := take_ _ hi hN hc hQ (.inl ⟨hw, hv⟩) hS ha h
/-- The only event that may come up. -/
theorem on_ (i : Nat) (N : Tmp) (h : ∀ K : Act → World → Prop, Shut (∀ a' w', S w' → (S w' → wpAnyLast P md ops Q S ds fuel (l.setIfInBounds i true) a' w') → K a' w') → if Region.wanted oi (yielded ops a.tmps) = true then Oper.wp P oi a w K Q else K (a.put (some N) undef) w)
    (hi : ops[i]? = some oi := by rfl) (hN : oi.dst = some N := by rfl) (hc : readyB md ops l (l.setIfInBounds i true) i = true := by exact one_of HT_.out (by kernel_rfl)) (hd : i ∉ ds := by decide) : wpAnyLast P md ops Q S ds (fuel + 1) l a w := one_ _ hi hN hc hd h
theorem nm_ (N : Tmp) {a0 : Act} (h : wpAnyLast P md ops Q S ds fuel l a' w) (h0 : a = a0.put (some N) v := by rfl) (ha : a0.put (some N) v = a' := by simp only [Act.put, put_, i64_w, i32_w]; rfl) : wpAnyLast P md ops Q S ds fuel l a w := norm_ (h0.trans ha) h
/-- The last store. -/
theorem la_ (i : Nat) (w1 : World) (h : Q .normal a w1) (hi : ops[i]? = some oi := by rfl) (hN : oi.dst = none := by rfl) (hc : readyB md ops l (l.setIfInBounds i true) i = true := by exact one_of HT_.out (by kernel_rfl)) (hd : i ∈ ds := by decide)
    (hw : Region.wanted oi (yielded ops a.tmps) = true := by rfl) (hrun : (execOp a.eval oi).run P w = .ok .skip w1 := by first | (go_simp; done) | (go_simp; rfl))
    (hdn : (Region.ready md ops (l.setIfInBounds i true) == []) = true := by exact done_of HT_.out (by kernel_rfl)) : wpAnyLast P md ops Q S ds (fuel + 1) l a w :=
  last_ _ hi hN hc hd (fun _ hK => skip_ hw hN hrun (hK.out _ _ (done_ hdn h)))
/-- A literal of one element, as the only event. -/
theorem li_ (i : Nat) (N : Tmp) {e : TypeId} {cs : Array Value} {n : Nat} (hS : S (w.alloc (.cells cs e))) (h : wpAnyLast P md ops Q S ds fuel (l.setIfInBounds i true) a' (w.alloc (.cells cs e)))
    (hi : ops[i]? = some oi := by rfl) (hN : oi.dst = some N := by rfl) (hc : readyB md ops l (l.setIfInBounds i true) i = true := by exact one_of HT_.out (by kernel_rfl)) (hd : i ∉ ds := by decide)
    (hw : Region.wanted oi (yielded ops a.tmps) = true := by rfl) (hrun : (execOp a.eval oi).run P w = .ok (.value (.slice (some ⟨w.heap.size, 0, none⟩) n n)) (w.alloc (.cells cs e)) := by first | (go_simp; done) | (go_simp; rfl))
    (ha : a.put (some N) (.slice (some ⟨w.heap.size, 0, none⟩) n n) = a' := by simp only [Act.put, put_, i64_w, i32_w]; rfl) : wpAnyLast P md ops Q S ds (fuel + 1) l a w :=
  one_ _ hi hN hc hd (fun _ hK => value_ hw hN hrun (hK.out _ _ hS (fun _ => by subst ha; exact h)))
end
section
variable {ops : Array Oper} {Q : Exit → Act → World → Prop} {md : Region.Mode} {S : World → Prop} {ds : List Nat} {oi : Oper} {fuel : Nat} {l : Array Bool} {a : Act} {w W : World} {ps : List Part} {α : Type}
/-- An empty literal and what came in appended to it: a row of one's own. -/
theorem Owned.clone_step {w W : World} {ps : List Part} {o : Oper} {a : Act} {Kc : Act → World → Prop} (d : Kd α) (h : Owned w ps W) {Rr : α → List Value → Prop} {ys : List α} {A : Option Addr} {m c : Nat} (s x : Operand) (t e : TypeId) (z : Value) (bytes : Nat)
    (ht : Try.prog.underlying t = some (.slice e)) (hinfo : (Try.prog.info? e).map (fun i => (i.zero, i.size, i.bytes)) = some (some z, d.sz, bytes)) (hz : z.cells.size = d.sz) (hs0 : 0 < d.sz) (hb0 : 0 < bytes) (hl : m * bytes ≤ 140737488355328)
    (hKM : ∀ x cs, Rr x cs → d.M (W.alloc (.cells #[] e)) w.heap.size (fun _ => False) x cs) (hread : ReadsRow Rr d.sz (W.alloc (.cells #[] e)) A m ys)
    (h1 : ∀ v1 w1, Owned w (ps ++ [.row d e v1 ys]) w1 → Kc (a.put o.dst v1) w1)
    (hw : Region.wanted o (yielded ops a.tmps) = true) (ho : o.op = .call { callee := .builtin .append, args := #[s, x], argTypes := #[t, t] }) (hs : a.eval s = .slice (some ⟨W.heap.size, 0, none⟩) 0 0) (hx : a.eval x = .slice A m c) :
    if Region.wanted o (yielded ops a.tmps) = true then Oper.wp Try.prog o a (W.alloc (.cells #[] e)) Kc Q else Kc (a.put o.dst undef) (W.alloc (.cells #[] e)) := by
  have hb := h.below
  have hrow : d.R e (W.alloc (.cells #[] e)) w.heap.size (fun k => W.heap.size ≤ k) (.slice (some ⟨W.heap.size, 0, none⟩) 0 0) ([] : List α) := by
    refine ⟨fun k hk => ?_, [], ?_, Reps.none _ _⟩
    · have : W.heap.size = k := by simpa [Value.ownBlock] using hk
      subst this
      exact Nat.le_refl _
    · have h2 := World.ownsRow_lit (base := w.heap.size) (e := e) (size := d.sz) W #[] 0 hb.size (by decide) (by simp)
      simpa using h2
  refine Kd.R_append_rows_step d (w0 := w) w.heap.size hw s x t e z bytes ho ht hinfo hz hs0 hb0 _ [] ys A m c (fun k => W.heap.size ≤ k) (fun _ => False) hs hx hrow hread hKM (fun _ h => h.elim) (fun k hk => Nat.le_trans (by rw [show (W.alloc (.cells #[] e)).heap.size = W.heap.size + 1 from Array.size_push _]; omega) hk) (hb.alloc hb.size _) (by rw [show (W.alloc (.cells #[] e)).heap.size = W.heap.size + 1 from Array.size_push _]; have := hb.size; omega) (by simpa using hl) ?_
  intro v1 w1 hr1 hb1 hg _
  refine h1 v1 w1 (h.fresh ?_ hr1)
  have hsz : (W.alloc (.cells #[] e)).heap.size = W.heap.size + 1 := Array.size_push _
  refine ⟨hb1.os.trans hb.os.symm, hb1.tape.trans hb.tape.symm, hb1.output.trans hb.output.symm, by have := hg.size; omega, fun k hk => ?_⟩
  rw [hg.block k (by omega) (fun e => by have : W.heap.size = k := by simpa [Value.ownBlock] using e.symm
                                         omega)]
  exact (below_alloc (Below.refl W.heap.size W) _).block k hk
end
theorem results_c1 {P : Program} {fn : Func} {p : Tmp} {ty : TypeId} (h : fn.results = #[.cell p ty]) (tmps : Array Value) (w : World) (g : Nat) (t : TypeId) (cs : Array Value) (fr : Nat × Nat) (d : TypeDesc)
    (hp : tmps.getD p undef = .pointer (some ⟨g, 0, none⟩)) (hg : w.heap[g]? = some (.cells cs t fr))
    (hu : P.underlying ty = some d) (hd : (match d with | .struct _ | .array _ _ => true | _ => false) = true) (hi : (P.info? ty).map (·.size) = some cs.size) :
    (results fn tmps).run P w = .ok (.agg cs) w := by
  have hp' : tmps[p]?.getD undef = .pointer (some ⟨g, 0, none⟩) := by simpa using hp
  simp [results, h, hp', asAddr, run_loadVar_row w g t ty cs fr d hg hu hd hi]
section
variable {w W W' : World} {ps : List Part}
theorem Part.sem.bound {B : Nat} {p : Part} {ok : Nat → Prop} {W : World} (h : p.sem B ok W) : p.sem B (fun k => ok k ∧ B ≤ k) W := by
  cases p with
  | row d e v xs => exact Kd.R_mono (Kd.R_bound h) (fun k hk => ⟨hk.1, hk.2.1⟩)
  | rows d e v xs e1 => exact Kd.S_mono (Kd.S_bound h) (fun k hk => ⟨hk.1, hk.2.1⟩)
  | box g t cs => exact ⟨⟨h.1, h.2.1⟩, h.2.1, h.2.2⟩
  | none => trivial
/-- What a callee made from here on comes behind what is owned. -/
theorem Owned.more {qs : List Part} (h : Owned w ps W) (h' : Owned W qs W') : Owned w (ps ++ qs) W' := by
  obtain ⟨col, h1, h2⟩ := h
  obtain ⟨col', h1', h2'⟩ := h'
  refine ⟨fun k => if k < W.heap.size then col k else ps.length + col' k, below_then h1 h1.size h1', fun i p hp => ?_⟩
  by_cases hi : i < ps.length
  · rw [List.getElem?_append_left hi] at hp
    exact (h2 i p hp).move (fun k hk hlt => ⟨h1'.block k hlt, by simp only [if_pos hlt]; exact hk⟩)
  · rw [List.getElem?_append_right (Nat.le_of_not_lt hi)] at hp
    refine ((h2' _ p hp).bound.low h1.size).wide (fun k hk => ?_)
    simp only [if_neg (Nat.not_lt.2 hk.2), hk.1]
    omega
/-- What events made, each in its colour, comes behind what is owned. -/
theorem Owned.many (h : Owned w ps W) (hb : Below W.heap.size W W') {col : Nat → Option Nat} (qs : List (Nat × Part)) (idx : Nat → Nat) (hq : ∀ (j e : Nat) (q : Part), qs[j]? = some (e, q) → q.sem W.heap.size (fun k => col k = some e) W' ∧ idx e = j) : Owned w (ps ++ qs.map (·.2)) W' := by
  obtain ⟨c0, h1, h2⟩ := h
  refine ⟨fun k => if k < W.heap.size then c0 k else ps.length + idx ((col k).getD 0), below_then h1 h1.size hb, fun i p hp => ?_⟩
  by_cases hi' : i < ps.length
  · rw [List.getElem?_append_left hi'] at hp
    exact (h2 i p hp).move (fun k hk hlt => ⟨hb.block k hlt, by simp only [if_pos hlt]; exact hk⟩)
  · rw [List.getElem?_append_right (Nat.le_of_not_lt hi'), List.getElem?_map] at hp
    obtain ⟨⟨e, q⟩, hj, rfl⟩ := Option.map_eq_some_iff.1 hp
    obtain ⟨hs, he⟩ := hq _ e q hj
    refine (hs.bound.low h1.size).wide (fun k hk => ?_)
    simp only [if_neg (Nat.not_lt.2 hk.2), hk.1, Option.getD_some, he]
    omega
variable {ops : Array Oper} {o : Oper} {a : Act} {Q : Exit → Act → World → Prop} {Kc : Act → World → Prop} {α : Type}
/-- A row is appended to rows, in a region that draws. -/
theorem Owned.push_step (d : Kd α) (h : Owned w ps W) {j jr : Nat} {v vr : Value} {xs : List (List α)} {row : List α} {e e1 : TypeId} (hne : j ≠ jr) (hj : ps[j]? = some (.rows d e v xs e1)) (hjr : ps[jr]? = some (.row d e1 vr row)) (s x : Operand) (t : TypeId)
    (ht : Try.prog.underlying t = some (.slice e)) (hinfo : (Try.prog.info? e).map (fun i => (i.zero, i.size, i.bytes)) = some (some (.slice none 0 0), 1, 24)) (hl : xs.length < 5864062014805)
    (h1 : ∀ v1 w1, Owned w ((ps.set jr .none).set j (.rows d e v1 (xs ++ [row]) e1)) w1 → Kc (a.put o.dst v1) w1)
    (hw : Region.wanted o (yielded ops a.tmps) = true) (ho : o.op = .call { callee := .builtin .append, args := #[s, x], argTypes := #[t, t] }) (hs : a.eval s = v) (hx : a.eval x = .slice (some ⟨W.heap.size, 0, none⟩) 1 1) :
    if Region.wanted o (yielded ops a.tmps) = true then Oper.wp Try.prog o a (W.alloc (.cells [vr].toArray e)) Kc Q else Kc (a.put o.dst undef) (W.alloc (.cells [vr].toArray e)) := by
  obtain ⟨col, hc⟩ := h
  have hS : Kd.S (Kd.slice e1 d) e W w.heap.size (fun k => col k = j) v xs := hc.2 j _ hj
  have hR : d.R e1 W w.heap.size (fun k => col k = jr) vr row := hc.2 jr _ hjr
  obtain ⟨f_, hf_⟩ := id hS
  have hv := hf_.1
  refine Kd.S_append_step (Kd.slice e1 d) (w0 := w) w.heap.size hw s x t e (.slice none 0 0) 24 ho ht hinfo rfl Nat.one_pos (by decide) v xs row [vr] (fun k => (col k = j ∨ col k = jr) ∨ W.heap.size ≤ k) (fun k => col k = jr) hs hx (Kd.M_row hR)
    (fun k hk => ⟨.inl (.inr hk), fun ek => hne ((hv k ek.symm).symm.trans hk)⟩) (fun _ hk => .inr hk) (Kd.S_mono hS (fun k hk => ⟨.inl (.inl hk), fun e => hne (hk.symm.trans e)⟩)) hc.1 hc.1.size (by omega) ?_
  intro v1 w1 hr1 hb1 hg _
  refine h1 v1 w1 (hc.merge hne (List.getElem?_eq_some_iff.1 hj).1 hr1 (fun k hlt hk => hg.block k hlt (fun ek => hk (hv k ek.symm))) hb1)
end
end Go.Proofs.Ytemhpbdlonfikaa.P
