/- ScCodes' own walk. -/
import Derived.Test.YtemhpbdlonfikaaEa
import Derived.Test.YtemhpbdlonfikaaCh
import Derived.Outline
import Derived.Test.YtemhpbdlonfikaaVa
import Derived.SizedLaws
import Derived.Deep.Slices
import Derived.ChangeArms
import Derived.ChangeOld
import Derived.DataReads
import Derived.WideShapes
import Derived.Test.YtemhpbdlonfikaaP3
import Derived.Test.YtemhpbdlonfikaaP4
import Derived.Test.YtemhpbdlonfikaaP5
import Derived.Test.YtemhpbdlonfikaaP6
import Derived.Test.YtemhpbdlonfikaaP7
import Derived.Test.YtemhpbdlonfikaaHreg
import Derived.Test.YtemhpbdlonfikaaP9
import Derived.Test.YtemhpbdlonfikaaP11
import Derived.Test.YtemhpbdlonfikaaP12
import Derived.Test.YtemhpbdlonfikaaP13
import Derived.Test.YtemhpbdlonfikaaP14
import Derived.Test.YtemhpbdlonfikaaP26
namespace Go.Proofs.Ytemhpbdlonfikaa.P
open Go Go.RowKit Go.Proofs.YtemhpbdlonfikaaW.PrintWords Go.Proofs.YtemhpbdlonfikaaW.PrintLast Go.Proofs.YtemhpbdlonfikaaW.PrintMore

theorem below_thenW {W V V' : World} (h1 : Below W.heap.size W V) (h2 : Below V.heap.size V V') : Below W.heap.size W V' := below_then h1 h1.size h2
theorem StR.kinds {B : Nat} {W : World} {vs : List Value} {u : StT} (h : StR B W vs u) : StK B (fun _ => True) W vs (toSt u) := by
  obtain ⟨v0, v1, v2, v3, v4, rfl, h0, h1, h2, h3, h4⟩ := h
  exact ⟨v0, v1, v2, v3, v4, rfl, Kd.R_mono h0 (fun _ _ => trivial), Kd.R_mono h1 (fun _ _ => trivial), Kd.S_mono h2 (fun _ _ => trivial), h3, h4⟩
theorem PgR.later {B B0 : Nat} {W : World} {vs : List Value} {p : Pg} (h : PgR B (fun _ => True) W vs p) (hB : B0 ≤ B) : PgR B0 (fun k => B ≤ k) W vs p := by
  obtain ⟨v0, v1, v2, v3, v4, rfl, h0, h1, h2, h3, h4⟩ := h
  exact ⟨v0, v1, v2, v3, v4, rfl, Kd.S_lower (Kd.S_mono (Kd.S_bound h0) (fun _ hk => hk.2.1)) hB, Kd.S_lower (Kd.S_mono (Kd.S_bound h1) (fun _ hk => hk.2.1)) hB, Kd.R_lower (Kd.R_mono (Kd.R_bound h2) (fun _ hk => hk.2.1)) hB,
    Kd.S_lower (Kd.S_mono (Kd.S_bound h3) (fun _ hk => hk.2.1)) hB, Kd.R_lower (Kd.R_mono (Kd.R_bound h4) (fun _ hk => hk.2.1)) hB⟩
theorem StK.later {B B0 : Nat} {W : World} {vs : List Value} {p : St} (h : StK B (fun _ => True) W vs p) (hB : B0 ≤ B) : StK B0 (fun k => B ≤ k) W vs p := by
  obtain ⟨v0, v1, v2, v3, v4, rfl, h0, h1, h2, h3, h4⟩ := h
  exact ⟨v0, v1, v2, v3, v4, rfl, Kd.R_lower (Kd.R_mono (Kd.R_bound h0) (fun _ hk => hk.2.1)) hB, Kd.R_lower (Kd.R_mono (Kd.R_bound h1) (fun _ hk => hk.2.1)) hB, Kd.S_lower (Kd.S_mono (Kd.S_bound h2) (fun _ hk => hk.2.1)) hB,
    Kd.R_lower (Kd.R_mono (Kd.R_bound h3) (fun _ hk => hk.2.1)) hB, Kd.S_lower (Kd.S_mono (Kd.S_bound h4) (fun _ hk => hk.2.1)) hB⟩

def codesT1 : Bool × List (List Nat × List Nat) := (true, [([], []), ([0], [0]), ([], []), ([2, 1], [2]), ([], []), ([], []), ([4, 1, 3, 0, 1, 4, 5], [1, 4]), ([5, 3, 6, 0, 1, 2, 3, 4, 5, 6], [3, 5])])
def codesB1 : List Nat := [0, 1, 0, 7, 0, 0, 63, 127]
theorem codes_tab1 : rtab .any (opsOf Try.f4 1) = codesT1 := by kernel_rfl
theorem codes_bits1 : waitsOk codesT1.2 codesB1 = true := by kernel_rfl
def codesT19 : Bool × List (List Nat × List Nat) := (true, [([], []), ([0], [0]), ([], []), ([], []), ([3], [3]), ([], []), ([4, 5], [4, 5]), ([6], [6]), ([], []), ([8], [8]), ([7, 9], [7, 9]), ([1, 2, 0, 1, 2, 3, 4, 5, 6, 7, 8, 9, 10], [1, 2]), ([11, 10, 10, 0, 1, 2, 3, 4, 5, 6, 7, 8, 9, 10], [10, 11])])
def codesB19 : List Nat := [0, 1, 0, 0, 8, 0, 56, 120, 0, 256, 1016, 2047, 4095]
theorem codes_tab19 : rtab .any (opsOf Try.f4 19) = codesT19 := by kernel_rfl
theorem codes_bits19 : waitsOk codesT19.2 codesB19 = true := by kernel_rfl
theorem below_at {B : Nat} {w w1 w2 : World} (h : Below B w w1) (k : Below B w1 w2) : Below B w w2 := ⟨k.os.trans h.os, k.tape.trans h.tape, k.output.trans h.output, Nat.le_trans h.size k.size, fun i hi => (k.block i hi).trans (h.block i hi)⟩
theorem sub_succ2 {n j : Nat} (h : j < n) : n - (intOf (.int .i64 ((j : Int) + 1))).toNat < n - (intOf (.int .i64 (j : Int))).toNat := by
  show n - ((j : Int) + 1).toNat < n - ((j : Int)).toNat
  omega
def noP : Array Value := #[.slice none 0 0, .slice none 0 0, .slice none 0 0, .slice none 0 0, .slice none 0 0]
def noS : Array Value := #[.slice none 0 0, .slice none 0 0, .slice none 0 0, .slice none 0 0, .slice none 0 0, .int .i64 0]

theorem StR.upto {B : Nat} {W : World} {vs : List Value} {u : StT} (h : StR B W vs u) : StE B W.heap.size W vs (toSt u) := by
  obtain ⟨v0, v1, v2, v3, v4, rfl, h0, h1, h2, h3, h4⟩ := h
  exact ⟨v0, v1, v2, v3, v4, rfl, Kd.R_mono (Kd.R_bound h0) (fun k hk => ⟨⟨hk.2.1, hk.2.2.1⟩, hk.1⟩), Kd.R_mono (Kd.R_bound h1) (fun k hk => ⟨⟨hk.2.1, hk.2.2.1⟩, hk.1⟩), Kd.S_mono (Kd.S_bound h2) (fun k hk => ⟨⟨hk.2.1, hk.2.2.1⟩, hk.1⟩),
    Kd.R_mono (Kd.R_bound h3) (fun k hk => ⟨hk.2.1, hk.2.2.1⟩), Kd.S_mono (Kd.S_bound h4) (fun k hk => ⟨hk.2.1, hk.2.2.1⟩)⟩
theorem StR.shape {B : Nat} {W : World} {vs : List Value} {u : StT} (h : StR B W vs u) : (Try.prog.info? 42).map (·.size) = some vs.toArray.size ∧ 6 = vs.toArray.size ∧ vs.toArray.all (·.oneCell') = true := ⟨st_info h.read, st_six h.read, st_one h.read⟩
theorem code_w {w : World} {p : Pg} {pv sv : List Value} {u : StT} {c : ByteArray × Int} (hc : codeA p u.1 u.2.1 u.2.2.1 u.2.2.2.1 u.2.2.2.2.1 u.2.2.2.2.2 = c) (hp : PgV w pv p) (hs : StV w sv (toSt u)) (hz : VSz p) (hN : Nums u) :
    Calls Try.prog 14 #[.agg pv.toArray, .agg sv.toArray] w fun e W' => e = .returned (.tuple #[.string c.1, .int .i64 c.2]) ∧ Below w.heap.size w W' := by
  subst hc
  exact code_c hp hs hz hN
theorem rcode_w {w : World} {p : Pg} {pv sv : List Value} {u : StT} {c : ByteArray × Int} (hc : codeA p u.1 u.2.1 u.2.2.1 u.2.2.2.1 u.2.2.2.2.1 u.2.2.2.2.2 = c) (hp : PgV w pv p) (hs : StV w sv (toSt u)) (hz : VSz p) (hvr : Ev (fun k => weirref09_Valid.f k p.th p.rg p.lo p.r0 p.m0) (validM p)) (hN : Nums u) :
    Calls Try.prog 15 #[.agg pv.toArray, .agg sv.toArray] w fun e W' => e = .returned (.tuple #[.string c.1, .int .i64 c.2]) ∧ Below w.heap.size w W' := by
  subst hc
  exact rcode_c hp hs hz hvr hN
/-- What the law has made: its own program and state, and where they lie. -/
structure Made (w : World) (pv sv cv dv : List Value) (p : Pg) (u : StT) (g7 g8 : Nat) (W : World) : Prop where
  below : Below w.heap.size w W
  b3 : W.heap[w.heap.size]? = some (.cells pv.toArray 28 (0, 0))
  b4 : W.heap[w.heap.size + 1]? = some (.cells sv.toArray 42 (0, 0))
  b7 : W.heap[g7]? = some (.cells cv.toArray 28 (0, 0))
  b8 : W.heap[g8]? = some (.cells dv.toArray 42 (0, 0))
  pp : PgV W pv p
  ss : StV W sv (toSt u)
  pc : PgV W cv p
  sd : StV W dv (toSt u)
theorem Made.later {w : World} {pv sv cv dv : List Value} {p : Pg} {u : StT} {g7 g8 : Nat} {W W' : World} (h : Made w pv sv cv dv p u g7 g8 W) (hb : Below W.heap.size W W') : Made w pv sv cv dv p u g7 g8 W' :=
  ⟨below_then h.below h.below.size hb, (hb.block _ (blk_lt h.b3)).trans h.b3, (hb.block _ (blk_lt h.b4)).trans h.b4, (hb.block _ (blk_lt h.b7)).trans h.b7, (hb.block _ (blk_lt h.b8)).trans h.b8, h.pp.below hb, h.ss.below hb, h.pc.below hb, h.sd.below hb⟩
theorem keep_setRow {W : World} {g k : Nat} {cs : Array Value} {o : Obj} (h : W.heap[k]? = some o) (hne : k ≠ g) : (W.setRow g cs).heap[k]? = some o := (setRow_other W g k cs hne).trans h
theorem fresh_setRow {B : Nat} {W0 W : World} {g : Nat} {vs : Array Value} (h : Below B W0 W) (hg : B ≤ g) (hB : B ≤ W.heap.size) : Below B W0 (W.setRow g vs) := by
  refine h.grown (row := some g) ⟨rfl, rfl, rfl, by unfold World.setRow; simp, fun k hk hne => ?_⟩ hB (fun k e => by cases e; exact hg)
  unfold World.setRow
  simp only [Array.getElem?_modify]
  rw [if_neg (fun e => hne (by rw [← e]))]
theorem box_made {W w4 : World} {av : List Value} {a : StT} (old : Array Value) (hr : StR W.heap.size w4 av a) (hb : Below W.heap.size W w4) : BoxS W.heap.size av (toSt a) w4.heap.size ((w4.alloc (.cells old 42)).setRow w4.heap.size av.toArray) ∧ Below W.heap.size W ((w4.alloc (.cells old 42)).setRow w4.heap.size av.toArray) := by
  have hz := hb.size
  have hk : ∀ k, k < w4.heap.size → ((w4.alloc (.cells old 42)).setRow w4.heap.size av.toArray).heap[k]? = w4.heap[k]? := fun k hk => (setRow_other _ _ k _ (Nat.ne_of_lt hk)).trans ((below_alloc (Below.refl w4.heap.size w4) (.cells old 42)).block k hk)
  refine ⟨⟨hr.upto.move (fun k _ h => hk k h), setRow_heap _ _ _ _ _ _ (heap_alloc_new w4 _), hz⟩, ?_⟩
  exact fresh_setRow (below_alloc hb _) hz (Nat.le_trans hz (by simp))
set_option maxHeartbeats 8000000 in
set_option maxRecDepth 100000 in
theorem codes_walk {w : World} {p : Pg} {pv sv : List Value} {u : StT} {s : ByteArray} (hp : PgV w pv p) (hs : StV w sv (toSt u)) (hz : VSz p) (hvr : Ev (fun k => weirref09_Valid.f k p.th p.rg p.lo p.r0 p.m0) (validM p)) (F : PgFit p) (G : StFit u) (hN : Nums u) (hsz : s.size ≤ 4611686018427387904) :
    Calls Try.prog 4 #[.agg pv.toArray, .agg sv.toArray, .string s] w fun e W' => e = .returned (.bool true) ∧ Below w.heap.size w W' := by
  have HP := Aside0.mk hp
  have HS := Aside0.mk hs
  have HZ := Aside0.mk hz
  have HV := Aside0.mk hvr
  have HF_P := Aside0.mk F
  have HG := Aside0.mk G
  have HN := Aside0.mk hN
  have HSZ := Aside0.mk hsz
  clear hp hs hz hvr F G hN hsz
  have hu28 := Try.underlying28
  have hu42 := Try.underlying42
  go_enter Try.func4, Try.ntmps4
  go_upto_region 1 with fail
  have hb0 : Below w.heap.size w ((w.alloc (.cells pv.toArray 28)).alloc (.cells sv.toArray 42)) := below_alloc (below_alloc (Below.refl _ _) _) _
  have h30 := blk_alloc (heap_alloc_new w (.cells pv.toArray 28)) (.cells sv.toArray 42)
  have h40 := heap_alloc_new (w.alloc (.cells pv.toArray 28)) (.cells sv.toArray 42)
  rw [show (w.alloc (.cells pv.toArray 28)).heap.size = w.heap.size + 1 by simp] at h40
  generalize hW : World.alloc (World.alloc w _) _ = W0 at hb0 h30 h40 ⊢
  have HB0 := Aside0.mk hb0
  have H30 := Aside0.mk h30
  have H40 := Aside0.mk h40
  clear hW hb0 h30 h40
  go_cut [7, 8] (fun v7 v8 wx => ∃ (g7 g8 : Nat) (cv dv : List Value), v7 = .pointer (some ⟨g7, 0, none⟩) ∧ v8 = .pointer (some ⟨g8, 0, none⟩) ∧ Aside0 (Made w pv sv cv dv p u g7 g8 wx))
  case first =>
    refine start_ (n := 8) (S := fun W' => W'.heap[w.heap.size]? = some (.cells pv.toArray 28 (0, 0)) ∧ W'.heap[w.heap.size + 1]? = some (.cells sv.toArray 42 (0, 0))) (ds := []) #[false, false, false, false, false, false, false, false] (by kernel_rfl) rfl rfl ⟨blk_drew H30.out, blk_drew H40.out⟩ (fun hHeld => ?_); refine with_tabW codes_tab1 codes_bits1 (fun HT_ HW_ => ?_)
    replace HB0 := Aside0.mk (below_drew1 HB0.out)
    replace H30 := Aside0.mk (blk_drew H30.out)
    replace H40 := Aside0.mk (blk_drew H40.out)
    generalize W0.drew = W1 at HB0 H30 H40 hHeld ⊢
    refine take_ (i := 0) (N := some 27) (v := .agg pv.toArray) (a' := ?_) #[true, false, false, false, false, false, false, false] rfl rfl (take_ofW HT_.out HW_.out (by kernel_rfl)) (fun _ _ _ h => h) (Or.inl ⟨by rfl, ?hr⟩) hHeld ?ha ?hm
    case hr => exact fun w' hh => exec_load_row w.heap.size hh.1 hu28 (pg_info HP.out) rfl rfl
    case ha =>
      simp only [Act.put, put_]
      rfl
    refine take_ (i := 2) (N := some 29) (v := .agg sv.toArray) (a' := ?_) #[true, false, true, false, false, false, false, false] rfl rfl (take_ofW HT_.out HW_.out (by kernel_rfl)) (fun _ _ _ h => h) (Or.inl ⟨by rfl, ?hr2⟩) hHeld ?ha2 ?hm2
    case hr2 => exact fun w' hh => exec_load_row (w.heap.size + 1) hh.2 hu42 (st_info HS.out) rfl rfl
    case ha2 =>
      simp only [Act.put, put_]
      rfl
    refine inv_ 2 #[true, true, true, true, true, true, false, false] (w0 := W1) [(1, 28), (3, 30), (4, 7), (5, 8)] (fun _ => []) (fun e vs ok W => match e with
      | 1 => ∃ cv : List Value, vs 1 = .agg cv.toArray ∧ PgR W1.heap.size ok W cv p
      | 3 => ∃ dv : List Value, vs 3 = .agg dv.toArray ∧ StK W1.heap.size ok W dv (toSt u)
      | 4 => ∃ g, vs 4 = .pointer (some ⟨g, 0, none⟩) ∧ ok g ∧ W1.heap.size ≤ g ∧ W.heap[g]? = some (.cells noP 28 (0, 0))
      | 5 => ∃ g, vs 5 = .pointer (some ⟨g, 0, none⟩) ∧ ok g ∧ W1.heap.size ≤ g ∧ W.heap[g]? = some (.cells noS 42 (0, 0))
      | _ => True) HT_.out (by kernel_rfl) (by rfl) ?iS ?iE ?iC
    case iS => exact fun W hb => ⟨(hb.block _ (blk_lt H30.out)).trans H30.out, (hb.block _ (blk_lt H40.out)).trans H40.out⟩
    case iE =>
      refine evs_cons ?_ (evs_cons ?_ (evs_cons ?_ (evs_cons ?_ evs_nil)))
      · refine ev_fresh (fun v ok W => ∃ cv : List Value, v = .agg cv.toArray ∧ PgR W1.heap.size ok W cv p) (fun v ok ok' W W' h hm => by obtain ⟨cv, e, h⟩ := h; exact ⟨cv, e, h.move hm⟩) rfl rfl rfl (fun l_ vs_ W_ hb_ K hK => ?_)
        refine goes_ Try.func12 (by kernel_rfl) rfl #[.agg pv.toArray] (by rfl) rfl rfl ag_ ?_
        refine (copyp_R ((HP.out.below HB0.out).below hb_) HF_P.out).mono ?_
        rintro e W2 ⟨cv, rfl, hcv, hb⟩
        exact ⟨_, rfl, hK.out _ _ hb ⟨cv, rfl, hcv.later hb_.size⟩⟩
      · refine ev_fresh (fun v ok W => ∃ dv : List Value, v = .agg dv.toArray ∧ StK W1.heap.size ok W dv (toSt u)) (fun v ok ok' W W' h hm => by obtain ⟨cv, e, h⟩ := h; exact ⟨cv, e, h.move hm⟩) rfl rfl rfl (fun l_ vs_ W_ hb_ K hK => ?_)
        refine goes_ Try.func13 (by kernel_rfl) rfl #[.agg sv.toArray] (by rfl) rfl rfl ag_ ?_
        refine (copys_c ((HS.out.below HB0.out).below hb_) HG.out).mono ?_
        rintro e W2 ⟨cv, rfl, hcv, hb⟩
        exact ⟨_, rfl, hK.out _ _ hb ⟨cv, rfl, hcv.kinds.later hb_.size⟩⟩
      · exact ev_box noP 28 rfl rfl rfl rfl (fun _ _ => by first | (go_simp; done) | (go_simp; rfl))
      · exact ev_box noS 42 rfl rfl rfl rfl (fun _ _ => by first | (go_simp; done) | (go_simp; rfl))
    case iC =>
      intro vs col W hb hF_
      obtain ⟨cv, e1, f1⟩ : ∃ cv : List Value, vs 1 = .agg cv.toArray ∧ PgR W1.heap.size (fun k => col k = some 1) W cv p := hF_ (1, 28) (by decide) (by decide)
      obtain ⟨dv, e3, f3⟩ : ∃ dv : List Value, vs 3 = .agg dv.toArray ∧ StK W1.heap.size (fun k => col k = some 3) W dv (toSt u) := hF_ (3, 30) (by decide) (by decide)
      obtain ⟨g7, e4, c4, z4, m4⟩ : ∃ g, vs 4 = .pointer (some ⟨g, 0, none⟩) ∧ col g = some 4 ∧ W1.heap.size ≤ g ∧ W.heap[g]? = some (.cells noP 28 (0, 0)) := hF_ (4, 7) (by decide) (by decide)
      obtain ⟨g8, e5, c5, z5, m5⟩ : ∃ g, vs 5 = .pointer (some ⟨g, 0, none⟩) ∧ col g = some 5 ∧ W1.heap.size ≤ g ∧ W.heap[g]? = some (.cells noS 42 (0, 0)) := hF_ (5, 8) (by decide) (by decide)
      simp only [List.map_cons, List.map_nil]
      rw [e1, e3, e4, e5]
      have hne : g7 ≠ g8 := fun e => by rw [e, c5] at c4; cases c4
      have hn1 : ∀ k, col k = some 1 → k ≠ g7 ∧ k ≠ g8 := fun k hk => ⟨fun e => (by rw [e, c4] at hk; cases hk), fun e => (by rw [e, c5] at hk; cases hk)⟩
      have hn3 : ∀ k, col k = some 3 → k ≠ g7 ∧ k ≠ g8 := fun k hk => ⟨fun e => (by rw [e, c4] at hk; cases hk), fun e => (by rw [e, c5] at hk; cases hk)⟩
      have hz := HB0.out.size
      have h3 := (hb.block _ (blk_lt H30.out)).trans H30.out
      have h4 := (hb.block _ (blk_lt H40.out)).trans H40.out
      have l3 := blk_lt H30.out
      have l4 := blk_lt H40.out
      refine norm_ (a' := ?_) ?_ ?_; rotate_left
      · simp only [putAll, Act.put, List.setIfInBounds_toArray, List.set_cons_zero, List.set_cons_succ]
        rfl
      refine one_ (i := 6) (N := none) #[true, true, true, true, true, true, true, false] rfl rfl (one_of HT_.out (by kernel_rfl)) (by decide) (fun K hK => ?_)
      refine skip_ (w1 := W.setRow g7 cv.toArray) (by rfl) rfl (exec_store_row g7 m4 (pg_info f1.read) (pg_five f1.read) (pg_one f1.read) rfl rfl rfl) ?_
      refine hK.out _ _ ⟨keep_setRow h3 (by omega), keep_setRow h4 (by omega)⟩ (fun hHeld => ?_)
      refine one_ (i := 7) (N := none) #[true, true, true, true, true, true, true, true] rfl rfl (one_of HT_.out (by kernel_rfl)) (by decide) (fun K hK => ?_)
      refine skip_ (w1 := (W.setRow g7 cv.toArray).setRow g8 dv.toArray) (by rfl) rfl (exec_store_row g8 (keep_setRow m5 (Ne.symm hne)) (st_info f3.read) (st_six f3.read) (st_one f3.read) rfl rfl rfl) ?_
      have hb2 : Below W1.heap.size W1 ((W.setRow g7 cv.toArray).setRow g8 dv.toArray) := fresh_setRow (fresh_setRow hb z4 hb.size) z5 (Nat.le_trans hb.size (by unfold World.setRow; simp))
      have hk1 : ∀ k, k ≠ g7 ∧ k ≠ g8 → ((W.setRow g7 cv.toArray).setRow g8 dv.toArray).heap[k]? = W.heap[k]? := fun k hk => (setRow_other _ g8 k _ hk.2).trans (setRow_other _ g7 k _ hk.1)
      refine hK.out _ _ ⟨keep_setRow (keep_setRow h3 (by omega)) (by omega), keep_setRow (keep_setRow h4 (by omega)) (by omega)⟩ (fun hHeld => ?_)
      refine done_ (done_of HT_.out (by kernel_rfl)) ?_
      try go_wp2_with fail
      go_meet
      refine ⟨g7, g8, cv, dv, rfl, rfl, ⟨⟨below_then HB0.out hz hb2, ?_, ?_, ?_, ?_, (HP.out.below HB0.out).below hb2, (HS.out.below HB0.out).below hb2, (f1.move (ok' := fun _ => True) (fun k hk _ => ⟨hk1 k (hn1 k hk), trivial⟩)).read, (f3.move (ok' := fun _ => True) (fun k hk _ => ⟨hk1 k (hn3 k hk), trivial⟩)).read⟩⟩⟩
      · exact keep_setRow (keep_setRow h3 (by omega)) (by omega)
      · exact keep_setRow (keep_setRow h4 (by omega)) (by omega)
      · exact keep_setRow (setRow_heap _ _ _ _ _ _ m4) hne
      · exact setRow_heap _ _ _ _ _ _ (keep_setRow m5 (Ne.symm hne))
  case rest =>
    obtain ⟨g7, g8, cv, dv, rfl, rfl, HM⟩ := hcut
    clear HB0 H30 H40
    obtain ⟨cr, hcr⟩ : ∃ cr, codeA p u.1 u.2.1 u.2.2.1 u.2.2.2.1 u.2.2.2.2.1 u.2.2.2.2.2 = cr := ⟨_, rfl⟩
    have HCR := Aside0.mk hcr
    clear hcr
    have HFA := Aside0.mk (show StFit (stOf (readA p s)) from read_fit HSZ.out)
    have HFX := Aside0.mk (start_fit (p := p))
    obtain ⟨ra, hra⟩ : ∃ ra, readA p s = ra := ⟨_, rfl⟩
    have HRA := Aside0.mk hra
    rw [hra] at HFA
    clear hra
    obtain ⟨rx, hrx⟩ : ∃ rx, startA p = rx := ⟨_, rfl⟩
    have HRX := Aside0.mk hrx
    rw [hrx] at HFX
    clear hrx
    go_upto_region 3 with (first
      | ((with_reducible refine gate_dst (N := 32) rfl ?_); refine wpList_load_row rfl 28 (.tmp 7) rfl g7 rfl 28 _ (0, 0) _ HM.out.b7 hu28 rfl (pg_info HM.out.pc) ?_)
      | ((with_reducible refine gate_dst (N := 33) rfl ?_); refine wpList_load_row rfl 42 (.tmp 8) rfl g8 rfl 42 _ (0, 0) _ HM.out.b8 hu42 rfl (st_info HM.out.sd) ?_)
      | (go_at_call 14; (with_reducible refine (code_w HCR.out HM.out.pc HM.out.sd HZ.out HN.out).mono ?_); rintro e w2 ⟨rfl, hb2⟩; have HM2 := Aside0.mk (HM.out.later hb2); clear hb2))
    clear HM
    go_upto_region 4 with (first
      | ((with_reducible refine gate_dst (N := 38) rfl ?_); refine wpList_load_row rfl 28 (.tmp 3) rfl w.heap.size rfl 28 _ (0, 0) _ HM2.out.b3 hu28 rfl (pg_info HM2.out.pp) ?_)
      | ((with_reducible refine gate_dst (N := 39) rfl ?_); refine wpList_load_row rfl 42 (.tmp 4) rfl (w.heap.size + 1) rfl 42 _ (0, 0) _ HM2.out.b4 hu42 rfl (st_info HM2.out.ss) ?_)
      | (go_at_call 15; (with_reducible refine (rcode_w HCR.out HM2.out.pp HM2.out.ss HZ.out HV.out HN.out).mono ?_); rintro e w3 ⟨rfl, hb3⟩; have HM := Aside0.mk (HM2.out.later hb3); clear hb3))
    clear HM2
    have HM3 := HM
    have KW := Aside0.mk (Below.refl w3.heap.size w3)
    go_upto_region 5 with (first
      | ((with_reducible refine gate_dst (N := 44) rfl ?_); refine wpList_load_row rfl 28 (.tmp 7) rfl g7 rfl 28 _ (0, 0) _ HM.out.b7 hu28 rfl (pg_info HM.out.pc) ?_)
      | (go_at_call 16; (with_reducible refine (read_c HM.out.pc len_p (valid_prog HZ.out) HSZ.out).mono ?_); rintro e w14 ⟨av, rfl, ha, hba⟩; rw [HRA.out] at ha; simp only [HRA.out]; have HH := Aside0.mk ha; have HBB := Aside0.mk hba; have HSH := Aside0.mk ha.shape; clear ha hba)
      | (refine wpList_store_row rfl 42 (.tmp 13) (.tmp 47) rfl w14.heap.size av.toArray rfl rfl 42 _ (heap_alloc_new w14 _) HSH.out.1 HSH.out.2.1 HSH.out.2.2 ?_))
    have hm := box_made #[.slice none 0 0, .slice none 0 0, .slice none 0 0, .slice none 0 0, .slice none 0 0, .int .i64 0] HH.out HBB.out
    have hga := HBB.out.size
    have KW2 := Aside0.mk (below_thenW KW.out hm.2)
    clear KW
    have KW := KW2
    clear KW2
    have HM2 := Aside0.mk (HM.out.later hm.2)
    clear HM
    have HM := HM2
    clear HM2
    have HA := Aside0.mk hm.1
    clear hm HH HBB HSH
    generalize hW : World.setRow _ _ _ = Wa at HM KW  HA ⊢
    clear hW
    generalize hG : w14.heap.size = ga at HA hga ⊢
    clear hG
    go_upto_region 6 with (first
      | ((with_reducible refine gate_dst (N := 50) rfl ?_); refine wpList_load_row rfl 28 (.tmp 7) rfl g7 rfl 28 _ (0, 0) _ HM.out.b7 hu28 rfl (pg_info HM.out.pc) ?_)
      | (go_at_call 16; (with_reducible refine (read_c HM.out.pc len_p (valid_prog HZ.out) HSZ.out).mono ?_); rintro e w15 ⟨bv, rfl, hb, hbb⟩; rw [HRA.out] at hb; simp only [HRA.out]; have HH := Aside0.mk hb; have HBB := Aside0.mk hbb; have HSH := Aside0.mk hb.shape; clear hb hbb)
      | (refine wpList_store_row rfl 42 (.tmp 15) (.tmp 53) rfl w15.heap.size bv.toArray rfl rfl 42 _ (heap_alloc_new w15 _) HSH.out.1 HSH.out.2.1 HSH.out.2.2 ?_))
    have hm := box_made #[.slice none 0 0, .slice none 0 0, .slice none 0 0, .slice none 0 0, .slice none 0 0, .int .i64 0] HH.out HBB.out
    have hgb := HBB.out.size
    have KW2 := Aside0.mk (below_thenW KW.out hm.2)
    clear KW
    have KW := KW2
    clear KW2
    have HM2 := Aside0.mk (HM.out.later hm.2)
    clear HM
    have HM := HM2
    clear HM2
    have HA2 := Aside0.mk (HA.out.later hm.2)
    have hlAb := blk_lt HA.out.box
    clear HA
    have HA := HA2
    clear HA2
    have HB := Aside0.mk hm.1
    clear hm HH HBB HSH
    generalize hW : World.setRow _ _ _ = Wb at HM KW HA HB ⊢
    clear hW
    generalize hG : w15.heap.size = gb at HB hgb ⊢
    clear hG
    go_upto_region 7 with (first
      | ((with_reducible refine gate_dst (N := 56) rfl ?_); refine wpList_load_row rfl 28 (.tmp 3) rfl w.heap.size rfl 28 _ (0, 0) _ HM.out.b3 hu28 rfl (pg_info HM.out.pp) ?_)
      | (go_at_call 17; (with_reducible refine (rread_c HM.out.pp len_p HV.out HSZ.out).mono ?_); rintro e w16 ⟨nv, rfl, hn, hbn⟩; rw [HRA.out] at hn; simp only [HRA.out]; have HH := Aside0.mk hn; have HBB := Aside0.mk hbn; have HSH := Aside0.mk hn.shape; clear hn hbn)
      | (refine wpList_store_row rfl 42 (.tmp 17) (.tmp 59) rfl w16.heap.size nv.toArray rfl rfl 42 _ (heap_alloc_new w16 _) HSH.out.1 HSH.out.2.1 HSH.out.2.2 ?_))
    have hm := box_made #[.slice none 0 0, .slice none 0 0, .slice none 0 0, .slice none 0 0, .slice none 0 0, .int .i64 0] HH.out HBB.out
    have hgn := HBB.out.size
    have KW2 := Aside0.mk (below_thenW KW.out hm.2)
    clear KW
    have KW := KW2
    clear KW2
    have HM2 := Aside0.mk (HM.out.later hm.2)
    clear HM
    have HM := HM2
    clear HM2
    have HA2 := Aside0.mk (HA.out.later hm.2)
    have hlAn := blk_lt HA.out.box
    clear HA
    have HA := HA2
    clear HA2
    have HB2 := Aside0.mk (HB.out.later hm.2)
    have hlBn := blk_lt HB.out.box
    clear HB
    have HB := HB2
    clear HB2
    have HN := Aside0.mk hm.1
    clear hm HH HBB HSH
    generalize hW : World.setRow _ _ _ = Wn at HM KW HA HB HN ⊢
    clear hW
    generalize hG : w16.heap.size = gn at HN hgn ⊢
    clear hG
    go_upto_region 8 with (first
      | ((with_reducible refine gate_dst (N := 62) rfl ?_); refine wpList_load_row rfl 28 (.tmp 7) rfl g7 rfl 28 _ (0, 0) _ HM.out.b7 hu28 rfl (pg_info HM.out.pc) ?_)
      | (go_at_call 18; (with_reducible refine (start_c HM.out.pc HZ.out).mono ?_); rintro e w17 ⟨xv, rfl, hx, hbx⟩; rw [HRX.out] at hx; simp only [HRX.out]; have HH := Aside0.mk hx; have HBB := Aside0.mk hbx; have HSH := Aside0.mk hx.shape; clear hx hbx)
      | (refine wpList_store_row rfl 42 (.tmp 19) (.tmp 64) rfl w17.heap.size xv.toArray rfl rfl 42 _ (heap_alloc_new w17 _) HSH.out.1 HSH.out.2.1 HSH.out.2.2 ?_))
    have hm := box_made #[.slice none 0 0, .slice none 0 0, .slice none 0 0, .slice none 0 0, .slice none 0 0, .int .i64 0] HH.out HBB.out
    have hgx := HBB.out.size
    have KW2 := Aside0.mk (below_thenW KW.out hm.2)
    clear KW
    have KW := KW2
    clear KW2
    have HM2 := Aside0.mk (HM.out.later hm.2)
    clear HM
    have HM := HM2
    clear HM2
    have HA2 := Aside0.mk (HA.out.later hm.2)
    have hlAx := blk_lt HA.out.box
    clear HA
    have HA := HA2
    clear HA2
    have HB2 := Aside0.mk (HB.out.later hm.2)
    have hlBx := blk_lt HB.out.box
    clear HB
    have HB := HB2
    clear HB2
    have HN2 := Aside0.mk (HN.out.later hm.2)
    have hlNx := blk_lt HN.out.box
    clear HN
    have HN := HN2
    clear HN2
    have HX := Aside0.mk hm.1
    clear hm HH HBB HSH
    generalize hW : World.setRow _ _ _ = Wx at HM KW HA HB HN HX ⊢
    clear hW
    generalize hG : w17.heap.size = gx at HX hgx ⊢
    clear hG
    go_upto_region 9 with (first
      | ((with_reducible refine gate_dst (N := 67) rfl ?_); refine wpList_load_row rfl 28 (.tmp 3) rfl w.heap.size rfl 28 _ (0, 0) _ HM.out.b3 hu28 rfl (pg_info HM.out.pp) ?_)
      | (go_at_call 19; (with_reducible refine (rstart_c HM.out.pp HV.out).mono ?_); rintro e w18 ⟨yv, rfl, hy, hby⟩; rw [HRX.out] at hy; simp only [HRX.out]; have HH := Aside0.mk hy; have HBB := Aside0.mk hby; have HSH := Aside0.mk hy.shape; clear hy hby)
      | (refine wpList_store_row rfl 42 (.tmp 21) (.tmp 69) rfl w18.heap.size yv.toArray rfl rfl 42 _ (heap_alloc_new w18 _) HSH.out.1 HSH.out.2.1 HSH.out.2.2 ?_))
    have hm := box_made #[.slice none 0 0, .slice none 0 0, .slice none 0 0, .slice none 0 0, .slice none 0 0, .int .i64 0] HH.out HBB.out
    have hgy := HBB.out.size
    have KW2 := Aside0.mk (below_thenW KW.out hm.2)
    clear KW
    have KW := KW2
    clear KW2
    have HM2 := Aside0.mk (HM.out.later hm.2)
    clear HM
    have HM := HM2
    clear HM2
    have HA2 := Aside0.mk (HA.out.later hm.2)
    have hlAy := blk_lt HA.out.box
    clear HA
    have HA := HA2
    clear HA2
    have HB2 := Aside0.mk (HB.out.later hm.2)
    have hlBy := blk_lt HB.out.box
    clear HB
    have HB := HB2
    clear HB2
    have HN2 := Aside0.mk (HN.out.later hm.2)
    have hlNy := blk_lt HN.out.box
    clear HN
    have HN := HN2
    clear HN2
    have HX2 := Aside0.mk (HX.out.later hm.2)
    have hlXy := blk_lt HX.out.box
    clear HX
    have HX := HX2
    clear HX2
    have HY := Aside0.mk hm.1
    clear hm HH HBB HSH
    generalize hW : World.setRow _ _ _ = Wy at HM KW HA HB HN HX HY ⊢
    clear hW
    generalize hG : w18.heap.size = gy at HY hgy ⊢
    clear hG
    have KB := Aside0.mk (Below.refl Wy.heap.size Wy)
    go_upto_region 11 with (first
      | ((with_reducible refine gate_dst (N := 80) rfl ?_); (try (refine gate_guard (by rfl) ?_; dsimp only)); refine wpList_load_row rfl 42 (.tmp 13) rfl ga rfl 42 _ (0, 0) _ (HA.out.later KB.out).box hu42 rfl (st_info HA.out.st.read) ?_)
      | ((with_reducible refine gate_dst (N := 81) rfl ?_); (try (refine gate_guard (by rfl) ?_; dsimp only)); refine wpList_load_row rfl 42 (.tmp 17) rfl gn rfl 42 _ (0, 0) _ (HN.out.later KB.out).box hu42 rfl (st_info HN.out.st.read) ?_))
    refine (same_c (HA.out.later KB.out).st.read (HN.out.later KB.out).st.read HFA.out).mono ?_
    rintro e w82 ⟨rfl, hb_⟩
    have KB2 := Aside0.mk (below_thenW KB.out hb_)
    clear KB hb_
    have KB := KB2
    clear KB2
    go_upto_region 11 with (first
      | ((with_reducible refine gate_dst (N := 86) rfl ?_); (try (refine gate_guard (by rfl) ?_; dsimp only)); refine wpList_load_row rfl 42 (.tmp 15) rfl gb rfl 42 _ (0, 0) _ (HB.out.later KB.out).box hu42 rfl (st_info HB.out.st.read) ?_)
      | ((with_reducible refine gate_dst (N := 87) rfl ?_); (try (refine gate_guard (by rfl) ?_; dsimp only)); refine wpList_load_row rfl 42 (.tmp 17) rfl gn rfl 42 _ (0, 0) _ (HN.out.later KB.out).box hu42 rfl (st_info HN.out.st.read) ?_))
    refine (same_c (HB.out.later KB.out).st.read (HN.out.later KB.out).st.read HFA.out).mono ?_
    rintro e w88 ⟨rfl, hb_⟩
    have KB2 := Aside0.mk (below_thenW KB.out hb_)
    clear KB hb_
    have KB := KB2
    clear KB2
    go_upto_region 11 with (first
      | ((with_reducible refine gate_dst (N := 97) rfl ?_); (try (refine gate_guard (by rfl) ?_; dsimp only)); refine wpList_load_row rfl 42 (.tmp 19) rfl gx rfl 42 _ (0, 0) _ (HX.out.later KB.out).box hu42 rfl (st_info HX.out.st.read) ?_)
      | ((with_reducible refine gate_dst (N := 98) rfl ?_); (try (refine gate_guard (by rfl) ?_; dsimp only)); refine wpList_load_row rfl 42 (.tmp 21) rfl gy rfl 42 _ (0, 0) _ (HY.out.later KB.out).box hu42 rfl (st_info HY.out.st.read) ?_))
    refine (same_c (HX.out.later KB.out).st.read (HY.out.later KB.out).st.read HFX.out).mono ?_
    rintro e w99 ⟨rfl, hb_⟩
    have KB2 := Aside0.mk (below_thenW KB.out hb_)
    clear KB hb_
    have KB := KB2
    clear KB2
    go_upto_region 11 with (first
      | ((with_reducible refine gate_dst (N := 108) rfl ?_); (try (refine gate_guard (by rfl) ?_; dsimp only)); refine wpList_load_row rfl 28 (.tmp 7) rfl g7 rfl 28 _ (0, 0) _ (HM.out.later KB.out).b7 hu28 rfl (pg_info HM.out.pc) ?_)
      | ((with_reducible refine gate_dst (N := 109) rfl ?_); (try (refine gate_guard (by rfl) ?_; dsimp only)); refine wpList_load_row rfl 28 (.tmp 3) rfl w.heap.size rfl 28 _ (0, 0) _ (HM.out.later KB.out).b3 hu28 rfl (pg_info HM.out.pp) ?_))
    refine (samep_c (HM.out.later KB.out).pc (HM.out.later KB.out).pp HF_P.out).mono ?_
    rintro e w110 ⟨rfl, hb_⟩
    have KB2 := Aside0.mk (below_thenW KB.out hb_)
    clear KB hb_
    have KB := KB2
    clear KB2
    go_upto_region 11 with (first
      | ((with_reducible refine gate_dst (N := 114) rfl ?_); (try (refine gate_guard (by rfl) ?_; dsimp only)); refine wpList_load_row rfl 42 (.tmp 8) rfl g8 rfl 42 _ (0, 0) _ (HM.out.later KB.out).b8 hu42 rfl (st_info HM.out.sd) ?_)
      | ((with_reducible refine gate_dst (N := 115) rfl ?_); (try (refine gate_guard (by rfl) ?_; dsimp only)); refine wpList_load_row rfl 42 (.tmp 4) rfl (w.heap.size + 1) rfl 42 _ (0, 0) _ (HM.out.later KB.out).b4 hu42 rfl (st_info HM.out.ss) ?_))
    refine (same_c (HM.out.later KB.out).sd (HM.out.later KB.out).ss HG.out).mono ?_
    rintro e w116 ⟨rfl, hb_⟩
    have KB2 := Aside0.mk (below_thenW KB.out hb_)
    clear KB hb_
    have KB := KB2
    clear KB2
    go_upto_region 11 with fail
    have hA := HA.out.later KB.out
    have hB := HB.out.later KB.out
    have hN := HN.out.later KB.out
    have hX := HX.out.later KB.out
    have hlen : (stOf ra).2.2.1.length = (stOf ra).1.length ∧ (stOf ra).2.2.2.2.1.length = (stOf ra).1.length := by rw [← HRA.out]; exact read_len HSZ.out
    have hsz : w116.heap.size ≥ Wy.heap.size := KB.out.size
    have hgY := blk_lt HY.out.box
    have ho1 : ∀ k, k < w3.heap.size → ¬ ((w3.heap.size ≤ k ∧ k < ga) ∨ (Wn.heap.size ≤ k ∧ k < gx) ∨ w116.heap.size ≤ k) := fun k hk => by omega
    have hoa : ¬ ((w3.heap.size ≤ ga ∧ ga < ga) ∨ (Wn.heap.size ≤ ga ∧ ga < gx) ∨ w116.heap.size ≤ ga) := by omega
    have hox : ¬ ((w3.heap.size ≤ gx ∧ gx < ga) ∨ (Wn.heap.size ≤ gx ∧ gx < gx) ∨ w116.heap.size ≤ gx) := by omega
    have hob : ∀ k, Wa.heap.size ≤ k → k ≤ gb → ¬ ((w3.heap.size ≤ k ∧ k < ga) ∨ (Wn.heap.size ≤ k ∧ k < gx) ∨ w116.heap.size ≤ k) := fun k h1 h2 => by omega
    have hon : ∀ k, Wb.heap.size ≤ k → k ≤ gn → ¬ ((w3.heap.size ≤ k ∧ k < ga) ∨ (Wn.heap.size ≤ k ∧ k < gx) ∨ w116.heap.size ≤ k) := fun k h1 h2 => by omega
    have hBW : w3.heap.size ≤ w116.heap.size := Nat.le_trans KW.out.size hsz
    obtain ⟨own, hown⟩ : ∃ own : Nat → Prop, own = fun k => (w3.heap.size ≤ k ∧ k < ga) ∨ (Wn.heap.size ≤ k ∧ k < gx) ∨ w116.heap.size ≤ k := ⟨_, rfl⟩
    have O1 : Aside0 (∀ k, k < w3.heap.size → ¬ own k) := ⟨by rw [hown]; exact ho1⟩
    have OA : Aside0 (¬ own ga) := ⟨by rw [hown]; exact hoa⟩
    have OX : Aside0 (¬ own gx) := ⟨by rw [hown]; exact hox⟩
    have OB : Aside0 (∀ k, Wa.heap.size ≤ k → k ≤ gb → ¬ own k) := ⟨by rw [hown]; exact hob⟩
    have ON : Aside0 (∀ k, Wb.heap.size ≤ k → k ≤ gn → ¬ own k) := ⟨by rw [hown]; exact hon⟩
    obtain ⟨v0, v1, v2, v3, v4, x0, x1, x2, x3, x4, vrs, bfx, hav, hxv, hC, hL⟩ := loose_open (own := own) hA.st hX.st hlen.1 hlen.2 HFA.out.bfs (fun k h1 h2 => by rw [hown]; exact .inl ⟨h1, h2⟩) (fun k h1 h2 => by rw [hown]; exact .inr (.inl ⟨h1, h2⟩)) (fun k h1 => by rw [hown]; exact .inr (.inr h1))
    have hp64 := HFA.out.p
    have hm64 := HFA.out.me
    have hx64 := HFX.out.me
    have hrg64 := HFA.out.rgs
    have BXA := hA.box
    have BXX := hX.box
    rw [hav] at BXA
    rw [hxv] at BXX
    have HBA := Aside0.mk BXA
    have HBX := Aside0.mk BXX
    have HBB := Aside0.mk hB
    have HBN := Aside0.mk hN
    have HC := Aside0.mk hC
    have KW3 := Aside0.mk (below_thenW KW.out KB.out)
    have HBW := Aside0.mk hBW
    have HR64 := Aside0.mk hrg64
    clear hA hB hN hX hlen hsz hgY ho1 hoa hox hob hon hown hav hxv BXA BXX hC HA HB HN HX HY KW KB hgx hlAx hlBx hlNx hgn hlAn hlBn hgb hlAb hga hgy hlAy hlBy hlNy hlXy hBW hrg64 HM
    obtain ⟨n, hn⟩ : ∃ n, (stOf ra).1.length = n := ⟨_, rfl⟩
    obtain ⟨nm, hnm⟩ : ∃ n, (stOf ra).2.2.2.1.length = n := ⟨_, rfl⟩
    obtain ⟨nx, hnx⟩ : ∃ n, (stOf rx).2.2.2.1.length = n := ⟨_, rfl⟩
    obtain ⟨rg, hrg⟩ : ∃ l, (stOf ra).2.2.1 = l := ⟨_, rfl⟩
    obtain ⟨bf, hbf⟩ : ∃ l, (stOf ra).2.2.2.2.1 = l := ⟨_, rfl⟩
    have hL2 : Loose own w3.heap.size v0 v2 v3 v4 x3 vrs bfx rg bf n nm nx 0 0 w116 := by rw [← hn, ← hnm, ← hnx, ← hrg, ← hbf]; exact hL
    have HC2 : Aside0 (LooseC own w116 vrs bfx rg bf n) := ⟨by rw [← hn, ← hrg, ← hbf]; exact HC.out⟩
    have HR2 : Aside0 (∀ x ∈ rg, x.length < 17592186044416) := ⟨by rw [← hrg]; exact HR64.out⟩
    rw [show (toSt (stOf ra)).lk = (stOf ra).2.2.2.2.2 from rfl] at HBA
    have hn2 : n ≤ 9223372036854775807 := by rw [← hn]; omega
    have hm2 : nm ≤ 9223372036854775807 := by rw [← hnm]; omega
    have hx2 : nx ≤ 9223372036854775807 := by rw [← hnx]; omega
    have HN2 := Aside0.mk hn2
    have HM2 := Aside0.mk hm2
    have HX2 := Aside0.mk hx2
    clear hn hnm hnx hrg hbf hL HC HR64 hp64 hm64 hx64 hn2 hm2 hx2
    obtain ⟨A0, c0, rfl⟩ := hL2.pc.slice
    obtain ⟨A2, c2, rfl⟩ := hL2.rs.slice
    obtain ⟨A3, c3, rfl⟩ := hL2.me.slice
    obtain ⟨A4, c4, rfl⟩ := hL2.bs.slice
    obtain ⟨A5, c5, rfl⟩ := hL2.xm.slice
    have HL := Aside0.mk hL2
    clear hL2
    go_wp2
    go_loopw [23] (fun v W => ∃ j : Nat, v = .int .i64 j ∧ j ≤ nm ∧ Aside0 (Loose own w3.heap.size (.slice A0 n c0) (.slice A2 n c2) (.slice A3 nm c3) (.slice A4 n c4) (.slice A5 nx c5) vrs bfx rg bf n nm nx 0 0 W) ∧ Aside0 (Fr own w116 W)) (fun v _ => nm - (intOf v).toNat)
    case atStart => exact ⟨0, rfl, Nat.zero_le _, HL, ⟨Fr.refl _ _⟩⟩
    case round =>
      clear HL
      obtain ⟨j, rfl, hj, HL, HF⟩ := hrel
      have hbx := HF.out.keep HBA.out OA.out
      have b3 : wr.cell? ⟨ga, 3, none⟩ = some (.slice A3 nm c3) := (blk_cell hbx 3).trans rfl
      clear hbx
      by_cases hlt : j < nm
      · obtain ⟨gm, cm, cs, x, e, ho, hh, hc, hf⟩ := HL.out.me.at hlt
        simp only [Value.slice.injEq, true_and] at e
        obtain ⟨rfl, rfl⟩ := e
        have HO := Aside0.mk ho
        have HH := Aside0.mk hh
        have HJ := Aside0.mk hlt
        have hw := wrap_nat hlt HM2.out
        clear ho hh
        go_wp2_with fail
        go_roundw
        case rel => exact ⟨j + 1, by rw [hw], HJ.out, ⟨HL.out.setNum HH.out (.inl rfl) j _⟩, ⟨HF.out.set HO.out j _⟩⟩
        case measure => rw [hw]; exact sub_succ2 HJ.out
      · go_wp2_with fail
        go_loopw [24] (fun v W => ∃ j : Nat, v = .int .i64 j ∧ j ≤ n ∧ Aside0 (Loose own w3.heap.size (.slice A0 n c0) (.slice A2 n c2) (.slice A3 nm c3) (.slice A4 n c4) (.slice A5 nx c5) vrs bfx rg bf n nm nx j j W) ∧ Aside0 (Fr own w116 W)) (fun v _ => n - (intOf v).toNat)
        case atStart => exact ⟨0, rfl, Nat.zero_le _, HL, HF⟩
        case round =>
          clear HL HF b3 hlt hj
          obtain ⟨j, rfl, hj, HL, HF⟩ := hrel
          have hbx := HF.out.keep HBA.out OA.out
          have b0 : wr.cell? ⟨ga, 0, none⟩ = some (.slice A0 n c0) := (blk_cell hbx 0).trans rfl
          by_cases hlt : j < n
          · obtain ⟨gp, cp, cs, x, e, ho, hh, hc, hf⟩ := HL.out.pc.at hlt
            simp only [Value.slice.injEq, true_and] at e
            obtain ⟨rfl, rfl⟩ := e
            have HL2 := Aside0.mk (HL.out.setNum hh (.inr rfl) j (wrap64 (x + 1)))
            have HF2 := Aside0.mk (HF.out.set ho j (.int .i64 (wrap64 (x + 1))))
            have HJ := Aside0.mk hlt
            have hw := wrap_nat hlt HN2.out
            clear ho hh hbx HL HF
            go_upto_region 19 with fail
            generalize World.setCell _ _ _ = W2 at HL2 HF2 ⊢
            clear hc hf b0
            replace HL2 := Aside0.mk HL2.out.drew
            replace HF2 := Aside0.mk HF2.out.drew
            obtain ⟨gq, cq, cs, u', e, ho, hh, hu', hc, hf⟩ := HL2.out.bs.at (Nat.le_refl j) HJ.out HC2.out.lb.symm
            simp only [Value.slice.injEq, true_and] at e
            obtain ⟨rfl, rfl⟩ := e
            obtain ⟨y, hy⟩ : ∃ y, bf[j]? = some y := ⟨_, List.getElem?_eq_getElem (by rw [HC2.out.lf]; exact HJ.out)⟩
            have hr := HL2.out.br j u' y (Nat.le_refl j) hu' hy
            obtain ⟨Au, cu, rfl⟩ := Kd.R_slice hr
            have HRR := Aside0.mk hr
            have HU := Aside0.mk hu'
            have HY := Aside0.mk hy
            have hbx := HF2.out.keep HBA.out OA.out
            have b4 : W2.drew.cell? ⟨ga, 4, none⟩ = some (.slice (some ⟨gq, 0, none⟩) n c4) := (blk_cell hbx 4).trans rfl
            have HO := Aside0.mk ho
            have hoff := hf
            clear hbx hr hu' hy hh ho hf
            refine start_ (n := 13) (S := fun w' => w'.cell? ⟨ga, 4, none⟩ = some (.slice (some ⟨gq, 0, none⟩) n c4) ∧ w'.cell? ⟨gq, j, none⟩ = some (.slice Au y.length cu)) (ds := [12]) #[false, false, false, false, false, false, false, false, false, false, false, false, false] (by kernel_rfl) rfl rfl ⟨b4, hc⟩ (fun hHeld => ?_); refine with_tabW codes_tab19 codes_bits19 (fun HT_ HW_ => ?_)
            clear b4 hc hoff
            generalize W2.drew = W3 at HL2 HF2 HRR hHeld ⊢
            refine pu_ 0 147 ?_
            refine pu_ 2 149 ?_
            refine pu_ 3 150 ?_
            refine pu_ 5 152 ?_
            refine pu_ 8 155 ?_
            refine ta_ 1 148 ?_ hHeld
            refine ta_ 4 151 ?_ hHeld
            refine pu_ 6 153 ?_
            refine ta_ 7 154 ?_ hHeld
            refine li_ (e := 59) (cs := [.int .i64 (-1), .int .i64 0].toArray) 9 156 ⟨((below_alloc (Below.refl W3.heap.size W3) _).cell (World.block_lt_of_cell? W3 _ hHeld.1)).trans hHeld.1, ((below_alloc (Below.refl W3.heap.size W3) _).cell (World.block_lt_of_cell? W3 _ hHeld.2)).trans hHeld.2⟩ ?_
            refine on_ 10 157 (fun K hK => ?_)
            refine Kd.R_append_step k59 (w0 := W3) w3.heap.size (by rfl) (.tmp 154) (.tmp 156) 57 59 (.agg #[(.int .i64 0), (.int .i64 0)]) 16 rfl Try.underlying57 info59 rfl (by decide) (by omega) (.slice Au y.length cu) y (⟨-1, 0⟩ : S59) [.int .i64 (-1), .int .i64 0] (fun _ => True) (fun _ => False) rfl rfl (k59_mkM _ _ _ (⟨-1, 0⟩ : S59)) (fun _ hk => hk.elim) (fun _ _ => trivial) (Kd.R_mono HRR.out (fun _ _ => trivial)) (Below.refl _ _) ?aS ?aL ?_
            case aS => exact Nat.le_trans HBW.out HF2.out.size
            case aL => have := HC2.out.sm y (List.mem_of_getElem? HY.out); omega
            intro v1 w1 hr1 _ hg1 _
            obtain ⟨A1, c1, rfl⟩ := Kd.R_slice hr1
            have HL4 := Aside0.mk (HL2.out.grown HC2.out HU.out HY.out hg1)
            have HF4 := Aside0.mk (HF2.out.grown hg1 (fun k hk => HC2.out.bo _ (List.mem_of_getElem? HU.out) k hk))
            clear hr1 hg1 hHeld
            obtain ⟨gq2, cq2, cs2, u2, e, ho, hh, hu2, hc, hf⟩ := HL4.out.bs.at (Nat.le_refl j) HJ.out HC2.out.lb.symm
            simp only [Value.slice.injEq, true_and, Option.some.injEq, Addr.mk.injEq, and_true] at e
            obtain ⟨rfl, rfl⟩ := e
            obtain rfl := Option.some.inj (hu2.symm.trans HU.out)
            have hbx := HF4.out.keep HBA.out OA.out
            have b4 : w1.cell? ⟨ga, 4, none⟩ = some (.slice (some ⟨gq, 0, none⟩) n c4) := (blk_cell hbx 4).trans rfl
            refine hK.out _ _ ⟨b4, hc⟩ (fun hHeld => ?_)
            clear hK K
            refine nm_ 157 ?_
            refine pu_ 11 158 ?_
            refine last_ (i := 12) (N := none) #[true, true, true, true, true, true, true, true, true, true, true, true, true] rfl rfl (one_of HT_.out (by kernel_rfl)) (by decide) (fun K hK => ?_)
            refine skip_ (w1 := w1.setCell ⟨gq, j, none⟩ (.slice A1 (y.length + 1) c1)) (by rfl) rfl ?hr12 ?hk12
            case hr12 => first | (go_simp; done) | (go_simp; rfl)
            have HL5 := Aside0.mk (HL4.out.putB rfl hh (.slice A1 (y.length + 1) c1))
            have HF5 := Aside0.mk (HF4.out.set ho j (.slice A1 (y.length + 1) c1))
            refine hK.out _ _ ?_
            refine done_ (done_of HT_.out (by kernel_rfl)) ?_
            clear hK K HL2 HF2 HRR HL4 HF4 hHeld b4 hc hf hh ho hbx
            generalize World.setCell _ _ _ = W5 at HL5 HF5 ⊢
            obtain ⟨ur, hur⟩ : ∃ ur, vrs[j]? = some ur := ⟨_, List.getElem?_eq_getElem (by rw [HC2.out.lr]; exact HJ.out)⟩
            obtain ⟨xr, hxr⟩ : ∃ xr, rg[j]? = some xr := ⟨_, List.getElem?_eq_getElem (by rw [HC2.out.lg]; exact HJ.out)⟩
            obtain ⟨Ar, cr2, rfl⟩ := (HL5.out.rr j ur xr hur hxr).slice
            have HUR := Aside0.mk hur
            have HXR := Aside0.mk hxr
            have HXL := Aside0.mk (Nat.le_of_lt (Nat.lt_of_lt_of_le (HR2.out xr (List.mem_of_getElem? hxr)) (by decide : 17592186044416 ≤ 9223372036854775807)))
            clear hur hxr
            obtain ⟨nr, hnr⟩ : ∃ k, xr.length = k := ⟨_, rfl⟩
            have HNR := Aside0.mk hnr
            rw [hnr] at HXL HUR
            clear hnr
            go_wp2
            go_loopw [25] (fun v W => ∃ m : Nat, v = .int .i64 m ∧ m ≤ nr ∧ Aside0 (Loose own w3.heap.size (.slice (some ⟨gp, 0, none⟩) n c0) (.slice A2 n c2) (.slice A3 nm c3) (.slice (some ⟨gq, 0, none⟩) n c4) (.slice A5 nx c5) vrs bfx rg bf n nm nx (j + 1) (j + 1) W) ∧ Aside0 (Fr own w116 W)) (fun v _ => nr - (intOf v).toNat)
            case atStart => exact ⟨0, rfl, Nat.zero_le _, HL5, HF5⟩
            case round =>
              clear HL5 HF5
              obtain ⟨m, rfl, hm, HL, HF⟩ := hrel
              have hbx := HF.out.keep HBA.out OA.out
              have b2 : wr.cell? ⟨ga, 2, none⟩ = some (.slice A2 n c2) := (blk_cell hbx 2).trans rfl
              obtain ⟨gs, cs1, css, us, e, ho, hh, hus, hcs, _⟩ := HL.out.rs.at (Nat.zero_le j) HJ.out HC2.out.lr.symm
              simp only [Value.slice.injEq, true_and] at e
              obtain ⟨rfl, rfl⟩ := e
              obtain rfl := Option.some.inj (hus.symm.trans HUR.out)
              clear hbx ho hh hus
              have hlj := HJ.out
              by_cases hlm : m < nr
              · obtain ⟨gm, cm, cs, x, e, ho, hh, hc, hf⟩ := (HL.out.rr j _ xr HUR.out HXR.out).at (by rw [HNR.out]; exact hlm)
                simp only [Value.slice.injEq, HNR.out, true_and] at e
                obtain ⟨rfl, rfl⟩ := e
                have HO := Aside0.mk ho
                have HH := Aside0.mk hh
                have HJM := Aside0.mk hlm
                have hwm := wrap_nat hlm HXL.out
                clear ho hh
                go_wp2_with fail
                go_roundw
                case rel => exact ⟨m + 1, by rw [hwm], HJM.out, ⟨HL.out.setNum HH.out (.inl rfl) m _⟩, ⟨HF.out.set HO.out m _⟩⟩
                case measure => rw [hwm]; exact sub_succ2 HJM.out
              · go_wp2_with fail
                go_roundw
                case rel => exact ⟨j + 1, by rw [hw], HJ.out, HL, HF⟩
                case measure => rw [hw]; exact sub_succ2 HJ.out
          · go_wp2_with fail
            go_loopw [26] (fun v W => ∃ j : Nat, v = .int .i64 j ∧ j ≤ nx ∧ Aside0 (∃ i, Loose own w3.heap.size (.slice A0 n c0) (.slice A2 n c2) (.slice A3 nm c3) (.slice A4 n c4) (.slice A5 nx c5) vrs bfx rg bf n nm nx i i W) ∧ Aside0 (Fr own w116 W)) (fun v _ => nx - (intOf v).toNat)
            case atStart => exact ⟨0, rfl, Nat.zero_le _, ⟨_, HL.out⟩, HF⟩
            case round =>
              clear HL HF b0 hlt hj hbx
              obtain ⟨j, rfl, hj, HLE, HF⟩ := hrel
              obtain ⟨i, hLi⟩ := HLE.out
              have HL := Aside0.mk hLi
              have hbx := HF.out.keep HBX.out OX.out
              have b3 : wr.cell? ⟨gx, 3, none⟩ = some (.slice A5 nx c5) := (blk_cell hbx 3).trans rfl
              clear hbx hLi HLE
              by_cases hlt : j < nx
              · obtain ⟨gm, cm, cs, x, e, ho, hh, hc, hf⟩ := HL.out.xm.at hlt
                simp only [Value.slice.injEq, true_and] at e
                obtain ⟨rfl, rfl⟩ := e
                have HO := Aside0.mk ho
                have HH := Aside0.mk hh
                have HJ := Aside0.mk hlt
                have hw := wrap_nat hlt HX2.out
                clear ho hh
                go_wp2_with fail
                go_roundw
                case rel => exact ⟨j + 1, by rw [hw], HJ.out, ⟨i, HL.out.setNum HH.out (.inl rfl) j _⟩, ⟨HF.out.set HO.out j _⟩⟩
                case measure => rw [hw]; exact sub_succ2 HJ.out
              · have hkb : Below w3.heap.size w3 wr := below_at KW3.out (HF.out.below O1.out HBW.out)
                have hM := HM3.out.later hkb
                have hB := HBB.out.keep HF.out OB.out
                have hN := HBN.out.keep HF.out ON.out
                have KB := Aside0.mk (Below.refl wr.heap.size wr)
                have HM := Aside0.mk hM
                have HB := Aside0.mk hB
                have HN := Aside0.mk hN
                clear hM hB hN hkb HL
                go_upto_region 28 with fail
                go_wp2_with (first
                  | ((with_reducible refine gate_dst (N := 190) rfl ?_); refine wpList_load_row rfl 42 (.tmp 15) rfl gb rfl 42 _ (0, 0) _ HB.out.box hu42 rfl (st_info HB.out.st.read) ?_)
                  | ((with_reducible refine gate_dst (N := 191) rfl ?_); refine wpList_load_row rfl 42 (.tmp 17) rfl gn rfl 42 _ (0, 0) _ HN.out.box hu42 rfl (st_info HN.out.st.read) ?_)
                  | (go_at_call 20; (with_reducible refine (same_c HB.out.st.read HN.out.st.read HFA.out).mono ?_); rintro e w192 ⟨rfl, hb_⟩; have KB2 := Aside0.mk hb_; clear KB hb_; have KB := KB2; clear KB2)
                  | ((with_reducible refine gate_dst (N := 194) rfl ?_); (refine gate_guard (by rfl) ?_; dsimp only); refine wpList_load_row rfl 28 (.tmp 7) rfl g7 rfl 28 _ (0, 0) _ (HM.out.later KB.out).b7 hu28 rfl (pg_info HM.out.pc) ?_)
                  | ((with_reducible refine gate_dst (N := 195) rfl ?_); (refine gate_guard (by rfl) ?_; dsimp only); refine wpList_load_row rfl 28 (.tmp 3) rfl w.heap.size rfl 28 _ (0, 0) _ (HM.out.later KB.out).b3 hu28 rfl (pg_info HM.out.pp) ?_))
                refine (samep_c (HM.out.later KB.out).pc (HM.out.later KB.out).pp HF_P.out).mono ?_
                rintro e w196 ⟨rfl, hb_⟩
                have KB2 := Aside0.mk (below_thenW KB.out hb_)
                clear KB hb_
                go_wp2_with fail
                go_ret
                exact ⟨rfl, (HM.out.later KB2.out).below⟩
end Go.Proofs.Ytemhpbdlonfikaa.P
/-! What a law's argument holds, out of what its row says of it (DataW.trod): each row that it reaches, its numbers' bounds, its lengths' bounds. -/
namespace Go.Proofs.Ytemhpbdlonfikaa.P
open Go.RowKit Go.ChangeShapes Go.WideShapes Go.Deep Go.Proofs.YtemhpbdlonfikaaW.PrintWords

def Opens {α : Type} (P : Program) (t : TypeId) (K : World → α → List Value → Prop) (G : α → Prop) : Prop :=
  ∀ (H : Type) (enc : TypeId × Value → H) (W : World) (base : Nat) (spare : Nat → Bool) (held : Bool) (fuel : Nat) (cs : List Value) (x : DataW H × List MemPlace),
    DataW.trod enc P W base spare held fuel t cs = some x → (x.1.weights P t).all (· ≤ reachBytes) = true → ∃ p, K W p cs ∧ G p

section
variable {P : Program} {t e : TypeId}
theorem opens_int {k : IntKind} (ht : P.underlying t = some (.int k)) : Opens P t (Kd.int k).K (fun n => (Lit.int k n).wf = true) := by
  intro H enc W base spare held fuel cs x h _
  obtain ⟨n, rfl, _, hw⟩ := DataW.trod_int ht h
  exact ⟨n, rfl, hw⟩
theorem opens_string (ht : P.underlying t = some .string) : Opens P t Kd.string.K (fun s => s.size ≤ reachBytes) := by
  intro H enc W base spare held fuel cs x h hw
  obtain ⟨s, rfl, rfl, _⟩ := DataW.trod_string ht h
  refine ⟨s, rfl, ?_⟩
  simpa [DataW.weights] using hw

theorem weightsAll_mem {H : Type} {d : DataW H} {n : Nat} (hn : n ∈ d.weights P e) : ∀ (l : List (DataW H)), d ∈ l → n ∈ DataW.weightsAll P e l
  | [], h => by cases h
  | y :: r, h => by
    simp only [DataW.weightsAll, List.mem_append]
    rcases List.mem_cons.1 h with rfl | h
    · exact .inl hn
    · exact .inr (weightsAll_mem hn r h)

theorem opens_slice {α : Type} {d : Kd α} {G : α → Prop} (ht : P.underlying t = some (.slice e)) (he : P.cellsOf e = d.sz) (ho : Opens P e d.K G) :
    Opens P t (Kd.slice e d).K (fun xs => xs.length * P.bytesOf e ≤ reachBytes ∧ ∀ p ∈ xs, G p) := by
  intro H enc W base spare held fuel cs x h hw
  rcases open_slice ht h with ⟨rfl, rfl⟩ | ⟨a, len, cap, m, n, D, Pl, rfl, hb, hl, hc, hm, rfl, hel⟩
  · refine ⟨[], ⟨none, 0, rfl, Nat.le_refl _, rfl, by simp, fun h => absurd h (by simp)⟩, by simp, fun p hp => by cases hp⟩
  · have hlm : len ≤ m := by rw [hm]; split <;> omega
    simp only [DataW.weights, ht, List.all_cons, List.length_map, List.length_range, Bool.and_eq_true, decide_eq_true_eq] at hw
    have hi : ∀ i : Fin len, ∃ p, ∃ cs', W.cells? base (a.add (i.val * P.cellsOf e)) (P.cellsOf e) = some cs' ∧ d.K W p cs' ∧ G p := by
      intro i
      obtain ⟨cs', h1, h2⟩ := hel i.val (by omega)
      obtain ⟨p, hp, hg⟩ := ho H enc W base spare held n cs' _ h2 (List.all_eq_true.2 (fun q hq => by
        refine List.all_eq_true.1 hw.2 q ?_
        rw [List.mem_append]
        exact .inl (weightsAll_mem hq _ (List.mem_map.2 ⟨i.val, List.mem_range.2 i.isLt, rfl⟩))))
      exact ⟨p, cs', h1, hp, hg⟩
    obtain ⟨f, hf⟩ := Classical.axiomOfChoice hi
    refine ⟨List.ofFn f, ⟨some a, cap, by simp, by simpa using hl, by simp, ?_, fun hn => ⟨a, rfl, fun j p hj => ?_⟩⟩, ?_, fun p hp => ?_⟩
    · simp only [List.length_ofFn]
      have : maxLen ≤ 9223372036854775807 := by decide
      omega
    · obtain ⟨hjl, rfl⟩ := List.getElem?_eq_some_iff.1 hj
      rw [List.length_ofFn] at hjl
      rw [List.getElem_ofFn]
      obtain ⟨cs', h1, h2, _⟩ := hf ⟨j, hjl⟩
      obtain ⟨_, h3, h4⟩ := World.cells?_some h1
      refine ⟨cs', h3.trans he, h2, fun i u hu => ?_⟩
      have hi1 := (List.getElem?_eq_some_iff.1 hu).1
      have h5 := h4 i (by omega)
      rw [hu, Go.Deep.add_add, he] at h5
      exact h5
    · simp only [List.length_ofFn]
      exact Nat.le_trans (Nat.mul_le_mul_right _ (Nat.le_add_right _ _)) hw.1
    · obtain ⟨i, rfl⟩ := List.mem_ofFn.1 hp
      obtain ⟨_, _, _, h⟩ := hf i
      exact h

/-- A struct's fields, told by its cells. -/
theorem weightsEach_mem {H : Type} {n : Nat} : ∀ (ts : List TypeId) (l : List (DataW H)) (i : Nat) (t : TypeId) (d : DataW H), ts[i]? = some t → l[i]? = some d → n ∈ d.weights P t → n ∈ DataW.weightsEach P ts l
  | _, _, _, _, _, ht, hd, hn => DataW.weights_mem_each ht hd _ hn
theorem field_opens {H : Type} {enc : TypeId × Value → H} {W : World} {base : Nat} {spare : Nat → Bool} {held : Bool} {cs : List Value} {fs : Array Field} {xs : List (DataW H × List MemPlace)} {n : Nat}
    {α : Type} {K : World → α → List Value → Prop} {G : α → Prop} (i : Nat) (f : Field) (hf : fs[i]? = some f) (ho : Opens P f.type K G) (ht : P.underlying t = some (.struct fs)) (hl : xs.length = fs.size)
    (h : ∀ (i : Nat) (f : Field), fs[i]? = some f → DataW.trod enc P W base spare held n f.type ((cs.drop f.offset).take (P.cellsOf f.type)) = xs[i]?)
    (hw : ((DataW.agg (xs.map (·.1))).weights P t).all (· ≤ reachBytes) = true) {u : List Value} (hu : (cs.drop f.offset).take (P.cellsOf f.type) = u) : ∃ p, K W p u ∧ G p := by
  subst hu
  have hi : i < xs.length := by
    rw [hl]
    exact (Array.getElem?_eq_some_iff.1 hf).1
  have h1 := h i f hf
  rw [List.getElem?_eq_getElem hi] at h1
  refine ho H enc W base spare held n _ _ h1 (List.all_eq_true.2 (fun q hq => ?_))
  refine List.all_eq_true.1 hw q ?_
  simp only [DataW.weights, ht]
  refine weightsEach_mem _ _ i f.type xs[i].1 ?_ ?_ hq
  · rw [List.getElem?_map, Array.getElem?_toList, hf]
    rfl
  · rw [List.getElem?_map, List.getElem?_eq_getElem hi]
    rfl
end
end Go.Proofs.Ytemhpbdlonfikaa.P
/- What a program that is handed in holds. -/
namespace Go.Proofs.Ytemhpbdlonfikaa.P
open Go.RowKit Go.ChangeShapes Go.WideShapes Go.Proofs.YtemhpbdlonfikaaW.PrintWords

set_option maxRecDepth 100000 in
theorem opens_k87 : Opens Try.prog 87 k87.K (fun _ => True) := by
  intro H enc W base spare held fuel cs x h hw
  obtain ⟨xs, n, _, rfl, hl, hlen, hf⟩ := DataW.trod_struct Try.underlying87 h
  have hc : Try.prog.cellsOf 87 = 5 := by kernel_rfl
  have h2 : Try.prog.cellsOf 2 = 1 := by kernel_rfl
  have h3 : Try.prog.cellsOf 3 = 1 := by kernel_rfl
  rw [hc] at hl
  match cs, hl with
  | [u0, u1, u2, u3, u4], _ =>
    obtain ⟨a, ha, _⟩ := field_opens (t := 87) 0 _ rfl (opens_int (k := .i64) Try.underlying3) Try.underlying87 hlen hf hw (u := [u0]) (by simp [h3])
    obtain ⟨b, hb, _⟩ := field_opens (t := 87) 1 _ rfl (opens_int (k := .i64) Try.underlying3) Try.underlying87 hlen hf hw (u := [u1]) (by simp [h3])
    obtain ⟨c, hc', _⟩ := field_opens (t := 87) 2 _ rfl (opens_int (k := .i64) Try.underlying3) Try.underlying87 hlen hf hw (u := [u2]) (by simp [h3])
    obtain ⟨d, hd, _⟩ := field_opens (t := 87) 3 _ rfl (opens_int (k := .i64) Try.underlying3) Try.underlying87 hlen hf hw (u := [u3]) (by simp [h3])
    obtain ⟨e, he, _⟩ := field_opens (t := 87) 4 _ rfl (opens_int (k := .i64) Try.underlying2) Try.underlying87 hlen hf hw (u := [u4]) (by simp [h2])
    have ha' : [u0] = [Value.int .i64 a] := ha
    have hb' : [u1] = [Value.int .i64 b] := hb
    have hc' : [u2] = [Value.int .i64 c] := hc'
    have hd' : [u3] = [Value.int .i64 d] := hd
    have he' : [u4] = [Value.int .i64 e] := he
    obtain rfl : u0 = .int .i64 a := by injection ha'
    obtain rfl : u1 = .int .i64 b := by injection hb'
    obtain rfl : u2 = .int .i64 c := by injection hc'
    obtain rfl : u3 = .int .i64 d := by injection hd'
    obtain rfl : u4 = .int .i64 e := by injection he'
    exact ⟨⟨a, b, c, d, e⟩, k87_mk W ⟨a, b, c, d, e⟩, trivial⟩
end Go.Proofs.Ytemhpbdlonfikaa.P
/- What a State that is handed in holds. -/
namespace Go.Proofs.Ytemhpbdlonfikaa.P
open Go.RowKit Go.ChangeShapes Go.WideShapes Go.Proofs.YtemhpbdlonfikaaW.PrintWords

theorem i64_wf {n : Int} (h : (Lit.int .i64 n).wf = true) : I64 n := by
  have h' : (decide (IntKind.i64.min ≤ n) && decide (n ≤ IntKind.i64.max)) = true := h
  rw [Bool.and_eq_true] at h'
  have h1 : (-9223372036854775808 : Int) ≤ n := of_decide_eq_true h'.1
  have h2 : n ≤ (9223372036854775807 : Int) := of_decide_eq_true h'.2
  unfold I64
  omega
set_option maxRecDepth 100000 in
theorem opens_k59 : Opens Try.prog 59 k59.K (fun x => I64 x.f0 ∧ I64 x.f1) := by
  intro H enc W base spare held fuel cs x h hw
  obtain ⟨xs, n, _, rfl, hl, hlen, hf⟩ := DataW.trod_struct Try.underlying59 h
  have hc : Try.prog.cellsOf 59 = 2 := by kernel_rfl
  have h2 : Try.prog.cellsOf 2 = 1 := by kernel_rfl
  have h3 : Try.prog.cellsOf 3 = 1 := by kernel_rfl
  rw [hc] at hl
  match cs, hl with
  | [u0, u1], _ =>
    obtain ⟨a, ha, ga⟩ := field_opens (t := 59) 0 _ rfl (opens_int (k := .i64) Try.underlying3) Try.underlying59 hlen hf hw (u := [u0]) (by simp [h3])
    obtain ⟨b, hb, gb⟩ := field_opens (t := 59) 1 _ rfl (opens_int (k := .i64) Try.underlying2) Try.underlying59 hlen hf hw (u := [u1]) (by simp [h2])
    have ha' : [u0] = [Value.int .i64 a] := ha
    have hb' : [u1] = [Value.int .i64 b] := hb
    obtain rfl : u0 = .int .i64 a := by injection ha'
    obtain rfl : u1 = .int .i64 b := by injection hb'
    exact ⟨⟨a, b⟩, k59_mk W ⟨a, b⟩, i64_wf ga, i64_wf gb⟩
end Go.Proofs.Ytemhpbdlonfikaa.P
