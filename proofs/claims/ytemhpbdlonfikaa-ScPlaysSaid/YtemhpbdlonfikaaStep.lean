/- weirref11.Step: the document's step, of a plain state. -/
import Derived.Test.YtemhpbdlonfikaaPub
import Derived.Test.YtemhpbdlonfikaaConv
import Derived.Test.YtemhpbdlonfikaaEnd
namespace Go.Proofs.Ytemhpbdlonfikaa.P
open Go Go.RowKit Go.Proofs.YtemhpbdlonfikaaW.PrintWords Go.Proofs.YtemhpbdlonfikaaW.PrintLast Go.Proofs.YtemhpbdlonfikaaW.PrintMore

theorem heap_size_alloc (w : World) (o : Obj) : (w.alloc o).heap.size = w.heap.size + 1 := by simp
theorem picksL_form {p : Pg} {s : St} {n j : Nat} {x : S70} (h : (picksL p s n)[j]? = some x) : x.f1 = 1 ∧ x.f2 = 0 := by
  have hm := List.mem_of_getElem? h
  unfold picksL at hm
  obtain ⟨q, _, rfl⟩ := List.mem_map.1 hm
  exact ⟨rfl, rfl⟩
theorem results_row_tmp {P : Program} {fn : Func} {p u : Tmp} {ty : TypeId} (h : fn.results = #[.cell p ty, .tmp u]) (tmps : Array Value) (w : World) (g : Nat) (t : TypeId) (cs : Array Value) (fr : Nat × Nat) (d : TypeDesc)
    (hp : tmps.getD p undef = .pointer (some ⟨g, 0, none⟩)) (hg : w.heap[g]? = some (.cells cs t fr))
    (hu : P.underlying ty = some d) (hd : (match d with | .struct _ | .array _ _ => true | _ => false) = true) (hi : (P.info? ty).map (·.size) = some cs.size) :
    (results fn tmps).run P w = .ok (.tuple #[.agg cs, tmps.getD u undef]) w := by
  have hp' : tmps[p]?.getD undef = .pointer (some ⟨g, 0, none⟩) := by simpa using hp
  simp [results, h, hp', asAddr, run_loadVar_row w g t ty cs fr d hg hu hd hi]
theorem StO.fresh {w W : World} {cells : List (Nat × TypeId × Array Value)} {vs : List Value} {s : St} (h : StO w cells W vs s) (t : TypeId) (us : Array Value) : StO w ((W.heap.size, t, us) :: cells) (W.alloc (.cells us t)) vs s := by
  obtain ⟨vp, vq, vr, vm, vb, vrs, bfx, rfl, h1, h2⟩ := h
  exact ⟨vp, vq, vr, vm, vb, vrs, bfx, rfl, h1.fresh t us, h2⟩
theorem Bag.called {w W W' : World} {rows : List Rw} {cells : List (Nat × TypeId × Array Value)} (h : Bag w rows cells W) {j : Nat} {e : TypeId} {v : Value} {l l' : List Int} {ok : Nat → Prop} (hj : rows[j]? = some (ri e v l))
    (hr : Kd.R (Kd.int .i64) e W' w.heap.size ok v l') (hll : l'.length = l.length) (hB : Below w.heap.size w W') (hk : Kept W W' (fun k => some k = v.ownBlock)) : Bag w (rows.set j (ri e v l')) cells W' := by
  have ho := Kd.own_of_R hr
  rw [hll] at ho
  have h1 := h.wrote hj (W' := W') (xs := nums .i64 l') ho hB hk.1 (fun k hk1 hk2 => hk.2 k hk1 hk2) (hB.os.trans h.below.os.symm) (hB.tape.trans h.below.tape.symm) (hB.output.trans h.below.output.symm)
  have e1 : ({ ri e v l with xs := nums .i64 l' } : Rw) = ri e v l' := by unfold ri; simp only [hll]
  rwa [e1] at h1
theorem Bag.isR {w W : World} {rows : List Rw} {cells : List (Nat × TypeId × Array Value)} (h : Bag w rows cells W) {j : Nat} {e : TypeId} {v : Value} {l : List Int} (hj : rows[j]? = some (ri e v l)) :
    Kd.R (Kd.int .i64) e W w.heap.size (fun k => some k = v.ownBlock) v l := Kd.R_of_own (h.row j _ hj) (fun _ hk => hk.symm)
theorem memB_loc {o : S87} {nr nl : Nat} (h : OpOK o nr nl) (hm : memB o.f0 = true) : 0 ≤ o.f3 ∧ o.f3 < nl := h.2.2 (of_decide_eq_true hm)
theorem toNat_lt {y : Int} {n : Nat} (h0 : 0 ≤ y) (h : y < n) : y.toNat < n := by omega
theorem rg_at {l : List (List Int)} {y : Int} (h : y.toNat < l.length) : l[y.toNat]? = some (rd_L5 l y) := by
  unfold rd_L5; rw [List.getD_eq_getElem?_getD, List.getElem?_eq_getElem h]; rfl
theorem at_len {α β : Type} {l : List α} {l' : List β} {k : Nat} (h : k < l'.length) (hl : l.length = l'.length) : ∃ x, l[k]? = some x := ⟨_, List.getElem?_eq_getElem (by omega)⟩
theorem StO.parts {w W : World} {cells : List (Nat × TypeId × Array Value)} {v0 v1 v2 v3 v4 v5 : Value} {s : St} (h : StO w cells W [v0, v1, v2, v3, v4, v5] s) :
    ∃ vrs bfx, Bag w (stRows v0 v1 v2 v3 v4 vrs bfx s) cells W ∧ vrs.length = s.rg.length ∧ bfx.length = s.bf.length ∧ (∀ (j : Nat) (v : Value), bfx[j]? = some v → ∃ A c, v = .slice A 0 c) ∧ ∀ b ∈ s.bf, b = [] := by
  obtain ⟨vp, vq, vr, vm, vb, vrs, bfx, hvs, h1, h2⟩ := h
  simp only [List.cons.injEq, and_true] at hvs
  obtain ⟨rfl, rfl, rfl, rfl, rfl, _⟩ := hvs
  exact ⟨vrs, bfx, h1, h2⟩
/-- What is wanted of an owned state at a thread. -/
structure OpenAt (w : World) (cells : List (Nat × TypeId × Array Value)) (W : World) (v0 v1 v2 v3 v4 : Value) (s : St) (y : Int) (vrs bfx : List Value) (vi : Value) : Prop where
  bag : Bag w (stRows v0 v1 v2 v3 v4 vrs bfx s) cells W
  l1 : vrs.length = s.rg.length
  l2 : bfx.length = s.bf.length
  f : ∀ (j : Nat) (v : Value), bfx[j]? = some v → ∃ A c, v = .slice A 0 c
  e : ∀ b ∈ s.bf, b = []
  hv : vrs[y.toNat]? = some vi
  lt : y.toNat < s.rg.length
  row : (stRows v0 v1 v2 v3 v4 vrs bfx s)[y.toNat + 5]? = some (ri 2 vi (rd_L5 s.rg y))
theorem StO.open_at {w W : World} {cells : List (Nat × TypeId × Array Value)} {v0 v1 v3 v4 v5 : Value} {E2 : Option Addr} {f2 : Nat} {s : St} {y : Int} (h : StO w cells W [v0, v1, .slice E2 s.rg.length f2, v3, v4, v5] s) (h0 : 0 ≤ y) (h1 : y < s.rg.length) :
    ∃ vrs bfx vi gr, OpenAt w cells W v0 v1 (.slice E2 s.rg.length f2) v3 v4 s y vrs bfx vi ∧ E2 = some ⟨gr, 0, none⟩ ∧ W.cell? ⟨gr, y.toNat, none⟩ = some vi := by
  obtain ⟨vrs, bfx, hb, hl, hlb, hf, he⟩ := h.parts
  have hin := toNat_lt h0 h1
  obtain ⟨vi, hvi⟩ := at_len hin hl
  rcases (hb.row 2 _ rfl).2 with ⟨_, hz⟩ | ⟨gr, cr, _, hv, _⟩
  · exact absurd (show s.rg.length = 0 from hz) (by omega)
  · simp only [Value.slice.injEq, true_and] at hv
    obtain ⟨rfl, rfl⟩ := hv
    exact ⟨vrs, bfx, vi, gr, ⟨hb, hl, hlb, hf, he, hvi, hin, stRows_rg hvi (rg_at hin)⟩, rfl, (hb.at (j := 2) rfl rfl hvi).1⟩
theorem Bag.ptrE {w W : World} {rows : List Rw} {cells : List (Nat × TypeId × Array Value)} (h : Bag w rows cells W) {j : Nat} {e : TypeId} {E : Option Addr} {f : Nat} {l : List Int} (hj : rows[j]? = some (ri e (.slice E l.length f) l)) {i : Int} (h0 : 0 ≤ i) (h1 : i < l.length) :
    ∃ g, E = some ⟨g, 0, none⟩ ∧ W.cell? ⟨g, i.toNat, none⟩ = some (.int .i64 (rd l i)) ∧ W.frozen? ⟨g, i.toNat, none⟩ = false := by
  obtain ⟨g, cap, e, h2, h3⟩ := h.ptr hj h0 h1
  simp only [Value.slice.injEq, true_and] at e
  obtain ⟨rfl, rfl⟩ := e
  exact ⟨g, rfl, h2, h3⟩
theorem OpenAt.memrow {w W : World} {cells : List (Nat × TypeId × Array Value)} {v0 v1 v2 v3 v4 : Value} {s : St} {y : Int} {vrs bfx : List Value} {vi : Value} (_h : OpenAt w cells W v0 v1 v2 v3 v4 s y vrs bfx vi) (r' : List Int) :
    ((stRows v0 v1 v2 v3 v4 vrs bfx s).set (y.toNat + 5) (ri 2 vi r'))[3]? = some (ri 2 v3 s.me) := by rw [List.getElem?_set_ne (by omega)]; rfl
theorem OpenAt.spinerow {w W : World} {cells : List (Nat × TypeId × Array Value)} {v0 v1 v2 v3 v4 : Value} {s : St} {y : Int} {vrs bfx : List Value} {vi : Value} (_h : OpenAt w cells W v0 v1 v2 v3 v4 s y vrs bfx vi) (r' : List Int) :
    ((stRows v0 v1 v2 v3 v4 vrs bfx s).set (y.toNat + 5) (ri 2 vi r'))[2]? = some ⟨26, 1, v2, s.rg.length, vrs⟩ := by rw [List.getElem?_set_ne (by omega)]; rfl
/-- Behind an instruction: the thread's counter goes on. -/
theorem OpenAt.fin {w W W' : World} {cells cells' : List (Nat × TypeId × Array Value)} {E0 : Option Addr} {g f0 : Nat} {v1 v2 v3 v4 : Value} {s : St} {y : Int} {vrs bfx : List Value} {vi : Value} {o : S87}
    (h : OpenAt w cells W (.slice E0 s.p.length f0) v1 v2 v3 v4 s y vrs bfx vi) (hE : E0 = some ⟨g, 0, none⟩)
    (hb : Bag w (((stRows (.slice E0 s.p.length f0) v1 v2 v3 v4 vrs bfx s).set (y.toNat + 5) (ri 2 vi (doM o (rd_L5 s.rg y) s.me).1)).set 3 (ri 2 v3 (doM o (rd_L5 s.rg y) s.me).2)) cells' W') (x : Int) :
    StO w cells' (W'.setCell ⟨g, y.toNat, none⟩ (.int .i64 x)) [.slice E0 s.p.length f0, v1, v2, v3, v4, .int .i64 s.lk]
      { s with p := s.p.set y.toNat x, rg := s.rg.set y.toNat (doM o (rd_L5 s.rg y) s.me).1, me := (doM o (rd_L5 s.rg y) s.me).2 } := by
  subst hE
  have hlen := doM_len o (rd_L5 s.rg y) s.me
  have hb6 := hb.setNum (j := 0) rfl y x
  refine ⟨_, v1, v2, v3, v4, vrs, bfx, rfl, ?_, by simpa using h.l1, h.l2, h.f, h.e⟩
  exact StO.put (s := { s with p := s.p.set y.toNat x }) h.l1 h.lt (by rw [hlen.1, List.getD_eq_getElem?_getD, rg_at h.lt]; rfl) hlen.2 h.hv hb6
theorem Bag.setNumE {w W : World} {rows : List Rw} {cells : List (Nat × TypeId × Array Value)} (h : Bag w rows cells W) {j : Nat} {e : TypeId} {l : List Int} {E : Option Addr} {g cap : Nat} (hE : E = some ⟨g, 0, none⟩) (hj : rows[j]? = some (ri e (.slice E l.length cap) l)) (i : Int) (x : Int) :
    Bag w (rows.set j (ri e (.slice E l.length cap) (l.set i.toNat x))) cells (W.setCell ⟨g, i.toNat, none⟩ (.int .i64 x)) := by
  subst hE
  exact h.setNum hj i x
theorem Bag.spine {w W : World} {rows : List Rw} {cells : List (Nat × TypeId × Array Value)} (h : Bag w rows cells W) {E : Option Addr} {g n f k : Nat} {vrs : List Value} {vi : Value} (h2 : rows[2]? = some ⟨26, 1, .slice E n f, n, vrs⟩) (hE : E = some ⟨g, 0, none⟩) (hv : vrs[k]? = some vi) :
    W.cell? ⟨g, k, none⟩ = some vi := by
  subst hE
  exact (h.at h2 rfl hv).1
theorem StO.join {w W5 W : World} {cells boxes : List (Nat × TypeId × Array Value)} {b : Nat × TypeId × Array Value} {vs : List Value} {s : St} (h : StO W5 cells W vs s) (hb : Bag w [] (b :: boxes) W5) : StO w [b] W vs s := by
  obtain ⟨vp, vq, vr, vm, vb, vrs, bfx, rfl, h1, h2⟩ := h
  have hc := hb.cell b List.mem_cons_self
  have hlt := hb.cell_lt (c := b) List.mem_cons_self
  refine ⟨vp, vq, vr, vm, vb, vrs, bfx, rfl, ⟨fun j r hj => own_weaken (h1.row j r hj) hb.below.size, h1.apart, fun c hcc => ?_, fun c hcc j r hj e => ?_, below_then hb.below hb.below.size h1.below⟩, h2⟩
  · rw [List.mem_singleton.1 hcc]
    exact ⟨hc.1, (h1.below.block b.1 hlt).trans hc.2⟩
  · rw [List.mem_singleton.1 hcc] at e
    have := own_base (h1.row j r hj) b.1 e
    omega
theorem StO.setAll {w W : World} {g : Nat} {t : TypeId} {us us' : Array Value} {vs : List Value} {s : St} (h : StO w [(g, t, us)] W vs s) : StO w [(g, t, us')] (W.setRow g us') vs s := by
  obtain ⟨vp, vq, vr, vm, vb, vrs, bfx, rfl, h1, h2⟩ := h
  exact ⟨vp, vq, vr, vm, vb, vrs, bfx, rfl, h1.setAll (fun c hc => by cases hc), h2⟩
theorem all_list (l : List Value) (h : l.all (·.oneCell') = true) : l.toArray.all (·.oneCell') = true := by rw [List.all_toArray]; exact h
theorem StO.below {w W : World} {cells : List (Nat × TypeId × Array Value)} {vs : List Value} {s : St} (h : StO w cells W vs s) : Below w.heap.size w W := by
  obtain ⟨vp, vq, vr, vm, vb, vrs, bfx, _, h1, _⟩ := h
  exact h1.below
theorem ne_5 (n : Nat) : n + 5 ≠ 2 := by omega
theorem ptr_eq {E : Option Addr} {g g' : Nat} (h : E = some ⟨g, 0, none⟩) (h' : E = some ⟨g', 0, none⟩) : g = g' := by
  rw [h] at h'; injection h' with h'; injection h' with h'
theorem wrap_int {q : Int} {n : Nat} (h0 : 0 ≤ q) (h1 : q < n) (h2 : n ≤ 9223372036854775807) : wrap64 (q + 1) = q + 1 := by unfold wrap64; omega
theorem StO.cellAt {w W : World} {cells : List (Nat × TypeId × Array Value)} {vs : List Value} {s : St} (h : StO w cells W vs s) {c : Nat × TypeId × Array Value} (hc : c ∈ cells) : W.heap[c.1]? = some (.cells c.2.2 c.2.1 (0, 0)) := by
  obtain ⟨vp, vq, vr, vm, vb, vrs, bfx, _, h1, _⟩ := h
  exact (h1.cell c hc).2
/-- A state's six values. -/
def Six (sv : List Value) (s : St) : Prop := ∃ (E0 E1 E2 E3 E4 : Option Addr) (f0 f1 f2 f3 f4 : Nat), sv = [.slice E0 s.p.length f0, .slice E1 s.q.length f1, .slice E2 s.rg.length f2, .slice E3 s.me.length f3, .slice E4 s.bf.length f4, .int .i64 s.lk]
theorem StO.alone {w W : World} {cells : List (Nat × TypeId × Array Value)} {vs : List Value} {s : St} (h : StO w cells W vs s) : StO w [] W vs s := by
  obtain ⟨vp, vq, vr, vm, vb, vrs, bfx, rfl, h1, h2⟩ := h
  exact ⟨vp, vq, vr, vm, vb, vrs, bfx, rfl, h1.perm (fun c hc => by cases hc), h2⟩
theorem six_set {E0 E1 E2 E3 E4 : Option Addr} {f0 f1 f2 f3 f4 : Nat} {s : St} {i j : Nat} {x : Int} {r me : List Int} (hm : me.length = s.me.length) :
    Six [.slice E0 s.p.length f0, .slice E1 s.q.length f1, .slice E2 s.rg.length f2, .slice E3 s.me.length f3, .slice E4 s.bf.length f4, .int .i64 s.lk] { s with p := s.p.set i x, rg := s.rg.set j r, me := me } :=
  ⟨E0, E1, E2, E3, E4, f0, f1, f2, f3, f4, by simp only [List.length_set, hm]⟩
/-- What a step answers. -/
def StepRes (w : World) (p : Pg) (s : St) (i : Int) (e : Ending) (W' : World) : Prop :=
  (match turnM p s i with
   | some t => ∃ tv : List Value, Six tv t ∧ e = .returned (.tuple #[.agg tv.toArray, .bool true]) ∧ StO w [] W' tv t
   | none => e = .returned (.tuple #[.agg #[.slice none 0 0, .slice none 0 0, .slice none 0 0, .slice none 0 0, .slice none 0 0, .int .i64 0], .bool false])) ∧ Below w.heap.size w W'

set_option maxHeartbeats 20000000 in
set_option maxRecDepth 100000 in
theorem ref_Step.calls {w : World} {p : Pg} {s : St} {pv sv : List Value} {i : Int} (hp : PgV w pv p) (hs : StV w sv s) (hR : RightPg p) (hP : SmallPg p) (hS : StOK p s) (hSm : SmallSt s) (hpl : PlainSt s) :
    Calls Try.prog 35 #[.agg pv.toArray, .agg sv.toArray, .agg #[.int .i64 i, .int .i64 1, .int .i64 0]] w (StepRes w p s i) := by
  have HP := Aside0.mk hp
  have HS := Aside0.mk hs
  have hn := hP.th
  obtain ⟨K1, hK1⟩ := (picks_is hpl hS hn).rounds
  obtain ⟨K2, hK2⟩ := (copy_state hSm).rounds
  have HPK := Aside0.mk hK1
  have HCP := Aside0.mk hK2
  clear hK1 hK2
  obtain ⟨A0, A1, A2, A3, A4, c0, c1, c2, c3, c4, rfl, h0, l0, h1, l1, h2, l2, h3, l3, h4, l4⟩ := hp
  obtain ⟨B0, B1, B2, B3, B4, d0, d1, d2, d3, d4, rfl, k0, m0, k1, m1, k2, m2, k3, m3, k4, m4⟩ := hs
  have hu28 := Try.underlying28
  have hu42 := Try.underlying42
  have hu70 := Try.underlying70
  have hu87 := Try.underlying87
  obtain ⟨px, hpx⟩ : ∃ px : Array Value, px = #[.slice A0 p.th.length c0, .slice A1 p.rg.length c1, .slice A2 p.lo.length c2, .slice A3 p.r0.length c3, .slice A4 p.m0.length c4] := ⟨_, rfl⟩
  obtain ⟨sx, hsx⟩ : ∃ sx : Array Value, sx = #[.slice B0 s.p.length d0, .slice B1 s.q.length d1, .slice B2 s.rg.length d2, .slice B3 s.me.length d3, .slice B4 s.bf.length d4, .int .i64 s.lk] := ⟨_, rfl⟩
  have hb0 := ((((Bag.nil w).fresh 28 #[.slice A0 p.th.length c0, .slice A1 p.rg.length c1, .slice A2 p.lo.length c2, .slice A3 p.r0.length c3, .slice A4 p.m0.length c4]).fresh 42 #[.slice B0 s.p.length d0, .slice B1 s.q.length d1, .slice B2 s.rg.length d2, .slice B3 s.me.length d3, .slice B4 s.bf.length d4, .int .i64 s.lk]).fresh 70 #[.int .i64 i, .int .i64 1, .int .i64 0]).fresh 42 #[.slice none 0 0, .slice none 0 0, .slice none 0 0, .slice none 0 0, .slice none 0 0, .int .i64 0]
  simp only [heap_size_alloc] at hb0
  have HB0 := Aside0.mk hb0
  have C0 := Aside0.mk h0
  have CS := Aside0.mk (show Kd.C (Kd.int .i64) w B0 s.p.length s.p ∧ s.p.length ≤ d0 ∧ Kd.C (Kd.int .i64) w B1 s.q.length s.q ∧ s.q.length ≤ d1 ∧ Kd.C (Kd.slice 2 (Kd.int .i64)) w B2 s.rg.length s.rg ∧ s.rg.length ≤ d2 ∧ Kd.C (Kd.int .i64) w B3 s.me.length s.me ∧ s.me.length ≤ d3 ∧ Kd.C (Kd.slice 59 k59) w B4 s.bf.length s.bf ∧ s.bf.length ≤ d4 from ⟨k0, m0, k1, m1, k2, m2, k3, m3, k4, m4⟩)
  have CP := Aside0.mk (show Kd.C (Kd.slice 87 k87) w A0 p.th.length p.th ∧ p.th.length ≤ c0 ∧ Kd.C (Kd.slice 9 Kd.string) w A1 p.rg.length p.rg ∧ p.rg.length ≤ c1 ∧ Kd.C Kd.string w A2 p.lo.length p.lo ∧ p.lo.length ≤ c2 ∧ Kd.C (Kd.slice 2 (Kd.int .i64)) w A3 p.r0.length p.r0 ∧ p.r0.length ≤ c3 ∧ Kd.C (Kd.int .i64) w A4 p.m0.length p.m0 ∧ p.m0.length ≤ c4 from ⟨h0, l0, h1, l1, h2, l2, h3, l3, h4, l4⟩)
  clear h0 l0 h1 l1 h2 l2 h3 l3 h4 l4 k0 m0 k1 m1 k2 m2 k3 m3 k4 m4 hb0
  go_enter Try.func35, Try.ntmps35
  go_upto_region 1 with fail
  generalize hW : World.alloc (World.alloc (World.alloc (World.alloc w _) _) _) _ = W3
  have HB : Aside0 (Bag w [] [(w.heap.size + 1 + 1 + 1, 42, #[.slice none 0 0, .slice none 0 0, .slice none 0 0, .slice none 0 0, .slice none 0 0, .int .i64 0]), (w.heap.size + 1 + 1, 70, #[.int .i64 i, .int .i64 1, .int .i64 0]), (w.heap.size + 1, 42, sx), (w.heap.size, 28, px)] W3) := ⟨by rw [← hW, hpx, hsx]; exact HB0.out⟩
  have hip : (Try.prog.info? 28).map (·.size) = some px.size := by rw [hpx]; kernel_rfl
  have his : (Try.prog.info? 42).map (·.size) = some sx.size := by rw [hsx]; kernel_rfl
  have HPX := Aside0.mk hpx
  have HSX := Aside0.mk hsx
  have HIP := Aside0.mk hip
  have HIS := Aside0.mk his
  clear hW HB0 hpx hsx hip his
  have hc3 := (HB.out.cell _ (List.mem_cons_of_mem _ (List.mem_cons_of_mem _ (List.mem_cons_of_mem _ List.mem_cons_self)))).2
  have hc1 := (HB.out.cell _ (List.mem_cons_of_mem _ (List.mem_cons_of_mem _ List.mem_cons_self))).2
  obtain ⟨l, hl⟩ : ∃ l, picksL p s p.th.length = l := ⟨_, rfl⟩
  rw [hl] at HPK
  have HL := Aside0.mk hl
  clear hl
  go_wp2_with (first
    | (refine wpList_load_row rfl 28 (.tmp 3) rfl w.heap.size rfl 28 px (0, 0) _ hc3 hu28 rfl HIP.out ?_)
    | (refine wpList_load_row rfl 42 (.tmp 4) rfl (w.heap.size + 1) rfl 42 sx (0, 0) _ hc1 hu42 rfl HIS.out ?_)
    | (rw [HPX.out, HSX.out]; go_at_call 69; obtain ⟨h0, l0, h1, l1, h2, l2, h3, l3, h4, l4⟩ := CP.out; obtain ⟨k0, m0, k1, m1, k2, m2, k3, m3, k4, m4⟩ := CS.out; (with_reducible refine (weirref11_Picks.calls K1 A0 c0 p.th A1 c1 p.rg A2 c2 p.lo A3 c3 p.r0 A4 c4 p.m0 B0 d0 s.p B1 d1 s.q B2 d2 s.rg B3 d3 s.me B4 d4 s.bf s.lk l W3 (Kd.C_below h0 HB.out.below) l0 (Kd.C_below h1 HB.out.below) l1 (Kd.C_below h2 HB.out.below) l2 (Kd.C_below h3 HB.out.below) l3 (Kd.C_below h4 HB.out.below) l4 (Kd.C_below k0 HB.out.below) m0 (Kd.C_below k1 HB.out.below) m1 (Kd.C_below k2 HB.out.below) m2 (Kd.C_below k3 HB.out.below) m3 (Kd.C_below k4 HB.out.below) m4 HPK.out).mono ?_); clear h0 l0 h1 l1 h2 l2 h3 l3 h4 l4 k0 m0 k1 m1 k2 m2 k3 m3 k4 m4; rintro e w4 ⟨vl, rfl, hvl, hbl⟩; obtain ⟨AL, cL, rfl, _, hCL⟩ := Kd.R_reads hvl; have HCL := Aside0.mk hCL; have HBL := Aside0.mk (HB.out.later hbl); clear hvl hbl hCL))
  go_loopw [9] (fun v W => ∃ j : Nat, v = .int .i64 j ∧ j ≤ l.length ∧ Aside0 (∀ q : Nat, q < j → l[q]? ≠ some ⟨i, 1, 0⟩) ∧ Aside0 (Bag w [] [(w.heap.size + 1 + 1 + 1, 42, #[.slice none 0 0, .slice none 0 0, .slice none 0 0, .slice none 0 0, .slice none 0 0, .int .i64 0]), (w.heap.size + 1 + 1, 70, #[.int .i64 i, .int .i64 1, .int .i64 0]), (w.heap.size + 1, 42, sx), (w.heap.size, 28, px)] W) ∧ Aside0 (Below w4.heap.size w4 W)) (fun v _ => l.length - (intOf v).toNat)
  case atStart => exact ⟨0, rfl, Nat.zero_le _, ⟨fun q hq => absurd hq (Nat.not_lt_zero q)⟩, HBL, ⟨Below.refl _ _⟩⟩
  case round =>
    clear HB HBL hc1 hc3
    obtain ⟨j, rfl, hj, HNO, HB, HW4⟩ := hrel
    by_cases hlt : j < l.length
    · obtain ⟨y, hy⟩ : ∃ y, l[j]? = some y := ⟨_, List.getElem?_eq_getElem hlt⟩
      have hry : rd_T70 l j = y := by unfold rd_T70; rw [Int.toNat_natCast, List.getD_eq_getElem?_getD, hy]; rfl
      have hyf : y.f1 = 1 ∧ y.f2 = 0 := by rw [← HL.out] at hy; exact picksL_form hy
      obtain ⟨ad, rfl, e0, e1, e2⟩ := at_T70 HCL.out (j : Int) (Int.natCast_nonneg j) (Int.ofNat_lt.2 hlt)
      rw [hry] at e0 e1 e2
      rw [hyf.1] at e1
      rw [hyf.2] at e2
      rw [Int.toNat_natCast] at e0 e1 e2
      replace e0 := pw_cell_below HW4.out e0
      replace e1 := pw_cell_below HW4.out e1
      replace e2 := pw_cell_below HW4.out e2
      obtain ⟨y0, hy0⟩ : ∃ y0, y.f0 = y0 := ⟨_, rfl⟩
      rw [hy0] at e0
      have hyy : y = ⟨y0, 1, 0⟩ := by cases y; simp only at hyf hy0; rw [hyf.1, hyf.2, hy0]
      rw [hyy] at hy
      have HY := Aside0.mk hy
      have HJ := Aside0.mk hlt
      have HML := Aside0.mk (show l.length ≤ 9223372036854775807 from Kd.C_max HCL.out)
      clear hry hyf hy0 hyy hy
      have hmk := List.mem_cons_of_mem (w.heap.size + 1 + 1 + 1, (42 : TypeId), (#[.slice none 0 0, .slice none 0 0, .slice none 0 0, .slice none 0 0, .slice none 0 0, .int .i64 0] : Array Value)) (List.mem_cons_self (a := (w.heap.size + 1 + 1, (70 : TypeId), (#[.int .i64 i, .int .i64 1, .int .i64 0] : Array Value))) (l := [(w.heap.size + 1, 42, sx), (w.heap.size, 28, px)]))
      obtain ⟨t0, _⟩ := HB.out.cellOf hmk 0 _ rfl
      obtain ⟨t1, _⟩ := HB.out.cellOf hmk 1 _ rfl
      obtain ⟨t2, _⟩ := HB.out.cellOf hmk 2 _ rfl
      clear hmk
      by_cases hx : y0 = i
      · subst hx
        as_aux_lemma =>
          go_wp2
          go_quiet (fail)
          go_upto_region 6 with fail
          have HB5 := Aside0.mk (HB.out.drewN nq)
          clear HB HW4 e0 e1 e2 t0 t1 t2
          generalize wr.drewN nq = W5 at HB5 ⊢
          have hc1 := (HB5.out.cell _ (List.mem_cons_of_mem _ (List.mem_cons_of_mem _ List.mem_cons_self))).2
          go_upto_region 7 with (first
            | (refine wpList_load_row rfl 42 (.tmp 4) rfl (w.heap.size + 1) rfl 42 sx (0, 0) _ hc1 hu42 rfl HIS.out ?_)
            | (rw [HSX.out]; go_at_call 13; obtain ⟨k0, m0, k1, m1, k2, m2, k3, m3, k4, m4⟩ := CS.out; (with_reducible refine (weirref11_Copy.calls K2 B0 d0 s.p B1 d1 s.q B2 d2 s.rg B3 d3 s.me B4 d4 s.bf s.lk s.p s.q s.rg s.me s.bf s.lk W5 (Kd.C_below k0 HB5.out.below) m0 (Kd.C_below k1 HB5.out.below) m1 (Kd.C_below k2 HB5.out.below) m2 (Kd.C_below k3 HB5.out.below) m3 (Kd.C_below k4 HB5.out.below) m4 HCP.out).mono ?_); clear k0 m0 k1 m1 k2 m2 k3 m3 k4 m4; rintro e w7 ⟨v0, v1, v2, v3, v4, rfl, r0, r1, r2, r3, r4, hb7⟩; have HO := Aside0.mk (bag_state r0 r1 r2 r3 r4 hb7 hSm.e); have HB7 := Aside0.mk (HB5.out.later hb7); obtain ⟨E0, f0, rfl⟩ := Kd.R_slice r0; obtain ⟨E1, f1, rfl⟩ := Kd.R_slice r1; obtain ⟨E2, f2, rfl, _⟩ := Kd.S_reads r2; obtain ⟨E3, f3, rfl⟩ := Kd.R_slice r3; obtain ⟨E4, f4, rfl, _⟩ := Kd.S_reads r4; clear r0 r1 r2 r3 r4 hb7))
          as_aux_lemma =>
            generalize hW8 : World.alloc w7 _ = W8
            have HO8 : Aside0 (StO W5 [(w7.heap.size, 42, #[.slice E0 s.p.length f0, .slice E1 s.q.length f1, .slice E2 s.rg.length f2, .slice E3 s.me.length f3, .slice E4 s.bf.length f4, .int .i64 s.lk])] W8 [.slice E0 s.p.length f0, .slice E1 s.q.length f1, .slice E2 s.rg.length f2, .slice E3 s.me.length f3, .slice E4 s.bf.length f4, .int .i64 s.lk] s) := ⟨by rw [← hW8]; exact HO.out.fresh 42 _⟩
            have HB8 : Aside0 (Bag w [] [(w.heap.size + 1 + 1 + 1, 42, #[.slice none 0 0, .slice none 0 0, .slice none 0 0, .slice none 0 0, .slice none 0 0, .int .i64 0]), (w.heap.size + 1 + 1, 70, #[.int .i64 y0, .int .i64 1, .int .i64 0]), (w.heap.size + 1, 42, sx), (w.heap.size, 28, px)] W8) := ⟨by rw [← hW8]; exact HB7.out.later (below_alloc (Below.refl _ _) _)⟩
            clear hW8 HO HB7 hc1
            have hmem : (⟨y0, 1, 0⟩ : S70) ∈ picksL p s p.th.length := by rw [HL.out]; exact List.mem_of_getElem? HY.out
            obtain ⟨i2, i3, q1⟩ := picksL_mem.1 hmem
            have HT : Aside0 (turnM p s y0 = some { s with p := s.p.set y0.toNat (rd s.p y0 + 1), rg := s.rg.set y0.toNat (doM (nextOp p s y0) (rd_L5 s.rg y0) s.me).1, me := (doM (nextOp p s y0) (rd_L5 s.rg y0) s.me).2 }) := ⟨by unfold turnM; rw [if_pos ⟨i2, i3, q1⟩]⟩
            have i4 : y0 < (s.p.length : Int) := by rw [hS.lp]; exact i3
            have i5 : y0 < (s.rg.length : Int) := by rw [hS.lr]; exact i3
            have hpc := hS.pc y0 i2 i3
            obtain ⟨ad0, AT, cT, rfl, t0w, _, tC⟩ := at_L3 CP.out.1 y0 i2 i3
            obtain ⟨bd0, rfl, pc0w⟩ := Kd.at_int CS.out.1 y0 i2 i4
            obtain ⟨ad2, rfl, o0w, o1w, o2w, o3w, o4w⟩ := at_T87 tC (rd s.p y0) hpc.1 q1
            obtain ⟨q, hq⟩ : ∃ q, rd s.p y0 = q := ⟨_, rfl⟩
            obtain ⟨ops, hops⟩ : ∃ ops, rd_L3 p.th y0 = ops := ⟨_, rfl⟩
            obtain ⟨o, ho⟩ : ∃ o, nextOp p s y0 = o := ⟨_, rfl⟩
            have hoo : rd_T87 ops q = o := by rw [← hops, ← hq]; exact ho
            have hok := hR.op y0 q i2 i3 (by rw [← hq]; exact hpc.1) (by rw [← hq]; exact q1)
            rw [hops, hoo, ← hS.rl y0 i2 i3, ← hS.lm] at hok
            rw [hq] at pc0w o0w o1w o2w o3w o4w hpc q1
            rw [hops] at o0w o1w o2w o3w o4w hpc q1 t0w tC
            rw [hoo] at o0w o1w o2w o3w o4w
            rw [hq, ho] at HT
            have HOK := Aside0.mk hok
            have HQ := Aside0.mk hq
            have HMO2 := Aside0.mk (Kd.C_max tC)
            have HQ0 := Aside0.mk hpc.1
            have HQ1 := Aside0.mk q1
            have hp0 := (HB8.out.cellOf (List.mem_cons_of_mem _ (List.mem_cons_of_mem _ (List.mem_cons_of_mem _ List.mem_cons_self))) 0 (.slice (some ad0) p.th.length c0) (by show px[0]? = _; rw [HPX.out]; rfl)).1
            have hs0 := (HB8.out.cellOf (List.mem_cons_of_mem _ (List.mem_cons_of_mem _ List.mem_cons_self)) 0 (.slice (some bd0) s.p.length d0) (by show sx[0]? = _; rw [HSX.out]; rfl)).1
            have hk0 := (HB8.out.cellOf (List.mem_cons_of_mem _ List.mem_cons_self) 0 (.int .i64 y0) rfl).1
            have t0 := pw_cell_below HB8.out.below t0w
            have pc0 := pw_cell_below HB8.out.below pc0w
            have o0 := pw_cell_below HB8.out.below o0w
            have o1 := pw_cell_below HB8.out.below o1w
            have o2 := pw_cell_below HB8.out.below o2w
            have o3 := pw_cell_below HB8.out.below o3w
            have o4 := pw_cell_below HB8.out.below o4w
            have q0 := hpc.1
            clear hq hops ho hoo hok hmem hpc
            simp only at hp0 hs0 hk0
            have hbz : Below W8.heap.size W8 (W8.alloc (.cells #[.int .i64 0, .int .i64 0, .int .i64 0, .int .i64 0, .int .i64 0] 87)) := below_alloc (Below.refl _ _) _
            have zhp0 := pw_cell_below hbz hp0
            have zhs0 := pw_cell_below hbz hs0
            have zhk0 := pw_cell_below hbz hk0
            have zt0 := pw_cell_below hbz t0
            have zpc0 := pw_cell_below hbz pc0
            have zo0 := pw_cell_below hbz o0
            have zo1 := pw_cell_below hbz o1
            have zo2 := pw_cell_below hbz o2
            have zo3 := pw_cell_below hbz o3
            have zo4 := pw_cell_below hbz o4
            go_region
            have HO9 := Aside0.mk ((HO8.out.fresh 87 #[.int .i64 o.f0, .int .i64 o.f1, .int .i64 o.f2, .int .i64 o.f3, .int .i64 o.f4]).later (below_drew (Below.refl _ _)))
            clear zhp0 zhs0 zhk0 zt0 zpc0 zo0 zo1 zo2 zo3 zo4 hp0 hs0 hk0 t0 pc0 o0 o1 o2 o3 o4 hbz HB8 HO8 t0w pc0w o0w o1w o2w o3w o4w tC
            as_aux_lemma =>
              generalize World.drew _ = W9 at HO9 ⊢
              obtain ⟨vrs, bfx, vi, gr, HA, hE2, x0⟩ := HO9.out.open_at i2 i5
              have HAA := Aside0.mk HA
              have HG := Aside0.mk HA.bag
              have HE2 := Aside0.mk hE2
              clear HA HO9 hE2
              have HMO := Aside0.mk (List.mem_cons_self (a := (W8.heap.size, (87 : TypeId), (#[.int .i64 o.f0, .int .i64 o.f1, .int .i64 o.f2, .int .i64 o.f3, .int .i64 o.f4] : Array Value))) (l := [(w7.heap.size, (42 : TypeId), (#[.slice E0 s.p.length f0, .slice E1 s.q.length f1, .slice E2 s.rg.length f2, .slice E3 s.me.length f3, .slice E4 s.bf.length f4, .int .i64 s.lk] : Array Value))]))
              have HMC := Aside0.mk (List.mem_cons_of_mem (W8.heap.size, (87 : TypeId), (#[.int .i64 o.f0, .int .i64 o.f1, .int .i64 o.f2, .int .i64 o.f3, .int .i64 o.f4] : Array Value)) (List.mem_cons_self (a := (w7.heap.size, (42 : TypeId), (#[.slice E0 s.p.length f0, .slice E1 s.q.length f1, .slice E2 s.rg.length f2, .slice E3 s.me.length f3, .slice E4 s.bf.length f4, .int .i64 s.lk] : Array Value))) (l := [])))
              obtain ⟨b0, _⟩ := HG.out.cellOf HMO.out 0 _ rfl
              obtain ⟨K3, hK3⟩ := (memory_is o.f0).rounds
              go_upto_if 47 with (go_at_call 72; (with_reducible refine (weirref09_Memory.calls K3 o.f0 (memB o.f0) W9 hK3).mono ?_); rintro e w10 ⟨rfl, hd10⟩; have HG10 := Aside0.mk (HG.out.later hd10.below); clear hd10)
              as_aux_lemma =>
                obtain ⟨b0, _⟩ := HG10.out.cellOf HMO.out 0 _ rfl
                obtain ⟨b1, _⟩ := HG10.out.cellOf HMO.out 1 _ rfl
                obtain ⟨b2, _⟩ := HG10.out.cellOf HMO.out 2 _ rfl
                obtain ⟨b3, _⟩ := HG10.out.cellOf HMO.out 3 _ rfl
                obtain ⟨b4, _⟩ := HG10.out.cellOf HMO.out 4 _ rfl
                obtain ⟨c2, _⟩ := HG10.out.cellOf HMC.out 2 _ rfl
                obtain ⟨c3, _⟩ := HG10.out.cellOf HMC.out 3 _ rfl
                rw [HE2.out] at c2
                have x1 := HG10.out.spine rfl HE2.out HAA.out.hv
                obtain ⟨kk0, _⟩ := (HB5.out.later HG10.out.below).cellOf (List.mem_cons_of_mem _ List.mem_cons_self) 0 (.int .i64 y0) rfl
                cases hm : memB o.f0 with
                | true =>
                  obtain ⟨v, bb, hAt, hD⟩ := atomic_is HOK.out hm
                  obtain ⟨l0, l1⟩ := memB_loc HOK.out hm
                  obtain ⟨gm, hE3, m0, mf⟩ := HG10.out.ptrE (j := 3) rfl l0 l1
                  rw [hE3] at c3
                  have HE3 := Aside0.mk hE3
                  have HAT := Aside0.mk hAt
                  have HD := Aside0.mk hD
                  have hlen := (doM_len o (rd_L5 s.rg y0) s.me).1
                  have HLN := Aside0.mk hlen
                  clear hE3 hAt hD hlen
                  go_wp2
                  go_region_held3 (fun w' : World => w'.cell? ⟨W8.heap.size, 0, none⟩ = some (.int .i64 o.f0) ∧ w'.cell? ⟨W8.heap.size, 1, none⟩ = some (.int .i64 o.f1) ∧ w'.cell? ⟨W8.heap.size, 2, none⟩ = some (.int .i64 o.f2) ∧ w'.cell? ⟨W8.heap.size, 3, none⟩ = some (.int .i64 o.f3) ∧ w'.cell? ⟨W8.heap.size, 4, none⟩ = some (.int .i64 o.f4) ∧ w'.cell? ⟨w7.heap.size, 2, none⟩ = some (.slice (some ⟨gr, 0, none⟩) s.rg.length f2) ∧ w'.cell? ⟨w.heap.size + 1 + 1, 0, none⟩ = some (.int .i64 y0) ∧ w'.cell? ⟨gr, y0.toNat, none⟩ = some vi ∧ w'.cell? ⟨w7.heap.size, 3, none⟩ = some (.slice (some ⟨gm, 0, none⟩) s.me.length f3) ∧ w'.cell? ⟨gm, o.f3.toNat, none⟩ = some (.int .i64 (rd s.me o.f3)))
                    (first | exact ⟨b0, b1, b2, b3, b4, c2, kk0, x1, c3, m0⟩ | exact ⟨B0', B1', B2', B3', B4', C2', KK', X1', C3', M0'⟩)
                    (first | (go_at_call 73; (with_reducible refine (weirref09_Atomic.calls o.f0 o.f1 o.f2 o.f3 o.f4 (fun k => some k = vi.ownBlock) vi (rd_L5 s.rg y0) (rd s.me o.f3) v bb (doM o (rd_L5 s.rg y0) s.me).1 W5 w10.drew HG10.out.drew.below (HG10.out.drew.isR HAA.out.row) HAT.out).mono ?_); rintro e w11 ⟨rfl, hR11, hB11, hK11⟩; have HG11 := Aside0.mk (HG10.out.drew.called HAA.out.row hR11 HLN.out hB11 hK11); clear hR11 hB11 hK11; obtain ⟨B0', _⟩ := HG11.out.cellOf HMO.out 0 _ rfl; obtain ⟨B1', _⟩ := HG11.out.cellOf HMO.out 1 _ rfl; obtain ⟨B2', _⟩ := HG11.out.cellOf HMO.out 2 _ rfl; obtain ⟨B3', _⟩ := HG11.out.cellOf HMO.out 3 _ rfl; obtain ⟨B4', _⟩ := HG11.out.cellOf HMO.out 4 _ rfl; obtain ⟨C2', _⟩ := HG11.out.cellOf HMC.out 2 _ rfl; rw [HE2.out] at C2'; obtain ⟨C3', _⟩ := HG11.out.cellOf HMC.out 3 _ rfl; obtain ⟨KK', _⟩ := (HB5.out.later HG11.out.below).cellOf (List.mem_cons_of_mem _ List.mem_cons_self) 0 (.int .i64 y0) rfl; have X1' := HG11.out.spine (HAA.out.spinerow _) HE2.out HAA.out.hv; rw [HE3.out] at C3'; obtain ⟨gm', hgm, M0', mf'⟩ := HG11.out.ptrE (HAA.out.memrow _) l0 l1; obtain rfl := ptr_eq HE3.out hgm; clear hgm))
                  go_upto_region 10 with fail
                  have hfin := HG11.out.setNumE HE3.out (HAA.out.memrow _) o.f3 v
                  rw [← HD.out] at hfin
                  have HC := Aside0.mk hfin
                  clear hfin
                  go_upto_region 12 with fail
                  clear b0 b1 b2 b3 b4 c2 c3 kk0 x1 m0 mf B0' B1' B2' B3' B4' C2' C3' KK' X1' M0' mf'
                  obtain ⟨c0', _⟩ := HC.out.cellOf HMC.out 0 _ rfl
                  obtain ⟨kk0, _⟩ := (HB5.out.later HC.out.below).cellOf (List.mem_cons_of_mem _ List.mem_cons_self) 0 (.int .i64 y0) rfl
                  obtain ⟨gp, hE0, q1c, q1f⟩ := HC.out.ptrE (j := 0) (e := 3) (l := s.p) rfl i2 i4
                  rw [hE0] at c0'
                  rw [HQ.out] at q1c
                  have hw := wrap_int HQ0.out HQ1.out HMO2.out
                  have hfo := HAA.out.fin hE0 HC.out (wrap64 (q + 1))
                  have HJN := Aside0.mk (hfo.join HB5.out)
                  have hcc := hfo.cellAt HMC.out
                  have hrr := hfo.join HB5.out
                  have hrc := (hfo.join HB5.out).cellAt List.mem_cons_self
                  have HW := Aside0.mk hw
                  clear hE0 hfo hw hrr q0 q1
                  repeat (go_not_at_region 13; go_step)
                  apply wp_region_lit
                  refine wpList_load_row rfl 42 (.tmp 10) rfl w7.heap.size rfl 42 _ (0, 0) _ hcc hu42 rfl (by kernel_rfl) ?_
                  refine wpList_store_row rfl 42 (.tmp 6) (.tmp 87) rfl (w.heap.size + 1 + 1 + 1) _ rfl rfl 42 _ hrc (by kernel_rfl) rfl (all_list [.slice E0 s.p.length f0, .slice E1 s.q.length f1, .slice E2 s.rg.length f2, .slice E3 s.me.length f3, .slice E4 s.bf.length f4, .int .i64 s.lk] rfl) ?_
                  repeat go_step
                  have HJ2 := HJN.out.setAll (us' := #[.slice E0 s.p.length f0, .slice E1 s.q.length f1, .slice E2 s.rg.length f2, .slice E3 s.me.length f3, .slice E4 s.bf.length f4, .int .i64 s.lk])
                  refine bodyPost_ret (results_row_tmp rfl _ _ (w.heap.size + 1 + 1 + 1) 42 _ (0, 0) _ rfl (HJ2.cellAt List.mem_cons_self) hu42 rfl (by kernel_rfl)) rfl ?_
                  unfold StepRes
                  rw [HT.out]
                  rw [HW.out] at HJ2 ⊢
                  exact ⟨⟨_, six_set (doM_len _ _ _).2, rfl, HJ2.alone⟩, HJ2.below⟩
                | false =>
                  obtain ⟨hLo, hD⟩ := local_is HOK.out hm
                  have HLO := Aside0.mk hLo
                  have HD := Aside0.mk hD
                  have hlen := (doM_len o (rd_L5 s.rg y0) s.me).1
                  have HLN := Aside0.mk hlen
                  clear hLo hD hlen
                  go_wp2
                  go_region_held3 (fun w' : World => w'.cell? ⟨W8.heap.size, 0, none⟩ = some (.int .i64 o.f0) ∧ w'.cell? ⟨W8.heap.size, 1, none⟩ = some (.int .i64 o.f1) ∧ w'.cell? ⟨W8.heap.size, 2, none⟩ = some (.int .i64 o.f2) ∧ w'.cell? ⟨W8.heap.size, 3, none⟩ = some (.int .i64 o.f3) ∧ w'.cell? ⟨W8.heap.size, 4, none⟩ = some (.int .i64 o.f4) ∧ w'.cell? ⟨w7.heap.size, 2, none⟩ = some (.slice (some ⟨gr, 0, none⟩) s.rg.length f2) ∧ w'.cell? ⟨w.heap.size + 1 + 1, 0, none⟩ = some (.int .i64 y0) ∧ w'.cell? ⟨gr, y0.toNat, none⟩ = some vi)
                    (first | exact ⟨b0, b1, b2, b3, b4, c2, kk0, x1⟩ | exact ⟨B0', B1', B2', B3', B4', C2', KK', X1'⟩)
                    (first | (go_at_call 74; (with_reducible refine (weirref09_Local.calls o.f0 o.f1 o.f2 o.f3 o.f4 (fun k => some k = vi.ownBlock) vi (rd_L5 s.rg y0) (doM o (rd_L5 s.rg y0) s.me).1 W5 w10.drew HG10.out.drew.below (HG10.out.drew.isR HAA.out.row) HLO.out).mono ?_); rintro e w11 ⟨rfl, hR11, hB11, hK11⟩; have HG11 := Aside0.mk (HG10.out.drew.called HAA.out.row hR11 HLN.out hB11 hK11); clear hR11 hB11 hK11; obtain ⟨B0', _⟩ := HG11.out.cellOf HMO.out 0 _ rfl; obtain ⟨B1', _⟩ := HG11.out.cellOf HMO.out 1 _ rfl; obtain ⟨B2', _⟩ := HG11.out.cellOf HMO.out 2 _ rfl; obtain ⟨B3', _⟩ := HG11.out.cellOf HMO.out 3 _ rfl; obtain ⟨B4', _⟩ := HG11.out.cellOf HMO.out 4 _ rfl; obtain ⟨C2', _⟩ := HG11.out.cellOf HMC.out 2 _ rfl; rw [HE2.out] at C2'; obtain ⟨C3', _⟩ := HG11.out.cellOf HMC.out 3 _ rfl; obtain ⟨KK', _⟩ := (HB5.out.later HG11.out.below).cellOf (List.mem_cons_of_mem _ List.mem_cons_self) 0 (.int .i64 y0) rfl; have X1' := HG11.out.spine (HAA.out.spinerow _) HE2.out HAA.out.hv))
                  have hfin : Bag W5 (((stRows (.slice E0 s.p.length f0) (.slice E1 s.q.length f1) (.slice E2 s.rg.length f2) (.slice E3 s.me.length f3) (.slice E4 s.bf.length f4) vrs bfx s).set (y0.toNat + 5) (ri 2 vi (doM o (rd_L5 s.rg y0) s.me).1)).set 3 (ri 2 (.slice E3 s.me.length f3) (doM o (rd_L5 s.rg y0) s.me).2)) [(W8.heap.size, 87, #[.int .i64 o.f0, .int .i64 o.f1, .int .i64 o.f2, .int .i64 o.f3, .int .i64 o.f4]), (w7.heap.size, 42, #[.slice E0 s.p.length f0, .slice E1 s.q.length f1, .slice E2 s.rg.length f2, .slice E3 s.me.length f3, .slice E4 s.bf.length f4, .int .i64 s.lk])] w11 := by rw [HD.out, set_same (HAA.out.memrow _)]; exact HG11.out
                  have HC := Aside0.mk hfin
                  clear hfin
                  clear b0 b1 b2 b3 b4 c2 c3 kk0 x1 B0' B1' B2' B3' B4' C2' C3' KK' X1'
                  obtain ⟨c0', _⟩ := HC.out.cellOf HMC.out 0 _ rfl
                  obtain ⟨kk0, _⟩ := (HB5.out.later HC.out.below).cellOf (List.mem_cons_of_mem _ List.mem_cons_self) 0 (.int .i64 y0) rfl
                  obtain ⟨gp, hE0, q1c, q1f⟩ := HC.out.ptrE (j := 0) (e := 3) (l := s.p) rfl i2 i4
                  rw [hE0] at c0'
                  rw [HQ.out] at q1c
                  have hw := wrap_int HQ0.out HQ1.out HMO2.out
                  have hfo := HAA.out.fin hE0 HC.out (wrap64 (q + 1))
                  have HJN := Aside0.mk (hfo.join HB5.out)
                  have hcc := hfo.cellAt HMC.out
                  have hrr := hfo.join HB5.out
                  have hrc := (hfo.join HB5.out).cellAt List.mem_cons_self
                  have HW := Aside0.mk hw
                  clear hE0 hfo hw hrr q0 q1
                  repeat (go_not_at_region 13; go_step)
                  apply wp_region_lit
                  refine wpList_load_row rfl 42 (.tmp 10) rfl w7.heap.size rfl 42 _ (0, 0) _ hcc hu42 rfl (by kernel_rfl) ?_
                  refine wpList_store_row rfl 42 (.tmp 6) (.tmp 87) rfl (w.heap.size + 1 + 1 + 1) _ rfl rfl 42 _ hrc (by kernel_rfl) rfl (all_list [.slice E0 s.p.length f0, .slice E1 s.q.length f1, .slice E2 s.rg.length f2, .slice E3 s.me.length f3, .slice E4 s.bf.length f4, .int .i64 s.lk] rfl) ?_
                  repeat go_step
                  have HJ2 := HJN.out.setAll (us' := #[.slice E0 s.p.length f0, .slice E1 s.q.length f1, .slice E2 s.rg.length f2, .slice E3 s.me.length f3, .slice E4 s.bf.length f4, .int .i64 s.lk])
                  refine bodyPost_ret (results_row_tmp rfl _ _ (w.heap.size + 1 + 1 + 1) 42 _ (0, 0) _ rfl (HJ2.cellAt List.mem_cons_self) hu42 rfl (by kernel_rfl)) rfl ?_
                  unfold StepRes
                  rw [HT.out]
                  rw [HW.out] at HJ2 ⊢
                  exact ⟨⟨_, six_set (doM_len _ _ _).2, rfl, HJ2.alone⟩, HJ2.below⟩
      · have hxb : (y0 == i) = false := beq_eq_false_iff_ne.2 hx
        have hw := wrap_nat HJ.out HML.out
        go_wp2
        go_quiet (fail)
        go_wp2
        go_roundw
        case rel => exact ⟨j + 1, by rw [hw], HJ.out, ⟨fun q hq => by
          rcases Nat.lt_or_ge q j with h | h
          · exact HNO.out q h
          · obtain rfl : q = j := by omega
            rw [HY.out]
            intro e
            injection e with e
            injection e with e
            exact hx e⟩, ⟨HB.out.drewN _⟩, ⟨pw_below_drewN HW4.out _⟩⟩
        case measure => rw [hw]; exact sub_succ HJ.out
    · have hno : turnM p s i = none := by
        unfold turnM
        rw [if_neg]
        intro h
        have hm := (picksL_mem (p := p) (s := s) (n := p.th.length)).2 h
        rw [HL.out] at hm
        obtain ⟨q, hq⟩ := List.mem_iff_getElem?.1 hm
        exact HNO.out q (by have := (List.getElem?_eq_some_iff.1 hq).1; omega) hq
      have HN0 := Aside0.mk hno
      clear hno
      have hrc := (HB.out.cell _ List.mem_cons_self).2
      have hB2 := (HB.out.perm (cells' := [(w.heap.size + 1 + 1 + 1, (42 : TypeId), #[.slice none 0 0, .slice none 0 0, .slice none 0 0, .slice none 0 0, .slice none 0 0, .int .i64 0])]) (fun c hc => by rw [List.mem_singleton.1 hc]; exact List.mem_cons_self)).setAll (vs' := #[.slice none 0 0, .slice none 0 0, .slice none 0 0, .slice none 0 0, .slice none 0 0, .int .i64 0]) (fun c hc => by cases hc)
      go_wp2_with (refine wpList_store_row rfl 42 (.tmp 6) (.tmp 88) rfl (w.heap.size + 1 + 1 + 1) #[.slice none 0 0, .slice none 0 0, .slice none 0 0, .slice none 0 0, .slice none 0 0, .int .i64 0] rfl rfl 42 _ hrc (by kernel_rfl) rfl (all_list _ rfl) ?_)
      refine bodyPost_ret (results_row_tmp rfl _ _ (w.heap.size + 1 + 1 + 1) 42 _ (0, 0) _ rfl (hB2.cell _ List.mem_cons_self).2 hu42 rfl (by kernel_rfl)) rfl ?_
      unfold StepRes
      rw [HN0.out]
      exact ⟨rfl, hB2.below⟩
end Go.Proofs.Ytemhpbdlonfikaa.P
