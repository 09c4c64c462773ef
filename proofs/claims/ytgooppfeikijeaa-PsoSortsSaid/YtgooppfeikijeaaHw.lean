/- PsoSorts' own walk: each State told by one fact. -/
import Derived.Test.YtgooppfeikijeaaP8
import Derived.Test.YtgooppfeikijeaaP10
import Derived.Test.YtgooppfeikijeaaP11
import Derived.Deep.RegionWith
namespace Go.Proofs.Ytgooppfeikijeaa.P
open Go.RowKit Go.Proofs.YtgooppfeikijeaaW.PrintWords Go.Proofs.YtgooppfeikijeaaW.PrintLast Go.Proofs.YtgooppfeikijeaaW.PrintMore

/-- A State, told by its lists. -/
structure St where
  p : List Int
  q : List Int
  rg : List (List Int)
  me : List Int
  bf : List (List S37)
  lk : Int
/-- A State's six cells. -/
def StV (W : World) (vs : List Value) (s : St) : Prop :=
  ∃ (A0 A1 A2 A3 A4 : Option Addr) (c0 c1 c2 c3 c4 : Nat), vs = [.slice A0 s.p.length c0, .slice A1 s.q.length c1, .slice A2 s.rg.length c2, .slice A3 s.me.length c3, .slice A4 s.bf.length c4, .int .i64 s.lk] ∧
    Kd.C (Kd.int .i64) W A0 s.p.length s.p ∧ s.p.length ≤ c0 ∧ Kd.C (Kd.int .i64) W A1 s.q.length s.q ∧ s.q.length ≤ c1 ∧ Kd.C (Kd.slice 2 (Kd.int .i64)) W A2 s.rg.length s.rg ∧ s.rg.length ≤ c2 ∧
    Kd.C (Kd.int .i64) W A3 s.me.length s.me ∧ s.me.length ≤ c3 ∧ Kd.C (Kd.slice 37 k37) W A4 s.bf.length s.bf ∧ s.bf.length ≤ c4
theorem StV.below {W W1 : World} {vs : List Value} {s : St} (h : StV W vs s) (hb : Below W.heap.size W W1) : StV W1 vs s := by
  obtain ⟨A0, A1, A2, A3, A4, c0, c1, c2, c3, c4, rfl, h0, l0, h1, l1, h2, l2, h3, l3, h4, l4⟩ := h
  exact ⟨A0, A1, A2, A3, A4, c0, c1, c2, c3, c4, rfl, Kd.C_below h0 hb, l0, Kd.C_below h1 hb, l1, Kd.C_below h2 hb, l2, Kd.C_below h3 hb, l3, Kd.C_below h4 hb, l4⟩

theorem copyB {k : Nat} {w : World} {a b c d e f : Value} {s t : St} (hs : StV w [a, b, c, d, e, f] s) (h : weirref11_Copy.f k s.p s.q s.rg s.me s.bf s.lk = some (t.p, t.q, t.rg, t.me, t.bf, t.lk)) :
    Calls Try.prog 4 #[.agg #[a, b, c, d, e, f]] w fun en w' => ∃ (B0 B1 B2 B3 B4 : Option Addr) (d0 d1 d2 d3 d4 : Nat), en = .returned (.agg #[.slice B0 t.p.length d0, .slice B1 t.q.length d1, .slice B2 t.rg.length d2, .slice B3 t.me.length d3, .slice B4 t.bf.length d4, .int .i64 t.lk]) ∧ StV w' [.slice B0 t.p.length d0, .slice B1 t.q.length d1, .slice B2 t.rg.length d2, .slice B3 t.me.length d3, .slice B4 t.bf.length d4, .int .i64 t.lk] t ∧ Below w.heap.size w w' := by
  obtain ⟨A0, A1, A2, A3, A4, c0, c1, c2, c3, c4, he, h0, l0, h1, l1, h2, l2, h3, l3, h4, l4⟩ := hs
  simp only [List.cons.injEq, and_true] at he
  obtain ⟨rfl, rfl, rfl, rfl, rfl, rfl⟩ := he
  refine (weirref11_Copy.calls k A0 c0 s.p A1 c1 s.q A2 c2 s.rg A3 c3 s.me A4 c4 s.bf s.lk t.p t.q t.rg t.me t.bf t.lk w h0 l0 h1 l1 h2 l2 h3 l3 h4 l4 h).mono ?_
  rintro en w' ⟨v0, v1, v2, v3, v4, rfl, r0, r1, r2, r3, r4, hb⟩
  obtain ⟨B0, d0, rfl, m0, k0⟩ := Kd.R_reads r0
  obtain ⟨B1, d1, rfl, m1, k1⟩ := Kd.R_reads r1
  obtain ⟨B2, d2, rfl, m2, k2⟩ := Kd.S_reads r2
  obtain ⟨B3, d3, rfl, m3, k3⟩ := Kd.R_reads r3
  obtain ⟨B4, d4, rfl, m4, k4⟩ := Kd.S_reads r4
  exact ⟨B0, B1, B2, B3, B4, d0, d1, d2, d3, d4, rfl, ⟨B0, B1, B2, B3, B4, d0, d1, d2, d3, d4, rfl, k0, m0, k1, m1, k2, m2, k3, m3, k4, m4⟩, hb⟩
theorem sortB {k : Nat} {w : World} {a b c d e f : Value} {s t : St} (hs : StV w [a, b, c, d, e, f] s) (h : pso_Sorted.f k s.p s.q s.rg s.me s.bf s.lk = some (t.p, t.q, t.rg, t.me, t.bf, t.lk)) :
    Calls Try.prog 5 #[.agg #[a, b, c, d, e, f]] w fun en w' => ∃ (B0 B1 B2 B3 B4 : Option Addr) (d0 d1 d2 d3 d4 : Nat), en = .returned (.agg #[.slice B0 t.p.length d0, .slice B1 t.q.length d1, .slice B2 t.rg.length d2, .slice B3 t.me.length d3, .slice B4 t.bf.length d4, .int .i64 t.lk]) ∧ StV w' [.slice B0 t.p.length d0, .slice B1 t.q.length d1, .slice B2 t.rg.length d2, .slice B3 t.me.length d3, .slice B4 t.bf.length d4, .int .i64 t.lk] t ∧ Below w.heap.size w w' := by
  obtain ⟨A0, A1, A2, A3, A4, c0, c1, c2, c3, c4, he, h0, l0, h1, l1, h2, l2, h3, l3, h4, l4⟩ := hs
  simp only [List.cons.injEq, and_true] at he
  obtain ⟨rfl, rfl, rfl, rfl, rfl, rfl⟩ := he
  refine (pso_Sorted.calls k A0 c0 s.p A1 c1 s.q A2 c2 s.rg A3 c3 s.me A4 c4 s.bf s.lk t.p t.q t.rg t.me t.bf t.lk w h0 l0 h1 l1 h2 l2 h3 l3 h4 l4 h).mono ?_
  rintro en w' ⟨v0, v1, v2, v3, v4, rfl, r0, r1, r2, r3, r4, hb⟩
  obtain ⟨B0, d0, rfl, m0, k0⟩ := Kd.R_reads r0
  obtain ⟨B1, d1, rfl, m1, k1⟩ := Kd.R_reads r1
  obtain ⟨B2, d2, rfl, m2, k2⟩ := Kd.S_reads r2
  obtain ⟨B3, d3, rfl, m3, k3⟩ := Kd.R_reads r3
  obtain ⟨B4, d4, rfl, m4, k4⟩ := Kd.S_reads r4
  exact ⟨B0, B1, B2, B3, B4, d0, d1, d2, d3, d4, rfl, ⟨B0, B1, B2, B3, B4, d0, d1, d2, d3, d4, rfl, k0, m0, k1, m1, k2, m2, k3, m3, k4, m4⟩, hb⟩
theorem refB {k : Nat} {w : World} {a b c d e f : Value} {s t : St} (hs : StV w [a, b, c, d, e, f] s) (h : weirref13_Sorted.f k s.p s.q s.rg s.me s.bf s.lk = some (t.p, t.q, t.rg, t.me, t.bf, t.lk)) :
    Calls Try.prog 6 #[.agg #[a, b, c, d, e, f]] w fun en w' => ∃ (B0 B1 B2 B3 B4 : Option Addr) (d0 d1 d2 d3 d4 : Nat), en = .returned (.agg #[.slice B0 t.p.length d0, .slice B1 t.q.length d1, .slice B2 t.rg.length d2, .slice B3 t.me.length d3, .slice B4 t.bf.length d4, .int .i64 t.lk]) ∧ StV w' [.slice B0 t.p.length d0, .slice B1 t.q.length d1, .slice B2 t.rg.length d2, .slice B3 t.me.length d3, .slice B4 t.bf.length d4, .int .i64 t.lk] t ∧ Below w.heap.size w w' := by
  obtain ⟨A0, A1, A2, A3, A4, c0, c1, c2, c3, c4, he, h0, l0, h1, l1, h2, l2, h3, l3, h4, l4⟩ := hs
  simp only [List.cons.injEq, and_true] at he
  obtain ⟨rfl, rfl, rfl, rfl, rfl, rfl⟩ := he
  refine (weirref13_Sorted.calls k A0 c0 s.p A1 c1 s.q A2 c2 s.rg A3 c3 s.me A4 c4 s.bf s.lk t.p t.q t.rg t.me t.bf t.lk w h0 l0 h1 l1 h2 l2 h3 l3 h4 l4 h).mono ?_
  rintro en w' ⟨v0, v1, v2, v3, v4, rfl, r0, r1, r2, r3, r4, hb⟩
  obtain ⟨B0, d0, rfl, m0, k0⟩ := Kd.R_reads r0
  obtain ⟨B1, d1, rfl, m1, k1⟩ := Kd.R_reads r1
  obtain ⟨B2, d2, rfl, m2, k2⟩ := Kd.N_reads r2
  obtain ⟨B3, d3, rfl, m3, k3⟩ := Kd.R_reads r3
  obtain ⟨B4, d4, rfl, m4, k4⟩ := Kd.N_reads r4
  exact ⟨B0, B1, B2, B3, B4, d0, d1, d2, d3, d4, rfl, ⟨B0, B1, B2, B3, B4, d0, d1, d2, d3, d4, rfl, k0, m0, k1, m1, k2, m2, k3, m3, k4, m4⟩, hb⟩

/-- A State's cells in a variable's block. -/
def Box6 (W : World) (g : Nat) (a b c d e f : Value) : Prop :=
  W.cell? ⟨g, 0, none⟩ = some a ∧ W.cell? ⟨g, 1, none⟩ = some b ∧ W.cell? ⟨g, 2, none⟩ = some c ∧ W.cell? ⟨g, 3, none⟩ = some d ∧ W.cell? ⟨g, 4, none⟩ = some e ∧ W.cell? ⟨g, 5, none⟩ = some f
theorem Box6.below {W W1 : World} {g : Nat} {a b c d e f : Value} (h : Box6 W g a b c d e f) (hb : Below W.heap.size W W1) : Box6 W1 g a b c d e f :=
  ⟨pw_cell_below hb h.1, pw_cell_below hb h.2.1, pw_cell_below hb h.2.2.1, pw_cell_below hb h.2.2.2.1, pw_cell_below hb h.2.2.2.2.1, pw_cell_below hb h.2.2.2.2.2⟩
theorem Box6.new (W : World) (a b c d e f : Value) : Box6 (W.alloc (.cells #[a, b, c, d, e, f] 27)) W.heap.size a b c d e f := by
  refine ⟨?_, ?_, ?_, ?_, ?_, ?_⟩ <;> (rw [World.cell?_alloc_new]; rfl)
theorem then2 {W w' : World} (hb : Below W.drew.heap.size W.drew w') : Below W.heap.size W w' := below_then (below_drew (Below.refl W.heap.size W)) (Nat.le_refl _) hb
theorem sameB {k : Nat} {w : World} {a b c d e f a1 b1 c1 d1 e1 f1 : Value} {s t : St} {r : Bool} (hs : StV w [a, b, c, d, e, f] s) (ht : StV w [a1, b1, c1, d1, e1, f1] t)
    (h : weirlaw11_SameStates.f k s.p s.q s.rg s.me s.bf s.lk t.p t.q t.rg t.me t.bf t.lk = some r) :
    Calls Try.prog 7 #[.agg #[a, b, c, d, e, f], .agg #[a1, b1, c1, d1, e1, f1]] w fun en w' => en = .returned (.bool r) ∧ Below w.heap.size w w' := by
  obtain ⟨A0, A1, A2, A3, A4, c0, c1, c2, c3, c4, he, h0, l0, h1, l1, h2, l2, h3, l3, h4, l4⟩ := hs
  simp only [List.cons.injEq, and_true] at he
  obtain ⟨rfl, rfl, rfl, rfl, rfl, rfl⟩ := he
  obtain ⟨B0, B1, B2, B3, B4, d0, d1, d2, d3, d4, he, k0, m0, k1, m1, k2, m2, k3, m3, k4, m4⟩ := ht
  simp only [List.cons.injEq, and_true] at he
  obtain ⟨rfl, rfl, rfl, rfl, rfl, rfl⟩ := he
  exact weirlaw11_SameStates.calls k A0 c0 s.p A1 c1 s.q A2 c2 s.rg A3 c3 s.me A4 c4 s.bf s.lk B0 d0 t.p B1 d1 t.q B2 d2 t.rg B3 d3 t.me B4 d4 t.bf t.lk r w h0 l0 h1 l1 h2 l2 h3 l3 h4 l4 k0 m0 k1 m1 k2 m2 k3 m3 k4 m4 h

set_option maxHeartbeats 2000000 in
set_option maxRecDepth 100000 in
theorem psoSorts_walk {k : Nat} {w : World} {a b c d e f : Value} {s s1 s2 s3 s4 : St} (hs : StV w [a, b, c, d, e, f] s)
    (h1 : weirref11_Copy.f k s.p s.q s.rg s.me s.bf s.lk = some (s1.p, s1.q, s1.rg, s1.me, s1.bf, s1.lk))
    (h2 : pso_Sorted.f k s1.p s1.q s1.rg s1.me s1.bf s1.lk = some (s2.p, s2.q, s2.rg, s2.me, s2.bf, s2.lk))
    (h3 : weirref13_Sorted.f k s.p s.q s.rg s.me s.bf s.lk = some (s3.p, s3.q, s3.rg, s3.me, s3.bf, s3.lk))
    (h4 : weirlaw11_SameStates.f k s2.p s2.q s2.rg s2.me s2.bf s2.lk s3.p s3.q s3.rg s3.me s3.bf s3.lk = some true)
    (h5 : weirlaw11_SameStates.f k s1.p s1.q s1.rg s1.me s1.bf s1.lk s.p s.q s.rg s.me s.bf s.lk = some true)
    (h6 : pso_Sorted.f k s2.p s2.q s2.rg s2.me s2.bf s2.lk = some (s4.p, s4.q, s4.rg, s4.me, s4.bf, s4.lk))
    (h7 : weirlaw11_SameStates.f k s4.p s4.q s4.rg s4.me s4.bf s4.lk s3.p s3.q s3.rg s3.me s3.bf s3.lk = some true) :
    Calls Try.prog 3 #[.agg #[a, b, c, d, e, f]] w fun en w' => en = .returned (.bool true) ∧ Below w.heap.size w w' := by
  have hu27 := Try.underlying27
  have H1 := Aside0.mk h1
  have H2 := Aside0.mk h2
  have H3 := Aside0.mk h3
  have H4 := Aside0.mk h4
  have H5 := Aside0.mk h5
  have H6 := Aside0.mk h6
  have H7 := Aside0.mk h7
  have HS := Aside0.mk hs
  clear h1 h2 h3 h4 h5 h6 h7 hs
  go_enter Try.func3, Try.ntmps3
  go_wp2_with (first
    | (go_at_call 4; refine (copyB (HS.out.below (below_alloc (Below.refl _ _) _)) H1.out).mono ?_; rintro en w1 ⟨B0, B1, B2, B3, B4, d0, d1, d2, d3, d4, rfl, hS, hB⟩; have HS1 := Aside0.mk hS; have HX := Aside0.mk ((Box6.new w a b c d e f).below hB); have HB := Aside0.mk (below_then (below_alloc (Below.refl _ w) _) (by simp) hB); replace HS := Aside0.mk (HS.out.below HB.out); clear hS hB)
    | (go_at_call 5; refine (sortB (HS1.out.below (below_alloc (Below.refl _ _) _)) H2.out).mono ?_; rintro en w2 ⟨D0, D1, D2, D3, D4, e0, e1, e2, e3, e4, rfl, hS, hB⟩; have HS2 := Aside0.mk hS; have HX1 := Aside0.mk ((Box6.new w1 _ _ _ _ _ _).below hB); have hB' := below_then (below_alloc (Below.refl _ w1) _) (by simp) hB; replace HS := Aside0.mk (HS.out.below hB'); replace HS1 := Aside0.mk (HS1.out.below hB'); replace HX := Aside0.mk (HX.out.below hB'); replace HB := Aside0.mk (below_then HB.out HB.out.size hB'); clear hS hB hB'; obtain ⟨x0, x1, x2, x3, x4, x5⟩ := HX.out.below (below_alloc (Below.refl _ _) (.cells #[.slice D0 s2.p.length e0, .slice D1 s2.q.length e1, .slice D2 s2.rg.length e2, .slice D3 s2.me.length e3, .slice D4 s2.bf.length e4, .int .i64 s2.lk] 27)))
    | (go_at_call 6; refine (refB (HS.out.below (below_alloc (Below.refl _ _) _)) H3.out).mono ?_; rintro en w3 ⟨F0, F1, F2, F3, F4, f0, f1, f2, f3, f4, rfl, hS, hB⟩; have HS3 := Aside0.mk hS; have HX2 := Aside0.mk ((Box6.new w2 _ _ _ _ _ _).below hB); have hB' := below_then (below_alloc (Below.refl _ w2) _) (by simp) hB; replace HS := Aside0.mk (HS.out.below hB'); replace HS1 := Aside0.mk (HS1.out.below hB'); replace HS2 := Aside0.mk (HS2.out.below hB'); replace HX := Aside0.mk (HX.out.below hB'); replace HX1 := Aside0.mk (HX1.out.below hB'); replace HB := Aside0.mk (below_then HB.out HB.out.size hB'); clear hS hB hB' x0 x1 x2 x3 x4 x5))
  obtain ⟨W4, hW4⟩ : ∃ W4, w3.alloc (.cells #[.slice F0 s3.p.length f0, .slice F1 s3.q.length f1, .slice F2 s3.rg.length f2, .slice F3 s3.me.length f3, .slice F4 s3.bf.length f4, .int .i64 s3.lk] 27) = W4 := ⟨_, rfl⟩
  have HX3 := Aside0.mk (Box6.new w3 (.slice F0 s3.p.length f0) (.slice F1 s3.q.length f1) (.slice F2 s3.rg.length f2) (.slice F3 s3.me.length f3) (.slice F4 s3.bf.length f4) (.int .i64 s3.lk))
  have hB' : Below w3.heap.size w3 W4 := by rw [← hW4]; exact below_alloc (Below.refl _ _) _
  rw [hW4] at HX3 ⊢
  clear hW4
  replace HS := Aside0.mk (HS.out.below hB')
  replace HS1 := Aside0.mk (HS1.out.below hB')
  replace HS2 := Aside0.mk (HS2.out.below hB')
  replace HS3 := Aside0.mk (HS3.out.below hB')
  replace HX := Aside0.mk (HX.out.below hB')
  replace HX1 := Aside0.mk (HX1.out.below hB')
  replace HX2 := Aside0.mk (HX2.out.below hB')
  replace HB := Aside0.mk (below_then HB.out HB.out.size hB')
  clear hB'
  obtain ⟨x00, x01, x02, x03, x04, x05⟩ := HX.out
  obtain ⟨x10, x11, x12, x13, x14, x15⟩ := HX1.out
  obtain ⟨x20, x21, x22, x23, x24, x25⟩ := HX2.out
  obtain ⟨x30, x31, x32, x33, x34, x35⟩ := HX3.out
  go_region_with (first | (go_at_call 7; (with_reducible refine (sameB (s := s2) (t := s3) ?p1 ?p2 H4.out).mono ?_); (case p1 => exact HS2.out.below (by first | exact Below.refl _ _ | exact below_drew (Below.refl _ _))); (case p2 => exact HS3.out.below (by first | exact Below.refl _ _ | exact below_drew (Below.refl _ _))); rintro en w5 ⟨rfl, hb⟩; (first | have hB' := then2 hb | have hB' := hb); replace HS := Aside0.mk (HS.out.below hB'); replace HS1 := Aside0.mk (HS1.out.below hB'); replace HS2 := Aside0.mk (HS2.out.below hB'); replace HS3 := Aside0.mk (HS3.out.below hB'); replace HX := Aside0.mk (HX.out.below hB'); replace HX1 := Aside0.mk (HX1.out.below hB'); replace HX2 := Aside0.mk (HX2.out.below hB'); replace HX3 := Aside0.mk (HX3.out.below hB'); replace HB := Aside0.mk (below_then HB.out HB.out.size hB'); clear hb hB'; obtain ⟨y500, y501, y502, y503, y504, y505⟩ := HX.out; obtain ⟨y510, y511, y512, y513, y514, y515⟩ := HX1.out; obtain ⟨y520, y521, y522, y523, y524, y525⟩ := HX2.out; obtain ⟨y530, y531, y532, y533, y534, y535⟩ := HX3.out) | (go_at_call 7; (with_reducible refine (sameB (s := s1) (t := s) ?p1 ?p2 H5.out).mono ?_); (case p1 => exact HS1.out.below (by first | exact Below.refl _ _ | exact below_drew (Below.refl _ _))); (case p2 => exact HS.out.below (by first | exact Below.refl _ _ | exact below_drew (Below.refl _ _))); rintro en w6 ⟨rfl, hb⟩; (first | have hB' := then2 hb | have hB' := hb); replace HS := Aside0.mk (HS.out.below hB'); replace HS1 := Aside0.mk (HS1.out.below hB'); replace HS2 := Aside0.mk (HS2.out.below hB'); replace HS3 := Aside0.mk (HS3.out.below hB'); replace HX := Aside0.mk (HX.out.below hB'); replace HX1 := Aside0.mk (HX1.out.below hB'); replace HX2 := Aside0.mk (HX2.out.below hB'); replace HX3 := Aside0.mk (HX3.out.below hB'); replace HB := Aside0.mk (below_then HB.out HB.out.size hB'); clear hb hB'; obtain ⟨y600, y601, y602, y603, y604, y605⟩ := HX.out; obtain ⟨y610, y611, y612, y613, y614, y615⟩ := HX1.out; obtain ⟨y620, y621, y622, y623, y624, y625⟩ := HX2.out; obtain ⟨y630, y631, y632, y633, y634, y635⟩ := HX3.out) | (go_at_call 5; (with_reducible refine (sortB (s := s2) (t := s4) ?p1 H6.out).mono ?_); (case p1 => exact HS2.out.below (by first | exact Below.refl _ _ | exact below_drew (Below.refl _ _))); rintro en w7 ⟨G0, G1, G2, G3, G4, g0, g1, g2, g3, g4, rfl, hS, hb⟩; have HS4 := Aside0.mk hS; clear hS; (first | have hB' := then2 hb | have hB' := hb); replace HS := Aside0.mk (HS.out.below hB'); replace HS1 := Aside0.mk (HS1.out.below hB'); replace HS2 := Aside0.mk (HS2.out.below hB'); replace HS3 := Aside0.mk (HS3.out.below hB'); replace HX := Aside0.mk (HX.out.below hB'); replace HX1 := Aside0.mk (HX1.out.below hB'); replace HX2 := Aside0.mk (HX2.out.below hB'); replace HX3 := Aside0.mk (HX3.out.below hB'); replace HB := Aside0.mk (below_then HB.out HB.out.size hB'); clear hb hB'; obtain ⟨y700, y701, y702, y703, y704, y705⟩ := HX.out; obtain ⟨y710, y711, y712, y713, y714, y715⟩ := HX1.out; obtain ⟨y720, y721, y722, y723, y724, y725⟩ := HX2.out; obtain ⟨y730, y731, y732, y733, y734, y735⟩ := HX3.out) | (go_at_call 7; (with_reducible refine (sameB (s := s4) (t := s3) ?p1 ?p2 H7.out).mono ?_); (case p1 => exact HS4.out.below (by first | exact Below.refl _ _ | exact below_drew (Below.refl _ _))); (case p2 => exact HS3.out.below (by first | exact Below.refl _ _ | exact below_drew (Below.refl _ _))); rintro en w8 ⟨rfl, hb⟩; (first | have hB' := then2 hb | have hB' := hb); replace HS := Aside0.mk (HS.out.below hB'); replace HS1 := Aside0.mk (HS1.out.below hB'); replace HS2 := Aside0.mk (HS2.out.below hB'); replace HS3 := Aside0.mk (HS3.out.below hB'); replace HX := Aside0.mk (HX.out.below hB'); replace HX1 := Aside0.mk (HX1.out.below hB'); replace HX2 := Aside0.mk (HX2.out.below hB'); replace HX3 := Aside0.mk (HX3.out.below hB'); replace HB := Aside0.mk (below_then HB.out HB.out.size hB'); clear hb hB'; obtain ⟨y800, y801, y802, y803, y804, y805⟩ := HX.out; obtain ⟨y810, y811, y812, y813, y814, y815⟩ := HX1.out; obtain ⟨y820, y821, y822, y823, y824, y825⟩ := HX2.out; obtain ⟨y830, y831, y832, y833, y834, y835⟩ := HX3.out))
  all_goals go_wp2_with fail
  all_goals go_ret
  all_goals exact ⟨rfl, HB.out⟩
end Go.Proofs.Ytgooppfeikijeaa.P
