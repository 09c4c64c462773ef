/- Programs and states, each told by one fact; a state that the call owns. -/
import Derived.Test.YtemhpbdlonfikaaDo
namespace Go.Proofs.Ytemhpbdlonfikaa.P
open Go Go.RowKit Go.Proofs.YtemhpbdlonfikaaW.PrintWords Go.Proofs.YtemhpbdlonfikaaW.PrintLast Go.Proofs.YtemhpbdlonfikaaW.PrintMore

/-- A program, told by its lists. -/
structure Pg where
  th : List (List S87)
  rg : List (List ByteArray)
  lo : List ByteArray
  r0 : List (List Int)
  m0 : List Int
/-- A state, told by its lists. -/
structure St where
  p : List Int
  q : List Int
  rg : List (List Int)
  me : List Int
  bf : List (List S59)
  lk : Int
/-- A program's five cells. -/
def PgV (W : World) (vs : List Value) (s : Pg) : Prop :=
  ∃ (A0 A1 A2 A3 A4 : Option Addr) (c0 c1 c2 c3 c4 : Nat), vs = [.slice A0 s.th.length c0, .slice A1 s.rg.length c1, .slice A2 s.lo.length c2, .slice A3 s.r0.length c3, .slice A4 s.m0.length c4] ∧
    Kd.C (Kd.slice 87 k87) W A0 s.th.length s.th ∧ s.th.length ≤ c0 ∧ Kd.C (Kd.slice 9 Kd.string) W A1 s.rg.length s.rg ∧ s.rg.length ≤ c1 ∧ Kd.C Kd.string W A2 s.lo.length s.lo ∧ s.lo.length ≤ c2 ∧
    Kd.C (Kd.slice 2 (Kd.int .i64)) W A3 s.r0.length s.r0 ∧ s.r0.length ≤ c3 ∧ Kd.C (Kd.int .i64) W A4 s.m0.length s.m0 ∧ s.m0.length ≤ c4
theorem PgV.below {W W1 : World} {vs : List Value} {s : Pg} (h : PgV W vs s) (hb : Below W.heap.size W W1) : PgV W1 vs s := by
  obtain ⟨A0, A1, A2, A3, A4, c0, c1, c2, c3, c4, rfl, h0, l0, h1, l1, h2, l2, h3, l3, h4, l4⟩ := h
  exact ⟨A0, A1, A2, A3, A4, c0, c1, c2, c3, c4, rfl, Kd.C_below h0 hb, l0, Kd.C_below h1 hb, l1, Kd.C_below h2 hb, l2, Kd.C_below h3 hb, l3, Kd.C_below h4 hb, l4⟩
/-- A state's six cells. -/
def StV (W : World) (vs : List Value) (s : St) : Prop :=
  ∃ (A0 A1 A2 A3 A4 : Option Addr) (c0 c1 c2 c3 c4 : Nat), vs = [.slice A0 s.p.length c0, .slice A1 s.q.length c1, .slice A2 s.rg.length c2, .slice A3 s.me.length c3, .slice A4 s.bf.length c4, .int .i64 s.lk] ∧
    Kd.C (Kd.int .i64) W A0 s.p.length s.p ∧ s.p.length ≤ c0 ∧ Kd.C (Kd.int .i64) W A1 s.q.length s.q ∧ s.q.length ≤ c1 ∧ Kd.C (Kd.slice 2 (Kd.int .i64)) W A2 s.rg.length s.rg ∧ s.rg.length ≤ c2 ∧
    Kd.C (Kd.int .i64) W A3 s.me.length s.me ∧ s.me.length ≤ c3 ∧ Kd.C (Kd.slice 59 k59) W A4 s.bf.length s.bf ∧ s.bf.length ≤ c4
theorem StV.below {W W1 : World} {vs : List Value} {s : St} (h : StV W vs s) (hb : Below W.heap.size W W1) : StV W1 vs s := by
  obtain ⟨A0, A1, A2, A3, A4, c0, c1, c2, c3, c4, rfl, h0, l0, h1, l1, h2, l2, h3, l3, h4, l4⟩ := h
  exact ⟨A0, A1, A2, A3, A4, c0, c1, c2, c3, c4, rfl, Kd.C_below h0 hb, l0, Kd.C_below h1 hb, l1, Kd.C_below h2 hb, l2, Kd.C_below h3 hb, l3, Kd.C_below h4 hb, l4⟩

/-- The rows of a state that is owned. -/
def stRows (vp vq vr vm vb : Value) (vrs bfx : List Value) (s : St) : List Rw :=
  ri 3 vp s.p :: ri 3 vq s.q :: ⟨26, 1, vr, s.rg.length, vrs⟩ :: ri 2 vm s.me :: ⟨57, 1, vb, s.bf.length, bfx⟩ :: List.zipWith (ri 2) vrs s.rg
/-- A state that is owned; its buffers are empty. -/
def StO (w : World) (cells : List (Nat × TypeId × Array Value)) (W : World) (vs : List Value) (s : St) : Prop :=
  ∃ (vp vq vr vm vb : Value) (vrs bfx : List Value), vs = [vp, vq, vr, vm, vb, .int .i64 s.lk] ∧ Bag w (stRows vp vq vr vm vb vrs bfx s) cells W ∧
    vrs.length = s.rg.length ∧ bfx.length = s.bf.length ∧ (∀ (j : Nat) (v : Value), bfx[j]? = some v → ∃ A c, v = .slice A 0 c) ∧ ∀ b ∈ s.bf, b = []

theorem row_form {W : World} {B : Nat} {e : TypeId} {sz n : Nat} {v : Value} {xs : List Value} (h : W.ownsRow B e sz v n xs) : ∃ A c, v = .slice A n c ∧ n ≤ c := by
  rcases h.2 with ⟨h1, h2⟩ | ⟨g, cap, cur, hv, _, _, hc, _⟩
  · subst h2; exact ⟨none, 0, h1, Nat.le_refl _⟩
  · exact ⟨_, _, hv, hc⟩
theorem row_C {W : World} {B : Nat} {e : TypeId} {A : Option Addr} {c : Nat} {l : List Int} (h : W.ownsRow B e 1 (.slice A l.length c) l.length (nums .i64 l)) : Kd.C (Kd.int .i64) W A l.length l :=
  (Kd.R_reads' (d := Kd.int .i64) (Kd.R_of_own (ok := fun _ => True) h (fun _ _ => trivial))).2.2
/-- A row of slices, read. -/
theorem rows_C {W : World} {α : Type} {d : Kd α} {B : Nat} {e : TypeId} {sp : Nat} {A : Option Addr} {c : Nat} {l : List (List α)} {vs : List Value} (hO : W.ownsRow B sp 1 (.slice A l.length c) l.length vs)
    (h : ∀ (j : Nat) (v : Value) (x : List α), vs[j]? = some v → l[j]? = some x → ∃ A' c', v = .slice A' x.length c' ∧ x.length ≤ c' ∧ d.C W A' x.length x) :
    Kd.C (Kd.slice e d) W A l.length l := by
  have hlen : vs.length = l.length := by have := hO.1; rwa [Nat.mul_one] at this
  have hmax : l.length ≤ 9223372036854775807 := by
    rcases hO.2 with ⟨_, h2⟩ | ⟨_, _, _, _, _, _, h1, h2, _⟩
    · omega
    · have : maxLen ≤ 9223372036854775807 := by decide
      omega
  refine ⟨rfl, hmax, fun hn => ?_⟩
  rcases hO.2 with ⟨_, h2⟩ | ⟨g, cap, cur, hv, _⟩
  · omega
  · injection hv with hA _ _
    subst hA
    refine ⟨_, rfl, fun j p hj => ?_⟩
    obtain ⟨hjl, _⟩ := List.getElem?_eq_some_iff.1 hj
    have hvj : vs[j]? = some (vs[j]'(by omega)) := List.getElem?_eq_getElem _
    obtain ⟨A', c', e1, e2, e3⟩ := h j _ p hvj hj
    refine ⟨[vs[j]'(by omega)], rfl, ⟨A', c', by rw [e1], e2, e3⟩, fun i u hu => ?_⟩
    have hi : i = 0 := by
      rcases i with _ | i
      · rfl
      · simp at hu
    subst hi
    have hu' : u = vs[j]'(by omega) := by simpa using hu.symm
    subst hu'
    have hc := hO.cells (g := g) rfl j _ hvj
    show W.cell? (Addr.add ⟨g, 0, none⟩ (j * 1 + 0)) = _
    rw [Nat.mul_one, Nat.add_zero]
    exact hc

theorem zip_row {vrs : List Value} {rg : List (List Int)} {i : Nat} {v : Value} {r : List Int} (h1 : vrs[i]? = some v) (h2 : rg[i]? = some r) : (List.zipWith (ri 2) vrs rg)[i]? = some (ri 2 v r) := by
  rw [List.getElem?_zipWith, h1, h2]
theorem stRows_rg {vp vq vr vm vb : Value} {vrs bfx : List Value} {s : St} {i : Nat} {v : Value} {r : List Int} (h1 : vrs[i]? = some v) (h2 : s.rg[i]? = some r) : (stRows vp vq vr vm vb vrs bfx s)[i + 5]? = some (ri 2 v r) :=
  zip_row h1 h2
theorem StO.read {w W : World} {cells : List (Nat × TypeId × Array Value)} {vs : List Value} {s : St} (h : StO w cells W vs s) : StV W vs s := by
  obtain ⟨vp, vq, vr, vm, vb, vrs, bfx, rfl, hb, hl, hlb, hbf, hbe⟩ := h
  have h0 := hb.row 0 _ rfl
  have h1 := hb.row 1 _ rfl
  have h2 := hb.row 2 _ rfl
  have h3 := hb.row 3 _ rfl
  have h4 := hb.row 4 _ rfl
  obtain ⟨A0, c0, e0, l0⟩ := row_form h0
  obtain ⟨A1, c1, e1, l1⟩ := row_form h1
  obtain ⟨A2, c2, e2, l2⟩ := row_form h2
  obtain ⟨A3, c3, e3, l3⟩ := row_form h3
  obtain ⟨A4, c4, e4, l4⟩ := row_form h4
  simp only [ri] at e0 e1 e2 e3 e4 h0 h1 h2 h3 h4 l0 l1 l2 l3 l4
  subst e0 e1 e2 e3 e4
  refine ⟨A0, A1, A2, A3, A4, c0, c1, c2, c3, c4, rfl, row_C h0, l0, row_C h1, l1, rows_C h2 fun j v x hv hx => ?_, l2, row_C h3, l3, rows_C h4 fun j v x hv hx => ?_, l4⟩
  · have h5 := hb.row (j + 5) _ (stRows_rg hv hx)
    obtain ⟨A5, c5, e5, l5⟩ := row_form h5
    simp only [ri] at e5 h5 l5
    subst e5
    exact ⟨A5, c5, rfl, l5, row_C h5⟩
  · obtain ⟨A5, c5, rfl⟩ := hbf j v hv
    obtain rfl := hbe x (List.mem_of_getElem? hx)
    exact ⟨A5, c5, rfl, Nat.zero_le _, rfl, by simp, fun h => absurd h (Nat.lt_irrefl 0)⟩
theorem StO.later {w W W' : World} {cells : List (Nat × TypeId × Array Value)} {vs : List Value} {s : St} (h : StO w cells W vs s) (hb : Below W.heap.size W W') : StO w cells W' vs s := by
  obtain ⟨vp, vq, vr, vm, vb, vrs, bfx, rfl, h1, h2⟩ := h
  exact ⟨vp, vq, vr, vm, vb, vrs, bfx, rfl, h1.later hb, h2⟩
end Go.Proofs.Ytemhpbdlonfikaa.P
