/- What a function holds: rows and blocks of its own, all apart; what lies below is as it was. -/
import Derived.Test.YtemhpbdlonfikaaP0

namespace Go.Proofs.Ytemhpbdlonfikaa.P
open Go Go.RowKit Go.Proofs.YtemhpbdlonfikaaW.PrintWords Go.Proofs.YtemhpbdlonfikaaW.PrintLast Go.Proofs.YtemhpbdlonfikaaW.PrintMore

/-- A row of one's own: its elements' type, their cells, its value, its length, its cells. -/
structure Rw where
  e : TypeId
  sz : Nat
  v : Value
  n : Nat
  xs : List Value
/-- A row of whole numbers. -/
def ri (e : TypeId) (v : Value) (l : List Int) : Rw := ⟨e, 1, v, l.length, nums .i64 l⟩
structure Bag (w : World) (rows : List Rw) (cells : List (Nat × TypeId × Array Value)) (W : World) : Prop where
  row : ∀ (j : Nat) (r : Rw), rows[j]? = some r → W.ownsRow w.heap.size r.e r.sz r.v r.n r.xs
  apart : ∀ (i j : Nat) (p q : Rw), i ≠ j → rows[i]? = some p → rows[j]? = some q → ∀ k, p.v.ownBlock = some k → q.v.ownBlock ≠ some k
  cell : ∀ c ∈ cells, w.heap.size ≤ c.1 ∧ W.heap[c.1]? = some (.cells c.2.2 c.2.1 (0, 0))
  away : ∀ c ∈ cells, ∀ (j : Nat) (r : Rw), rows[j]? = some r → r.v.ownBlock ≠ some c.1
  below : Below w.heap.size w W

variable {w W : World} {rows : List Rw} {cells : List (Nat × TypeId × Array Value)}

theorem Bag.nil (w : World) : Bag w [] [] w := ⟨by simp, by simp, by simp, by simp, Below.refl _ _⟩
theorem Bag.lt (h : Bag w rows cells W) {j : Nat} {r : Rw} (hj : rows[j]? = some r) {k : Nat} (hk : r.v.ownBlock = some k) : k < W.heap.size := own_lt (h.row j r hj) k hk
theorem Bag.cell_lt (h : Bag w rows cells W) {c : Nat × TypeId × Array Value} (hc : c ∈ cells) : c.1 < W.heap.size := (Array.getElem?_eq_some_iff.1 (h.cell c hc).2).1
theorem Bag.later (h : Bag w rows cells W) {W' : World} (hb : Below W.heap.size W W') : Bag w rows cells W' := by
  refine ⟨fun j r hj => ?_, h.apart, fun c hc => ⟨(h.cell c hc).1, ?_⟩, h.away, ?_⟩
  · exact (h.row j r hj).kept (row := none) ⟨hb.os, hb.tape, hb.output, hb.size, fun k hk _ => hb.block k hk⟩ (by cases hq : r.v.ownBlock with
      | none => exact .inl rfl
      | some g => exact .inr (fun e => by cases e))
  · exact (hb.block c.1 (h.cell_lt hc)).trans (h.cell c hc).2
  · exact below_then h.below h.below.size hb
theorem Bag.drewN (h : Bag w rows cells W) (m : Nat) : Bag w rows cells (W.drewN m) := h.later ⟨rfl, rfl, rfl, Nat.le_refl _, fun _ _ => rfl⟩
theorem Bag.drew (h : Bag w rows cells W) : Bag w rows cells W.drew := h.later (below_drew (Below.refl _ _))

/-- One row was written. -/
theorem Bag.wrote (h : Bag w rows cells W) {j : Nat} {r : Rw} (hj : rows[j]? = some r) {W' : World} {xs : List Value} (hr : W'.ownsRow w.heap.size r.e r.sz r.v r.n xs)
    (hb : Below w.heap.size w W') (hs : W.heap.size ≤ W'.heap.size) (hk : ∀ k, k < W.heap.size → some k ≠ r.v.ownBlock → W'.heap[k]? = W.heap[k]?) (hos : W'.os = W.os) (htape : W'.tape = W.tape) (hout : W'.output = W.output) :
    Bag w (rows.set j { r with xs := xs }) cells W' := by
  have hjl : j < rows.length := (List.getElem?_eq_some_iff.1 hj).1
  have key : ∀ (i : Nat) (p : Rw), (rows.set j { r with xs := xs })[i]? = some p → (i = j ∧ p = { r with xs := xs }) ∨ (i ≠ j ∧ rows[i]? = some p) := fun i p hp => by
    rw [List.getElem?_set] at hp
    split at hp
    · rename_i hij
      exact .inl ⟨hij.symm, (Option.some.inj hp).symm⟩
    · rename_i hij
      exact .inr ⟨fun e => hij e.symm, hp⟩
  have blk : ∀ (i : Nat) (p : Rw), (rows.set j { r with xs := xs })[i]? = some p → ∃ q, rows[i]? = some q ∧ q.v = p.v := fun i p hp => by
    rcases key i p hp with ⟨rfl, rfl⟩ | ⟨_, h1⟩
    · exact ⟨r, hj, rfl⟩
    · exact ⟨p, h1, rfl⟩
  refine ⟨fun i p hp => ?_, fun a b p q hab hp hq k hpk => ?_, fun c hc => ⟨(h.cell c hc).1, ?_⟩, fun c hc i p hp => ?_, hb⟩
  · rcases key i p hp with ⟨rfl, rfl⟩ | ⟨hne, h1⟩
    · exact hr
    · refine (h.row i p h1).kept (row := r.v.ownBlock) ⟨hos, htape, hout, hs, fun k hk1 hk2 => hk k hk1 (fun e => hk2 e)⟩ ?_
      cases hq : p.v.ownBlock with
      | none => exact .inl rfl
      | some g => exact .inr fun e => h.apart i j p r hne h1 hj g hq e.symm
  · obtain ⟨p', hp', e1⟩ := blk a p hp
    obtain ⟨q', hq', e2⟩ := blk b q hq
    rw [← e1] at hpk
    rw [← e2]
    exact h.apart a b p' q' hab hp' hq' k hpk
  · exact (hk c.1 (h.cell_lt hc) (fun e => h.away c hc j r hj e.symm)).trans (h.cell c hc).2
  · obtain ⟨p', hp', e1⟩ := blk i p hp
    rw [← e1]
    exact h.away c hc i p' hp'
/-- One cell of a row is stored. -/
theorem Bag.setRow (h : Bag w rows cells W) {j : Nat} {r : Rw} (hj : rows[j]? = some r) {g cap : Nat} (hv : r.v = .slice (some ⟨g, 0, none⟩) r.n cap) (i : Nat) (x : Value) :
    Bag w (rows.set j { r with xs := r.xs.set i x }) cells (W.setCell ⟨g, i, none⟩ x) := by
  have hr := h.row j r hj
  have hg : r.v.ownBlock = some g := by rw [hv]; rfl
  obtain ⟨h1, h2⟩ := (show W.ownsRow w.heap.size r.e r.sz (.slice (some ⟨g, 0, none⟩) r.n cap) r.n r.xs by rw [← hv]; exact hr).stored i x
  rw [← hv] at h1
  have hw : w.heap.size ≤ g := own_base hr g hg
  exact h.wrote hj h1 (h.below.grown h2 h.below.size (fun k e => by cases e; exact hw)) h2.size (fun k hk hne => h2.block k hk (fun e => hne (by rw [hg]; exact e))) h2.os h2.tape h2.output
/-- A cell of a row. -/
theorem Bag.at (h : Bag w rows cells W) {j : Nat} {r : Rw} (hj : rows[j]? = some r) {g n cap : Nat} (hv : r.v = .slice (some ⟨g, 0, none⟩) n cap) {i : Nat} {x : Value} (hi : r.xs[i]? = some x) :
    W.cell? ⟨g, i, none⟩ = some x ∧ W.frozen? ⟨g, i, none⟩ = false := by
  have hr := h.row j r hj
  constructor
  · have hc := hr.cells (g := g) (by rw [hv]; rfl) i x hi
    rwa [add_plain] at hc
  · rcases hr.2 with ⟨h', _⟩ | ⟨g', cap', cur, h', _, hh, _⟩
    · rw [hv] at h'; cases h'
    · have : g = g' := by rw [hv] at h'; injection h' with h'; injection h' with h'; injection h' with h'
      subst this
      simp [World.frozen?, hh]
/-- A block of cells. -/
theorem Bag.cellOf (h : Bag w rows cells W) {c : Nat × TypeId × Array Value} (hc : c ∈ cells) (i : Nat) (x : Value) (hx : c.2.2[i]? = some x) : W.cell? ⟨c.1, i, none⟩ = some x ∧ W.frozen? ⟨c.1, i, none⟩ = false :=
  ⟨by simp [World.cell?, (h.cell c hc).2, hx], by simp [World.frozen?, (h.cell c hc).2]⟩
theorem Bag.fresh (h : Bag w rows cells W) (t : TypeId) (vs : Array Value) : Bag w rows ((W.heap.size, t, vs) :: cells) (W.alloc (.cells vs t)) := by
  have h1 := h.later (W' := W.alloc (.cells vs t)) ((Below.refl _ W).alloc (Nat.le_refl _) _)
  refine ⟨h1.row, h1.apart, fun c hc => ?_, fun c hc j r hj e => ?_, h1.below⟩
  · rcases List.mem_cons.1 hc with rfl | hc
    · exact ⟨h.below.size, heap_alloc_new W _⟩
    · exact h1.cell c hc
  · rcases List.mem_cons.1 hc with rfl | hc
    · have := h.lt hj e
      exact absurd this (Nat.lt_irrefl _)
    · exact h.away c hc j r hj e
theorem Bag.loseCell {c : Nat × TypeId × Array Value} (h : Bag w rows (c :: cells) W) : Bag w rows cells W :=
  ⟨h.row, h.apart, fun d hd => h.cell d (by simp [hd]), fun d hd => h.away d (by simp [hd]), h.below⟩
end Go.Proofs.Ytemhpbdlonfikaa.P
