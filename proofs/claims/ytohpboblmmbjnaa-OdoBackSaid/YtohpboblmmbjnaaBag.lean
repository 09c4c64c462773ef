/- What a function holds while it goes through ranges over a function: rows and cells of its own, and the marks that the ranges left. -/
import Derived.Test.YtohpboblmmbjnaaEach
import Derived.RangeFuncBox
namespace Go.Proofs.Ytohpboblmmbjnaa.P
open Go Go.RowKit Go.Shelf Go.Proofs.YtohpboblmmbjnaaW.PrintWords Go.Proofs.YtohpboblmmbjnaaW.PrintLast Go.Proofs.YtohpboblmmbjnaaW.PrintMore Go.Proofs.Odo

/-- The marks that ranges over functions have left. -/
def marks (ds : List Nat) : List Deferred := ds.map fun D => { target := .collected D, args := #[] }
/-- Their blocks, not yet shut. -/
def Unshut (W : World) (ds : List Nat) : Prop := ds.Nodup ∧ ∀ D ∈ ds, W.heap[D]? = some (.deferred (some []))
def shutAll : List Nat → World → World
  | [], w => w
  | D :: ds, w => shutAll ds (w.putObj D (.deferred none))
theorem leaves_marks {F : Fence} {n : Nat} {P : Program} {fn : Func} {tmps : Array Value} {R : Ending → World → Prop} : ∀ (ds : List Nat) (w : World), Unshut w ds →
    LeavesInM F n P fn tmps R [] .returning (shutAll ds w) → LeavesInM F n P fn tmps R (marks ds) .returning w
  | [], _, _, h => h
  | D :: ds, w, ho, h => by
    refine ⟨by simp, .inl ⟨D, _, rfl, run_takeDeferred (ho.2 D (by simp)), ?_⟩⟩
    refine leaves_marks ds _ ⟨(List.nodup_cons.1 ho.1).2, fun E hE => ?_⟩ h
    have hne : D ≠ E := fun e => (List.nodup_cons.1 ho.1).1 (e ▸ hE)
    exact (World.putObj_heap_other hne.symm).trans (ho.2 E (by simp [hE]))
theorem shutAll_below {B : Nat} {w0 : World} (hB : B ≤ w0.heap.size) : ∀ (ds : List Nat) (w : World), Below B w0 w → (∀ D ∈ ds, B ≤ D) → Below B w0 (shutAll ds w)
  | [], _, h, _ => h
  | D :: ds, w, h, hD => by
    refine shutAll_below hB ds _ (h.trans ((Below.refl B w).grown (grownBy_putObj' w D _) (Nat.le_trans hB h.size) (fun k e => by cases e; exact hD D (by simp)))) (fun E hE => hD E (by simp [hE]))
theorem own_ptr {W : World} {base n cap : Nat} {e : TypeId} {A : Option Addr} {vs : List Value} (h : W.ownsRow base e 1 (.slice A n cap) n vs) (hn : 0 < n) : ∃ g, A = some ⟨g, 0, none⟩ := by
  rcases h.2 with ⟨h1, h2⟩ | ⟨g', cap', cur, h1, _⟩
  · exact absurd hn (by omega)
  · cases h1; exact ⟨_, rfl⟩
theorem shut_own : ∀ (ds : List Nat) (W : World) {B : Nat} {e : TypeId} {size : Nat} {v : Value} {k : Nat} {xs : List Value}, Unshut W ds → W.ownsRow B e size v k xs → (shutAll ds W).ownsRow B e size v k xs
  | [], _, _, _, _, _, _, _, _, h => h
  | D :: ds, W, _, _, _, _, _, _, hu, h => by
    refine shut_own ds _ ⟨(List.nodup_cons.1 hu.1).2, fun E hE => ?_⟩ (ownsRow_putObj h _ (hu.2 D (by simp)) rfl)
    have hne : D ≠ E := fun e => (List.nodup_cons.1 hu.1).1 (e ▸ hE)
    exact (World.putObj_heap_other hne.symm).trans (hu.2 E (by simp [hE]))

def blocks (rows : List (Value × Nat × List Int)) (cells : List (Nat × TypeId × Value)) : List Nat := cells.map (·.1) ++ rows.filterMap (fun r => r.1.ownBlock)
structure Bag (B : Nat) (w : World) (ds : List Nat) (rows : List (Value × Nat × List Int)) (cells : List (Nat × TypeId × Value)) (W : World) : Prop where
  row : ∀ r ∈ rows, W.ownsRow B 3 1 r.1 r.2.1 (nums .i64 r.2.2)
  cell : ∀ c ∈ cells, B ≤ c.1 ∧ W.heap[c.1]? = some (.cells #[c.2.2] c.2.1 (0, 0))
  nodup : (blocks rows cells).Nodup
  un : Unshut W ds
  lo : ∀ D ∈ ds, B ≤ D
  below : Below B w W
  hB : B ≤ w.heap.size

variable {B : Nat} {w W : World} {ds : List Nat} {rows : List (Value × Nat × List Int)} {cells : List (Nat × TypeId × Value)}

theorem Bag.is_cells (h : Bag B w ds rows cells W) {k : Nat} (hk : k ∈ blocks rows cells) : B ≤ k ∧ ∃ c t fr, W.heap[k]? = some (.cells c t fr) := by
  unfold blocks at hk
  rcases List.mem_append.1 hk with hk | hk
  · obtain ⟨c, hc, rfl⟩ := List.mem_map.1 hk
    exact ⟨(h.cell c hc).1, _, _, _, (h.cell c hc).2⟩
  · obtain ⟨r, hr, hrk⟩ := List.mem_filterMap.1 hk
    refine ⟨((h.row r hr).lt k hrk).1, ?_⟩
    rcases (h.row r hr).2 with ⟨hv, _⟩ | ⟨g, cap, cur, hv, _, hc, _⟩
    · rw [hv] at hrk; cases hrk
    · rw [hv] at hrk; cases hrk; exact ⟨_, _, _, hc⟩
theorem Bag.grown (h : Bag B w ds rows cells W) {W' : World} {row : Option Nat} (hg : W.grownBy W' row) (hr : ∀ k, row = some k → B ≤ k ∧ k ∉ blocks rows cells ∧ k ∉ ds) : Bag B w ds rows cells W' := by
  refine ⟨fun r hrr => ?_, fun c hc => ⟨(h.cell c hc).1, ?_⟩, h.nodup, ⟨h.un.1, fun D hD => ?_⟩, h.lo, h.below.grown hg (Nat.le_trans h.hB h.below.size) (fun k e => (hr k e).1), h.hB⟩
  · refine (h.row r hrr).kept hg ?_
    cases ho : r.1.ownBlock with
    | none => exact .inl rfl
    | some k =>
      refine .inr fun e => (hr k e.symm).2.1 ?_
      exact List.mem_append.2 (.inr (List.mem_filterMap.2 ⟨r, hrr, ho⟩))
  · have h1 := (h.cell c hc).2
    exact (hg.block c.1 (Array.getElem?_eq_some_iff.1 h1).1 (fun e => (hr _ e.symm).2.1 (List.mem_append.2 (.inl (List.mem_map.2 ⟨c, hc, rfl⟩))))).trans h1
  · have h1 := h.un.2 D hD
    exact (hg.block D (Array.getElem?_eq_some_iff.1 h1).1 (fun e => (hr _ e.symm).2.2 hD)).trans h1
theorem Bag.own {β : Type} {S : Nat} (hS : ∀ D ∈ ds, D < S) (hB : B ≤ S) : OwnFrom S (fun (_ : β) W => Bag B w ds rows cells W) := fun _ W W' row h hg hr =>
  Bag.grown h hg fun k e => by
    obtain ⟨h1, o, h2, h3⟩ := hr k e
    refine ⟨Nat.le_trans hB h1, fun hk => ?_, fun hk => by have := hS k hk; omega⟩
    obtain ⟨_, c, t, fr, hc⟩ := h.is_cells hk
    rw [hc] at h2
    cases h2
    cases h3
theorem Bag.later (h : Bag B w ds rows cells W) {W' : World} (hb : Below W.heap.size W W') : Bag B w ds rows cells W' :=
  h.grown (row := none) ⟨hb.os, hb.tape, hb.output, hb.size, fun k hk _ => hb.block k hk⟩ (fun k e => by cases e)
theorem Bag.drewN (h : Bag B w ds rows cells W) (m : Nat) : Bag B w ds rows cells (W.drewN m) := h.later ⟨rfl, rfl, rfl, Nat.le_refl _, fun _ _ => rfl⟩
theorem Bag.ds_cells (h : Bag B w ds rows cells W) {k : Nat} (hk : k ∈ blocks rows cells) : k ∉ ds := fun hd => by
  obtain ⟨_, c, t, fr, hc⟩ := h.is_cells hk
  rw [h.un.2 k hd] at hc
  cases hc
theorem Bag.lt (h : Bag B w ds rows cells W) {D : Nat} (hD : D ∈ ds) : D < W.heap.size := (Array.getElem?_eq_some_iff.1 (h.un.2 D hD)).1
theorem Bag.perm (h : Bag B w ds rows cells W) {rows' : List (Value × Nat × List Int)} {cells' : List (Nat × TypeId × Value)} (h1 : rows'.Perm rows) (h2 : cells'.Perm cells) : Bag B w ds rows' cells' W :=
  ⟨fun r hr => h.row r (h1.mem_iff.1 hr), fun c hc => h.cell c (h2.mem_iff.1 hc), ((h2.map _).append (h1.filterMap _)).nodup_iff.2 h.nodup, h.un, h.lo, h.below, h.hB⟩
theorem heap_set {W : World} {b : Nat} {v u : Value} {t : TypeId} (h : W.heap[b]? = some (.cells #[v] t (0, 0))) : (W.setCell ⟨b, 0, none⟩ u).heap[b]? = some (.cells #[u] t (0, 0)) := by
  obtain ⟨hb, he⟩ := Array.getElem?_eq_some_iff.1 h
  unfold World.setCell
  simp [Array.getElem?_modify, h]
theorem Bag.set {b : Nat} {t : TypeId} {v : Value} (h : Bag B w ds rows ((b, t, v) :: cells) W) (u : Value) : Bag B w ds rows ((b, t, u) :: cells) (W.setCell ⟨b, 0, none⟩ u) := by
  have hb := h.cell (b, t, v) (by simp)
  have hbb : b ∈ blocks rows ((b, t, v) :: cells) := by simp [blocks]
  have hnd := h.nodup
  have hn : b ∉ blocks rows cells := by
    rw [show blocks rows ((b, t, v) :: cells) = b :: blocks rows cells from rfl] at hnd
    exact (List.nodup_cons.1 hnd).1
  have h' : Bag B w ds rows cells W := ⟨h.row, fun c hc => h.cell c (by simp [hc]), (List.nodup_cons.1 hnd).2, h.un, h.lo, h.below, h.hB⟩
  have h2 := h'.grown (grownBy_setCell' W b u) (fun k e => by cases e; exact ⟨hb.1, hn, h.ds_cells hbb⟩)
  exact ⟨h2.row, fun c hc => by
    rcases List.mem_cons.1 hc with rfl | hc
    · exact ⟨hb.1, heap_set hb.2⟩
    · exact h2.cell c hc, h.nodup, h2.un, h2.lo, h2.below, h2.hB⟩
theorem Bag.setRow {g n cap : Nat} {xs : List Int} (h : Bag B w ds ((.slice (some ⟨g, 0, none⟩) n cap, n, xs) :: rows) cells W) (i : Int) (x : Int) :
    Bag B w ds ((.slice (some ⟨g, 0, none⟩) n cap, n, xs.set i.toNat x) :: rows) cells (W.setCell ⟨g, i.toNat, none⟩ (.int .i64 x)) := by
  have hr := h.row (.slice (some ⟨g, 0, none⟩) n cap, n, xs) (by simp)
  have hgb : g ∈ blocks ((.slice (some ⟨g, 0, none⟩) n cap, n, xs) :: rows) cells := by simp [blocks, Value.ownBlock]
  have hnd := h.nodup
  have hp : (blocks ((.slice (some ⟨g, 0, none⟩) n cap, n, xs) :: rows) cells).Perm (g :: blocks rows cells) := List.perm_middle
  have hn := List.nodup_cons.1 (hp.nodup_iff.1 hnd)
  have h' : Bag B w ds rows cells W := ⟨fun r hr => h.row r (by simp [hr]), h.cell, hn.2, h.un, h.lo, h.below, h.hB⟩
  obtain ⟨hs, hg⟩ := own_store hr i x
  have h2 := h'.grown hg (fun k e => by cases e; exact ⟨(hr.lt g rfl).1, hn.1, h.ds_cells hgb⟩)
  exact ⟨fun r hrr => by
    rcases List.mem_cons.1 hrr with rfl | hrr
    · exact hs
    · exact h2.row r hrr, h2.cell, h.nodup, h2.un, h2.lo, h2.below, h2.hB⟩
theorem Bag.cellOf (h : Bag B w ds rows cells W) {c : Nat × TypeId × Value} (hc : c ∈ cells) : W.cell? ⟨c.1, 0, none⟩ = some c.2.2 ∧ W.frozen? ⟨c.1, 0, none⟩ = false :=
  ⟨by simp [World.cell?, (h.cell c hc).2], by simp [World.frozen?, (h.cell c hc).2]⟩
theorem Bag.fresh (h : Bag B w ds rows cells W) (t : TypeId) (v : Value) : Bag B w ds rows ((W.heap.size, t, v) :: cells) (W.alloc (.cells #[v] t)) := by
  have h1 := h.later (W' := W.alloc (.cells #[v] t)) ((Below.refl _ W).alloc (Nat.le_refl _) _)
  refine ⟨h1.row, fun c hc => ?_, ?_, h1.un, h1.lo, h1.below, h1.hB⟩
  · rcases List.mem_cons.1 hc with rfl | hc
    · exact ⟨Nat.le_trans h.hB h.below.size, World.alloc_heap_new W _⟩
    · exact h1.cell c hc
  · show (W.heap.size :: blocks rows cells).Nodup
    refine List.nodup_cons.2 ⟨fun hk => ?_, h.nodup⟩
    obtain ⟨_, c, t, fr, hc⟩ := h.is_cells hk
    have := (Array.getElem?_eq_some_iff.1 hc).1
    omega
theorem Bag.mark (h : Bag B w ds rows cells W) {D : Nat} (hB : B ≤ D) (hn : D ∉ ds) (hD : W.heap[D]? = some (.deferred (some []))) : Bag B w (D :: ds) rows cells W :=
  ⟨h.row, h.cell, h.nodup, ⟨List.nodup_cons.2 ⟨hn, h.un.1⟩, fun E hE => by
    rcases List.mem_cons.1 hE with rfl | hE
    · exact hD
    · exact h.un.2 E hE⟩, fun E hE => by
    rcases List.mem_cons.1 hE with rfl | hE
    · exact hB
    · exact h.lo E hE, h.below, h.hB⟩
theorem Bag.lose {r : Value × Nat × List Int} (h : Bag B w ds (r :: rows) cells W) : Bag B w ds rows cells W :=
  ⟨fun r hr => h.row r (by simp [hr]), h.cell, by
    have := h.nodup
    unfold blocks at this ⊢
    rw [List.filterMap_cons] at this
    split at this
    · exact this
    · exact (List.nodup_cons.1 (List.perm_middle.nodup_iff.1 this)).2, h.un, h.lo, h.below, h.hB⟩
theorem Bag.loseCell {c : Nat × TypeId × Value} (h : Bag B w ds rows (c :: cells) W) : Bag B w ds rows cells W :=
  ⟨h.row, fun r hr => h.cell r (by simp [hr]), (List.nodup_cons.1 h.nodup).2, h.un, h.lo, h.below, h.hB⟩
/-- A row that a call behind W has made. -/
theorem Bag.hold (h : Bag B w ds rows cells W) {W' : World} {v : Value} {n : Nat} {xs : List Int} (hb : Below W.heap.size W W') (hr : W'.ownsRow W.heap.size 3 1 v n (nums .i64 xs)) : Bag B w ds ((v, n, xs) :: rows) cells W' := by
  have h1 := h.later hb
  have hBW := Nat.le_trans h.hB h.below.size
  refine ⟨fun r hrr => ?_, h1.cell, ?_, h1.un, h1.lo, h1.below, h1.hB⟩
  · rcases List.mem_cons.1 hrr with rfl | hrr
    · refine ⟨hr.1, ?_⟩
      rcases hr.2 with h2 | ⟨g, cap, cur, hv, hg, hrest⟩
      · exact .inl h2
      · exact .inr ⟨g, cap, cur, hv, Nat.le_trans hBW hg, hrest⟩
    · exact h1.row r hrr
  · unfold blocks
    rw [List.filterMap_cons]
    split
    · exact h.nodup
    · rename_i k hk
      refine List.perm_middle.nodup_iff.2 (List.nodup_cons.2 ⟨fun hkk => ?_, h.nodup⟩)
      obtain ⟨_, c, t, fr, hc⟩ := h.is_cells (k := k) hkk
      have h1 := (Array.getElem?_eq_some_iff.1 hc).1
      have h2 := (hr.lt k hk).1
      omega
end Go.Proofs.Ytohpboblmmbjnaa.P
