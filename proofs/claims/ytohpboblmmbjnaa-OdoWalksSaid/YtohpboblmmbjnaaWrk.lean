/- odo's each: through the numbers that may stand next, with how many lists each begins; memory is as it was between two rounds. -/
import Derived.Test.YtohpboblmmbjnaaCount
import Derived.Shelf.Abstract
import Derived.Shelf.RegionOpen
import Derived.OwnWalkIn
import Derived.TacticsInMore
import Derived.LoopNIn
import Derived.LoopIn
import Derived.RangeFuncBox
import Derived.Test.YtohpboblmmbjnaaP0
import Derived.Test.YtohpboblmmbjnaaP6
import Derived.Deep.RegionLaw
namespace Go.Proofs.Ytohpboblmmbjnaa.P
open Go Go.RowKit Go.Shelf Go.Proofs.YtohpboblmmbjnaaW.PrintWords Go.Proofs.YtohpboblmmbjnaaW.PrintLast Go.Proofs.YtohpboblmmbjnaaW.PrintMore Go.Proofs.Odo
attribute [local go_sem] Oper.semAt_some

theorem heap_twice {h : Array Obj} {g i : Nat} {u v : Value} {c : Array Value} {t : TypeId} {fr : Nat × Nat} (hh : h[g]? = some (.cells c t fr)) (hc : c[i]? = some v) :
    ((h.modify g fun
      | .cells c elem frozen => .cells (if (none : Option Nat).isSome then c else c.setIfInBounds i u) elem frozen
      | o => o).modify g fun
      | .cells c elem frozen => .cells (if (none : Option Nat).isSome then c else c.setIfInBounds i v) elem frozen
      | o => o) = h := by
  apply Array.ext
  · simp
  · intro j h1 h2
    rw [Array.getElem_modify, Array.getElem_modify]
    split
    · rename_i hj
      subst hj
      obtain ⟨hg, he⟩ := Array.getElem?_eq_some_iff.1 hh
      rw [he]
      simp only [Option.isSome_none, Bool.false_eq_true, if_false]
      congr 1
      apply Array.ext
      · simp
      · intro q q1 q2
        rw [Array.getElem_setIfInBounds (by simpa using q2)]
        split
        · rename_i hq
          subst hq
          rw [Array.getElem?_eq_getElem q2] at hc
          exact (Option.some.inj hc).symm
        · rename_i hq
          rw [Array.getElem_setIfInBounds q2, if_neg hq]
    · rfl
/-- A cell stored over and stored back: memory as it was. -/
theorem setCell_back {W : World} {g i : Nat} {u v : Value} (h : W.cell? ⟨g, i, none⟩ = some v) (m : Nat) : ((W.setCell ⟨g, i, none⟩ u).drewN m).setCell ⟨g, i, none⟩ v = W.drewN m := by
  unfold World.cell? at h
  cases ho : W.heap[g]? with
  | none => simp [ho] at h
  | some o =>
    cases o with
    | cells c t fr =>
      have hc : c[i]? = some v := by simpa [ho] using h
      have e := heap_twice (u := u) ho hc
      unfold World.setCell World.drewN
      exact congrArg (fun hp : Array Obj => ({ W with heap := hp, drawn := W.drawn + m } : World)) e
    | _ => simp [ho] at h

/-- The row of the numbers that are left. -/
def LeftRow (g cap : Nat) (v : List Nat) (W : World) : Prop := W.ownsRow 0 3 1 (.slice (some ⟨g, 0, none⟩) v.length cap) v.length (nums .i64 (ints v))

set_option maxHeartbeats 2000000 in
set_option maxRecDepth 100000 in
theorem each_stops (n : Nat) (hn : 1 ≤ n) (g cap : Nat) (v : List Nat) (k : Nat) (c : Nat → Int) (b : Nat → Bool) (hv : ∀ x ∈ v, x < 9223372036854775808) (hl : v.length ≤ 64)
    (hc : ∀ i, i < v.length → v.getD i 0 ≠ 0 → odo_weaves_count.f k (ints (less v i)) = some (c i, b i)) :
    EachStops Fence.wide n Try.prog 74 #[.slice (some ⟨g, 0, none⟩) v.length cap] v.length (fun i => decide (v.getD i 0 ≠ 0)) (fun i => #[.int .i64 i, .int .u64 (c i)]) (LeftRow g cap v) := by
  intro l J Jx W hJd hJr hJs hY h0
  refine callsIn_of_wp Try.func74 rfl trivial ?_ rfl
  simp only [Try.ntmps74, List.size_toArray, List.length_cons, List.length_nil, Nat.reduceAdd, Nat.reduceSub, Array.replicate_succ, Array.replicate_zero, List.push_toArray, List.append_toArray, List.nil_append, List.cons_append]
  gi_wp2
  gi_loopw [9] (fun p wr => ∃ q : Nat, p = .int .i64 q ∧ q ≤ v.length ∧ J q wr) (fun p _ => v.length - (intOf p).toNat)
  case atStart => exact ⟨0, rfl, Nat.zero_le _, h0⟩
  case round =>
    obtain ⟨q, rfl, hq, hj⟩ := hrel
    by_cases hlt : q < v.length
    · have hrow := hJr q wr hj
      have hat := own_at hrow (q : Int) (by omega) (by omega)
      rw [Int.toNat_natCast, rd_ints] at hat
      obtain ⟨hcell, hfz⟩ := hat
      by_cases hz : v.getD q 0 = 0
      · have hj' := hJs q wr hj hlt (decide_eq_false (fun h => h hz))
        rw [hz] at hcell
        gi_wp2
        exact ⟨⟨q + 1, by go_num, by omega, hj'⟩, by simp [intOf]; omega⟩
      · have hyes : decide (v.getD q 0 ≠ 0) = true := decide_eq_true hz
        have hcq := hc q hlt hz
        have hxlt := hv _ (by rw [List.getD_eq_getElem?_getD, List.getElem?_eq_getElem hlt]; exact List.getElem_mem hlt : v.getD q 0 ∈ v)
        have hset : (ints v).set q ((v.getD q 0 : Nat) - 1 : Int) = ints (less v q) := by
          unfold less ints
          rw [List.map_set]
          congr 1
          show _ = ((v.getD q 0 - 1 : Nat) : Int)
          omega
        obtain ⟨x, hx⟩ : ∃ x, v.getD q 0 = x := ⟨_, rfl⟩
        rw [hx] at hcell hxlt hset hz
        have hst := (own_store hrow (q : Int) ((x : Int) - 1)).1
        rw [Int.toNat_natCast, hset] at hst
        have hl2 : (ints (less v q)).length = v.length := by rw [ints_length, less_length]
        have HCw : Aside0 (Kd.C (Kd.int .i64) (wr.setCell ⟨g, q, none⟩ (.int .i64 ((x : Int) - 1))) (some ⟨g, 0, none⟩) (ints (less v q)).length (ints (less v q))) := ⟨by
          rw [← hl2] at hst
          exact (Kd.R_reads' (d := Kd.int .i64) (Kd.R_of_own (ok := fun _ => True) hst (fun _ _ => trivial))).2.2⟩
        have hcapl : Aside0 ((ints (less v q)).length ≤ cap) := ⟨by
          rcases hrow.2 with ⟨h, _⟩ | ⟨g', cap', cur, h, _, _, h1, _⟩
          · cases h
          · injection h with _ _ h3
            rw [hl2, h3]; exact h1⟩
        have hcall := odo_weaves_count.calls k (some ⟨g, 0, none⟩) cap (ints (less v q)) (c q) (b q) _ HCw.out hcapl.out hcq
        rw [hl2] at hcall
        have HC := Aside0.mk hcall
        have HE := Aside0.mk (fun (m : Nat) => setCell_back (u := .int .i64 ((x : Int) - 1)) hcell m)
        have hx1 : 1 ≤ x := by omega
        have hbz : ((x : Int) == 0) = false := beq_eq_false_iff_ne.2 (by omega)
        clear hset hst hl2 hcq hx hz hcall HCw hcapl
        gi_wp2_with fail
        refine ⟨trivial, ?_⟩
        refine (callsIn_wide.2 HC.out).mono ?_
        rintro e w1 ⟨rfl, ⟨nd, rfl⟩⟩
        obtain ⟨fn, tmps, assign, body, hy, hR⟩ := hY q (wr.drewN nd) (hJd q wr nd hj) hlt hyes
        rw [← HE.out nd] at hy hR
        gi_wp2_with fail
        refine hR.mono ?_
        clear HE HC hR hy
        rintro e W' (⟨rfl, hJ'⟩ | ⟨rfl, hx'⟩)
        · gi_wp2
          exact ⟨⟨q + 1, by go_num, by omega, hJ'⟩, by simp [intOf]; omega⟩
        · gi_wp2
          refine bodyPost_ret (results_none rfl _ _ _) rfl ?_
          exact ⟨⟨_, rfl⟩, .inr hx'⟩
    · have hge : v.length ≤ q := by omega
      obtain rfl : q = v.length := by omega
      gi_wp2
      go_end0
      exact ⟨⟨_, rfl⟩, .inl hj⟩
end Go.Proofs.Ytohpboblmmbjnaa.P
/- What a function holds while it goes through ranges over a function: rows and cells of its own, and the marks that the ranges left. -/
namespace Go.Proofs.Ytohpboblmmbjnaa.P
open Go Go.RowKit Go.Shelf Go.Proofs.YtohpboblmmbjnaaW.PrintWords Go.Proofs.YtohpboblmmbjnaaW.PrintLast Go.Proofs.YtohpboblmmbjnaaW.PrintMore Go.Proofs.Odo

/-- The marks that ranges over functions have left. -/
def marks (ds : List Nat) : List Deferred := ds.map fun D => { target := .collected D, args := #[] }
/-- Their blocks, not yet shut. -/
def Unshut (W : World) (ds : List Nat) : Prop := ds.Nodup ∧ ∀ D ∈ ds, W.heap[D]? = some (.deferred (some []))
def shutAll : List Nat → World → World
  | [], w => w
  | D :: ds, w => shutAll ds (w.putObj D (.deferred none))
theorem leaves_marks {F : Fence} {n : Nat} {P : Program} {fn : Func} {tmps : Array Value} {R : Ending → World → Prop} : ∀ (ds : List Nat) (w : World), Unshut w ds →
    LeavesInM F n P fn tmps R [] .returning (shutAll ds w) → LeavesInM F n P fn tmps R (marks ds) .returning w
  | [], _, _, h => h
  | D :: ds, w, ho, h => by
    refine ⟨by simp, .inl ⟨D, _, rfl, run_takeDeferred (ho.2 D (by simp)), ?_⟩⟩
    refine leaves_marks ds _ ⟨(List.nodup_cons.1 ho.1).2, fun E hE => ?_⟩ h
    have hne : D ≠ E := fun e => (List.nodup_cons.1 ho.1).1 (e ▸ hE)
    exact (World.putObj_heap_other hne.symm).trans (ho.2 E (by simp [hE]))
theorem shutAll_below {B : Nat} {w0 : World} (hB : B ≤ w0.heap.size) : ∀ (ds : List Nat) (w : World), Below B w0 w → (∀ D ∈ ds, B ≤ D) → Below B w0 (shutAll ds w)
  | [], _, h, _ => h
  | D :: ds, w, h, hD => by
    refine shutAll_below hB ds _ (h.trans ((Below.refl B w).grown (grownBy_putObj' w D _) (Nat.le_trans hB h.size) (fun k e => by cases e; exact hD D (by simp)))) (fun E hE => hD E (by simp [hE]))
theorem own_ptr {W : World} {base n cap : Nat} {e : TypeId} {A : Option Addr} {vs : List Value} (h : W.ownsRow base e 1 (.slice A n cap) n vs) (hn : 0 < n) : ∃ g, A = some ⟨g, 0, none⟩ := by
  rcases h.2 with ⟨h1, h2⟩ | ⟨g', cap', cur, h1, _⟩
  · exact absurd hn (by omega)
  · cases h1; exact ⟨_, rfl⟩
theorem shut_own : ∀ (ds : List Nat) (W : World) {B : Nat} {e : TypeId} {size : Nat} {v : Value} {k : Nat} {xs : List Value}, Unshut W ds → W.ownsRow B e size v k xs → (shutAll ds W).ownsRow B e size v k xs
  | [], _, _, _, _, _, _, _, _, h => h
  | D :: ds, W, _, _, _, _, _, _, hu, h => by
    refine shut_own ds _ ⟨(List.nodup_cons.1 hu.1).2, fun E hE => ?_⟩ (ownsRow_putObj h _ (hu.2 D (by simp)) rfl)
    have hne : D ≠ E := fun e => (List.nodup_cons.1 hu.1).1 (e ▸ hE)
    exact (World.putObj_heap_other hne.symm).trans (hu.2 E (by simp [hE]))

def blocks (rows : List (Value × Nat × List Int)) (cells : List (Nat × TypeId × Value)) : List Nat := cells.map (·.1) ++ rows.filterMap (fun r => r.1.ownBlock)
structure Bag (B : Nat) (w : World) (ds : List Nat) (rows : List (Value × Nat × List Int)) (cells : List (Nat × TypeId × Value)) (W : World) : Prop where
  row : ∀ r ∈ rows, W.ownsRow B 3 1 r.1 r.2.1 (nums .i64 r.2.2)
  cell : ∀ c ∈ cells, B ≤ c.1 ∧ W.heap[c.1]? = some (.cells #[c.2.2] c.2.1 (0, 0))
  nodup : (blocks rows cells).Nodup
  un : Unshut W ds
  lo : ∀ D ∈ ds, B ≤ D
  below : Below B w W
  hB : B ≤ w.heap.size

variable {B : Nat} {w W : World} {ds : List Nat} {rows : List (Value × Nat × List Int)} {cells : List (Nat × TypeId × Value)}

theorem Bag.is_cells (h : Bag B w ds rows cells W) {k : Nat} (hk : k ∈ blocks rows cells) : B ≤ k ∧ ∃ c t fr, W.heap[k]? = some (.cells c t fr) := by
  unfold blocks at hk
  rcases List.mem_append.1 hk with hk | hk
  · obtain ⟨c, hc, rfl⟩ := List.mem_map.1 hk
    exact ⟨(h.cell c hc).1, _, _, _, (h.cell c hc).2⟩
  · obtain ⟨r, hr, hrk⟩ := List.mem_filterMap.1 hk
    refine ⟨((h.row r hr).lt k hrk).1, ?_⟩
    rcases (h.row r hr).2 with ⟨hv, _⟩ | ⟨g, cap, cur, hv, _, hc, _⟩
    · rw [hv] at hrk; cases hrk
    · rw [hv] at hrk; cases hrk; exact ⟨_, _, _, hc⟩
theorem Bag.grown (h : Bag B w ds rows cells W) {W' : World} {row : Option Nat} (hg : W.grownBy W' row) (hr : ∀ k, row = some k → B ≤ k ∧ k ∉ blocks rows cells ∧ k ∉ ds) : Bag B w ds rows cells W' := by
  refine ⟨fun r hrr => ?_, fun c hc => ⟨(h.cell c hc).1, ?_⟩, h.nodup, ⟨h.un.1, fun D hD => ?_⟩, h.lo, h.below.grown hg (Nat.le_trans h.hB h.below.size) (fun k e => (hr k e).1), h.hB⟩
  · refine (h.row r hrr).kept hg ?_
    cases ho : r.1.ownBlock with
    | none => exact .inl rfl
    | some k =>
      refine .inr fun e => (hr k e.symm).2.1 ?_
      exact List.mem_append.2 (.inr (List.mem_filterMap.2 ⟨r, hrr, ho⟩))
  · have h1 := (h.cell c hc).2
    exact (hg.block c.1 (Array.getElem?_eq_some_iff.1 h1).1 (fun e => (hr _ e.symm).2.1 (List.mem_append.2 (.inl (List.mem_map.2 ⟨c, hc, rfl⟩))))).trans h1
  · have h1 := h.un.2 D hD
    exact (hg.block D (Array.getElem?_eq_some_iff.1 h1).1 (fun e => (hr _ e.symm).2.2 hD)).trans h1
theorem Bag.own {β : Type} {S : Nat} (hS : ∀ D ∈ ds, D < S) (hB : B ≤ S) : OwnFrom S (fun (_ : β) W => Bag B w ds rows cells W) := fun _ W W' row h hg hr =>
  Bag.grown h hg fun k e => by
    obtain ⟨h1, o, h2, h3⟩ := hr k e
    refine ⟨Nat.le_trans hB h1, fun hk => ?_, fun hk => by have := hS k hk; omega⟩
    obtain ⟨_, c, t, fr, hc⟩ := h.is_cells hk
    rw [hc] at h2
    cases h2
    cases h3
theorem Bag.later (h : Bag B w ds rows cells W) {W' : World} (hb : Below W.heap.size W W') : Bag B w ds rows cells W' :=
  h.grown (row := none) ⟨hb.os, hb.tape, hb.output, hb.size, fun k hk _ => hb.block k hk⟩ (fun k e => by cases e)
theorem Bag.drewN (h : Bag B w ds rows cells W) (m : Nat) : Bag B w ds rows cells (W.drewN m) := h.later ⟨rfl, rfl, rfl, Nat.le_refl _, fun _ _ => rfl⟩
theorem Bag.ds_cells (h : Bag B w ds rows cells W) {k : Nat} (hk : k ∈ blocks rows cells) : k ∉ ds := fun hd => by
  obtain ⟨_, c, t, fr, hc⟩ := h.is_cells hk
  rw [h.un.2 k hd] at hc
  cases hc
theorem Bag.lt (h : Bag B w ds rows cells W) {D : Nat} (hD : D ∈ ds) : D < W.heap.size := (Array.getElem?_eq_some_iff.1 (h.un.2 D hD)).1
theorem Bag.perm (h : Bag B w ds rows cells W) {rows' : List (Value × Nat × List Int)} {cells' : List (Nat × TypeId × Value)} (h1 : rows'.Perm rows) (h2 : cells'.Perm cells) : Bag B w ds rows' cells' W :=
  ⟨fun r hr => h.row r (h1.mem_iff.1 hr), fun c hc => h.cell c (h2.mem_iff.1 hc), ((h2.map _).append (h1.filterMap _)).nodup_iff.2 h.nodup, h.un, h.lo, h.below, h.hB⟩
theorem heap_set {W : World} {b : Nat} {v u : Value} {t : TypeId} (h : W.heap[b]? = some (.cells #[v] t (0, 0))) : (W.setCell ⟨b, 0, none⟩ u).heap[b]? = some (.cells #[u] t (0, 0)) := by
  obtain ⟨hb, he⟩ := Array.getElem?_eq_some_iff.1 h
  unfold World.setCell
  simp [Array.getElem?_modify, h]
theorem Bag.set {b : Nat} {t : TypeId} {v : Value} (h : Bag B w ds rows ((b, t, v) :: cells) W) (u : Value) : Bag B w ds rows ((b, t, u) :: cells) (W.setCell ⟨b, 0, none⟩ u) := by
  have hb := h.cell (b, t, v) (by simp)
  have hbb : b ∈ blocks rows ((b, t, v) :: cells) := by simp [blocks]
  have hnd := h.nodup
  have hn : b ∉ blocks rows cells := by
    rw [show blocks rows ((b, t, v) :: cells) = b :: blocks rows cells from rfl] at hnd
    exact (List.nodup_cons.1 hnd).1
  have h' : Bag B w ds rows cells W := ⟨h.row, fun c hc => h.cell c (by simp [hc]), (List.nodup_cons.1 hnd).2, h.un, h.lo, h.below, h.hB⟩
  have h2 := h'.grown (grownBy_setCell' W b u) (fun k e => by cases e; exact ⟨hb.1, hn, h.ds_cells hbb⟩)
  exact ⟨h2.row, fun c hc => by
    rcases List.mem_cons.1 hc with rfl | hc
    · exact ⟨hb.1, heap_set hb.2⟩
    · exact h2.cell c hc, h.nodup, h2.un, h2.lo, h2.below, h2.hB⟩
theorem Bag.setRow {g n cap : Nat} {xs : List Int} (h : Bag B w ds ((.slice (some ⟨g, 0, none⟩) n cap, n, xs) :: rows) cells W) (i : Int) (x : Int) :
    Bag B w ds ((.slice (some ⟨g, 0, none⟩) n cap, n, xs.set i.toNat x) :: rows) cells (W.setCell ⟨g, i.toNat, none⟩ (.int .i64 x)) := by
  have hr := h.row (.slice (some ⟨g, 0, none⟩) n cap, n, xs) (by simp)
  have hgb : g ∈ blocks ((.slice (some ⟨g, 0, none⟩) n cap, n, xs) :: rows) cells := by simp [blocks, Value.ownBlock]
  have hnd := h.nodup
  have hp : (blocks ((.slice (some ⟨g, 0, none⟩) n cap, n, xs) :: rows) cells).Perm (g :: blocks rows cells) := List.perm_middle
  have hn := List.nodup_cons.1 (hp.nodup_iff.1 hnd)
  have h' : Bag B w ds rows cells W := ⟨fun r hr => h.row r (by simp [hr]), h.cell, hn.2, h.un, h.lo, h.below, h.hB⟩
  obtain ⟨hs, hg⟩ := own_store hr i x
  have h2 := h'.grown hg (fun k e => by cases e; exact ⟨(hr.lt g rfl).1, hn.1, h.ds_cells hgb⟩)
  exact ⟨fun r hrr => by
    rcases List.mem_cons.1 hrr with rfl | hrr
    · exact hs
    · exact h2.row r hrr, h2.cell, h.nodup, h2.un, h2.lo, h2.below, h2.hB⟩
theorem Bag.cellOf (h : Bag B w ds rows cells W) {c : Nat × TypeId × Value} (hc : c ∈ cells) : W.cell? ⟨c.1, 0, none⟩ = some c.2.2 ∧ W.frozen? ⟨c.1, 0, none⟩ = false :=
  ⟨by simp [World.cell?, (h.cell c hc).2], by simp [World.frozen?, (h.cell c hc).2]⟩
theorem Bag.fresh (h : Bag B w ds rows cells W) (t : TypeId) (v : Value) : Bag B w ds rows ((W.heap.size, t, v) :: cells) (W.alloc (.cells #[v] t)) := by
  have h1 := h.later (W' := W.alloc (.cells #[v] t)) ((Below.refl _ W).alloc (Nat.le_refl _) _)
  refine ⟨h1.row, fun c hc => ?_, ?_, h1.un, h1.lo, h1.below, h1.hB⟩
  · rcases List.mem_cons.1 hc with rfl | hc
    · exact ⟨Nat.le_trans h.hB h.below.size, World.alloc_heap_new W _⟩
    · exact h1.cell c hc
  · show (W.heap.size :: blocks rows cells).Nodup
    refine List.nodup_cons.2 ⟨fun hk => ?_, h.nodup⟩
    obtain ⟨_, c, t, fr, hc⟩ := h.is_cells hk
    have := (Array.getElem?_eq_some_iff.1 hc).1
    omega
theorem Bag.mark (h : Bag B w ds rows cells W) {D : Nat} (hB : B ≤ D) (hn : D ∉ ds) (hD : W.heap[D]? = some (.deferred (some []))) : Bag B w (D :: ds) rows cells W :=
  ⟨h.row, h.cell, h.nodup, ⟨List.nodup_cons.2 ⟨hn, h.un.1⟩, fun E hE => by
    rcases List.mem_cons.1 hE with rfl | hE
    · exact hD
    · exact h.un.2 E hE⟩, fun E hE => by
    rcases List.mem_cons.1 hE with rfl | hE
    · exact hB
    · exact h.lo E hE, h.below, h.hB⟩
theorem Bag.lose {r : Value × Nat × List Int} (h : Bag B w ds (r :: rows) cells W) : Bag B w ds rows cells W :=
  ⟨fun r hr => h.row r (by simp [hr]), h.cell, by
    have := h.nodup
    unfold blocks at this ⊢
    rw [List.filterMap_cons] at this
    split at this
    · exact this
    · exact (List.nodup_cons.1 (List.perm_middle.nodup_iff.1 this)).2, h.un, h.lo, h.below, h.hB⟩
theorem Bag.loseCell {c : Nat × TypeId × Value} (h : Bag B w ds rows (c :: cells) W) : Bag B w ds rows cells W :=
  ⟨h.row, fun r hr => h.cell r (by simp [hr]), (List.nodup_cons.1 h.nodup).2, h.un, h.lo, h.below, h.hB⟩
/-- A row that a call behind W has made. -/
theorem Bag.hold (h : Bag B w ds rows cells W) {W' : World} {v : Value} {n : Nat} {xs : List Int} (hb : Below W.heap.size W W') (hr : W'.ownsRow W.heap.size 3 1 v n (nums .i64 xs)) : Bag B w ds ((v, n, xs) :: rows) cells W' := by
  have h1 := h.later hb
  have hBW := Nat.le_trans h.hB h.below.size
  refine ⟨fun r hrr => ?_, h1.cell, ?_, h1.un, h1.lo, h1.below, h1.hB⟩
  · rcases List.mem_cons.1 hrr with rfl | hrr
    · refine ⟨hr.1, ?_⟩
      rcases hr.2 with h2 | ⟨g, cap, cur, hv, hg, hrest⟩
      · exact .inl h2
      · exact .inr ⟨g, cap, cur, hv, Nat.le_trans hBW hg, hrest⟩
    · exact h1.row r hrr
  · unfold blocks
    rw [List.filterMap_cons]
    split
    · exact h.nodup
    · rename_i k hk
      refine List.perm_middle.nodup_iff.2 (List.nodup_cons.2 ⟨fun hkk => ?_, h.nodup⟩)
      obtain ⟨_, c, t, fr, hc⟩ := h.is_cells (k := k) hkk
      have h1 := (Array.getElem?_eq_some_iff.1 hc).1
      have h2 := (hr.lt k hk).1
      omega
end Go.Proofs.Ytohpboblmmbjnaa.P
-- Printed by xprint.py, a program of this session over the kit's printer.
namespace Go.Proofs.Ytohpboblmmbjnaa.P
open Go.RowKit Go.Proofs.YtohpboblmmbjnaaW.PrintWords Go.Proofs.YtohpboblmmbjnaaW.PrintLast Go.Proofs.YtohpboblmmbjnaaW.PrintMore
attribute [local go_sem] max2_int min2_int max_two min_two max_three min_three max_four min_four   -- for this text's walks alone

/-! ### slices_Max_int_int: function 77 -/
def slices_Max_int_int.l0 : Nat → List Int → Int → Int → Option (Int)
 | 0, _, _, _ => none
 | k + 1, x0, x3, x4 => if x4 < (x0.length : Int) then (if 0 ≤ x4 then (slices_Max_int_int.l0 k x0 (mx x3 (rd x0 x4)) (wrap64 (x4 + 1))) else (none)) else (some x3)
def slices_Max_int_int.f (k : Nat) (l0 : List Int) : Option (Int) := if (l0.length : Int) < 1 then (none) else (if 0 < (l0.length : Int) then (slices_Max_int_int.l0 k l0 (rd l0 0) 1) else (none))
theorem slices_Max_int_int.mono_l : ∀ k, (∀ y0 y1 y2, LeO (slices_Max_int_int.l0 k y0 y1 y2) (slices_Max_int_int.l0 (k + 1) y0 y1 y2))
 | 0 => fun _ _ _ r h => by simp [slices_Max_int_int.l0] at h
 | k + 1 => by
  have ih0 := slices_Max_int_int.mono_l k
  ·
   intro y0 y1 y2; unfold slices_Max_int_int.l0
   repeat' first
   | (with_reducible exact ih0 _ _ _)
   | (with_reducible exact LeO.refl _)
   | (with_reducible exact LeO.none _)
   | (with_reducible refine LeO.ite ?_ ?_)
   | (with_reducible refine LeO.bind ?_ (fun _ => ?_))
   | exact ih0 _ _ _
   | exact LeO.none _
   | refine LeO.ite ?_ ?_
   | refine LeO.bind ?_ (fun _ => ?_)
theorem slices_Max_int_int.mono : ∀ a0 k, LeO (slices_Max_int_int.f k a0) (slices_Max_int_int.f (k + 1) a0) := by
 intro a0 k; have ih0 := slices_Max_int_int.mono_l k; unfold slices_Max_int_int.f
 repeat' first
   | (with_reducible exact ih0 _ _ _)
   | (with_reducible exact LeO.refl _)
   | (with_reducible exact LeO.none _)
   | (with_reducible refine LeO.ite ?_ ?_)
   | (with_reducible refine LeO.bind ?_ (fun _ => ?_))
   | exact ih0 _ _ _
   | exact LeO.none _
   | refine LeO.ite ?_ ?_
   | refine LeO.bind ?_ (fun _ => ?_)
set_option maxHeartbeats 8000000 in
set_option maxRecDepth 100000 in
theorem slices_Max_int_int.calls (k : Nat) (A0 : Option Addr) (c0 : Nat) (l0 : List Int) (r : Int) (w : World) (hr0 : Kd.C (Kd.int .i64) w A0 l0.length l0) (hc0 : l0.length ≤ c0) (h : slices_Max_int_int.f k l0 = some r) :
  Calls Try.prog 77 #[.slice A0 l0.length c0] w fun e w' => e = .returned (.int .i64 r) ∧ Below w.heap.size w w' := by
 have HR0 := Aside0.mk hr0; have HC0 := Aside0.mk hc0; clear hr0 hc0; have HB := Aside0.mk (Below.refl w.heap.size w); have H : (if (l0.length : Int) < 1 then (none) else (if 0 < (l0.length : Int) then (slices_Max_int_int.l0 k l0 (rd l0 0) 1) else (none))) = some r := h; clear h
 by_cases c2 : (l0.length : Int) < 1
 ·
  rw [if_pos c2] at H; exact absurd H (by simp)
 ·
  rw [if_neg c2] at H; have c2b0 : decide ((l0.length : Int) < 1) = false := decide_eq_false c2; have c2b1 : decide (l0.length < 1) = false := decide_eq_false (by omega); clear c2
  by_cases c3 : 0 < (l0.length : Int)
  ·
   rw [if_pos c3] at H; have c3b0 : decide (0 < (l0.length : Int)) = true := decide_eq_true c3; have c3b1 : decide (0 < l0.length) = true := decide_eq_true (by omega); clear c3; have H' := Aside0.mk H; clear H; have p294 : 0 ≤ (0 : Int) := (by omega); have q294 : 0 < (l0.length : Int) := dt_; obtain ⟨ad294, e294, hx294_0⟩ := Kd.at_int HR0.out 0 p294 q294; cases e294; have qi294 : (0 < l0.length) = True := eq_true (by omega)
   (try rw [show ((0 : Int)).toNat = 0 from rfl] at hx294_0)
   (try rw [Addr.add_zero'] at hx294_0)
   replace p294 := eq_true p294; replace q294 := eq_true q294; go_enter Try.func77, Try.ntmps77; go_wp2
   go_loopg [3, 4] k (fun kq v3 v4 w' => ∃ (x3_1 : Int) (x4_1 : Int), v3 = .int .i64 x3_1 ∧ v4 = .int .i64 x4_1 ∧ Aside0 (slices_Max_int_int.l0 kq l0 x3_1 x4_1 = some r) ∧ Aside0 (kq ≤ k) ∧ Aside0 (Below w.heap.size w w'))
   case atStart => exact ⟨(rd l0 0), (1), ff_, ff_, H', ⟨Nat.le_refl _⟩, ⟨bel_⟩⟩
   case round =>
    clear H'; (try clear c2b0); (try clear c2b1); (try clear c3b0); (try clear c3b1); (try clear hx294_0); (try clear p294); (try clear q294); obtain ⟨x3_1, x4_1, rfl, rfl, HA, HK1, HB⟩ := hrel
    cases gk with
    | zero => exact absurd HA.out (by simp [slices_Max_int_int.l0])
    | succ k1 =>
     have H := HA.out; clear HA; simp only [slices_Max_int_int.l0] at H
     by_cases c4 : x4_1 < (l0.length : Int)
     ·
      rw [if_pos c4] at H; have c4b0 : decide (x4_1 < (l0.length : Int)) = true := decide_eq_true c4; clear c4
      by_cases c5 : 0 ≤ x4_1
      ·
       rw [if_pos c5] at H; have c5b0 : decide (0 ≤ x4_1) = true := decide_eq_true c5; clear c5; obtain ⟨ji6, hji6⟩ : ∃ j_ : Int, (mx x3_1 (rd l0 x4_1)) = j_ := ⟨_, rfl⟩; replace H : (slices_Max_int_int.l0 k1 l0 ji6 (wrap64 (x4_1 + 1))) = some r := by first | (rw [hji6] at H; exact H) | (simp only [hji6] at H ⊢; exact H)
       have hji6_ : (if x3_1 < (rd l0 x4_1) then (rd l0 x4_1) else x3_1) = ji6 := hji6; have H' := Aside0.mk H; clear H; have p295 : 0 ≤ (x4_1 : Int) := dt_; have q295 : x4_1 < (l0.length : Int) := dt_; obtain ⟨ad295, e295, hx295_0⟩ := Kd.at_int HR0.out x4_1 p295 q295; obtain rfl : ad294 = ad295 := (by injection e295); replace hx295_0 := hx_ HB hx295_0; replace p295 := eq_true p295; replace q295 := eq_true q295; go_wp2
       go_roundg k1
       case measure => have := HK1.out; omega
       case rel => exact ⟨(ji6), (wrap64 (x4_1 + 1)), (by first | rfl | (simp; done) | (simp only [← hji6] <;> (first | rfl | simp)) | (simp [*]; done)), ff_, H', ⟨by have := HK1.out; omega⟩, ⟨bel_⟩⟩
      ·
       rw [if_neg c5] at H; exact absurd H (by simp)
     ·
      rw [if_neg c4] at H; have c4b0 : decide (x4_1 < (l0.length : Int)) = false := decide_eq_false c4; clear c4; obtain rfl := Option.some.inj H; go_wp2
      go_ret
      exact ⟨ee_, bel_⟩
  ·
   rw [if_neg c3] at H; exact absurd H (by simp)

-- NOT PRINTED: function 72 (odo_weaves_rank)

end Go.Proofs.Ytohpboblmmbjnaa.P
/- append of a slice of another slice type, as a step; the greatest of a list. -/
namespace Go.Proofs.Ytohpboblmmbjnaa.P
open Go Go.RowKit Go.Shelf Go.Proofs.YtohpboblmmbjnaaW.PrintWords Go.Proofs.YtohpboblmmbjnaaW.PrintLast Go.Proofs.YtohpboblmmbjnaaW.PrintMore Go.Proofs.Odo

theorem append_two {P : Program} {t t2 ty e e2 : TypeId} (ht : P.underlying t = some (.slice e)) (ht2 : P.underlying t2 = some (.slice e2)) (v x : Value) (W : World) :
    (Builtin.append_ #[t, t2] ty #[v, x]).run P W = (Builtin.append_ #[t, t] ty #[v, x]).run P W := by
  unfold Builtin.append_
  cases v <;> simp only [List.getElem?_toArray, List.getElem?_cons_zero, List.getElem?_cons_succ, Sem.run_bind, run_underlying ht, run_underlying ht2, Result.andThen_ok, pure_bind]

section
variable {P : Program} {ops : Array Oper} {o : Oper} {a : Act} {Q : Exit → Act → World → Prop} {Kc : Act → World → Prop}
theorem append_two_step {α : Type} (d : Kd α) {Rr : α → List Value → Prop} {w0 W : World} (base : Nat) (hg : o.guard = none) (s x : Operand) (t t2 e e2 : TypeId) (z : Value) (bytes : Nat)
    (ho : o.op = .call { callee := .builtin .append, args := #[s, x], argTypes := #[t, t2] })
    (ht : P.underlying t = some (.slice e)) (ht2 : P.underlying t2 = some (.slice e2)) (hinfo : (P.info? e).map (fun i => (i.zero, i.size, i.bytes)) = some (some z, d.sz, bytes)) (hz : z.cells.size = d.sz) (hs0 : 0 < d.sz) (hb0 : 0 < bytes)
    (v : Value) (xs ys : List α) (A : Option Addr) (m c : Nat) (ok okp : Nat → Prop) (hs : a.eval s = v) (hx : a.eval x = .slice A m c)
    (HO : d.R e W base ok v xs) (HR : ReadsRow Rr d.sz W A m ys) (hKM : ∀ x cs, Rr x cs → d.M W base okp x cs) (hokp : ∀ k, okp k → ok k ∧ some k ≠ v.ownBlock) (hfresh : ∀ k, W.heap.size ≤ k → ok k)
    (HB : Below base w0 W) (hbase : base ≤ W.heap.size) (hl : (xs.length + m) * bytes ≤ 140737488355328)
    (h : ∀ v1 w1, d.R e w1 base ok v1 (xs ++ ys) → Below base w0 w1 → W.grownBy w1 v.ownBlock → (v1.ownBlock = v.ownBlock ∨ ∃ b, v1.ownBlock = some b ∧ W.heap.size ≤ b) → Kc (a.put o.dst v1) w1) :
    if Region.wanted o (yielded ops a.tmps) = true then Oper.wp P o a W Kc Q else Kc (a.put o.dst undef) W := by
  have hw : Region.wanted o (yielded ops a.tmps) = true := by simp [Region.wanted, hg]
  have h1 := Kd.R_append_rows_step (P := P) (ops := ops) (o := { o with op := .call { callee := .builtin .append, args := #[s, x], argTypes := #[t, t] } }) (a := a) (Q := Q) (Kc := Kc) d base (by simpa [Region.wanted] using hw) s x t e z bytes rfl ht hinfo hz hs0 hb0 v xs ys A m c ok okp hs hx HO HR hKM hokp hfresh HB hbase hl h
  have hw' : Region.wanted { o with op := .call { callee := .builtin .append, args := #[s, x], argTypes := #[t, t] } } (yielded ops a.tmps) = true := hw
  rw [if_pos hw'] at h1
  rw [if_pos hw]
  unfold Oper.wp execOp at h1 ⊢
  simp only [ho, resolve, invoke, builtin, Sem.run_bind, Sem.run_pure, Result.andThen_ok, List.map_toArray, List.map_cons, List.map_nil, hs, hx, append_two ht ht2] at h1 ⊢
  exact h1
end

theorem max_loop : ∀ (v : List Nat) (j : Nat) (m : Nat), j ≤ v.length → v.length < 9223372036854775800 → (∃ K, ∀ k, K ≤ k → slices_Max_int_int.l0 k (0 :: ints v) (m : Int) ((j : Int) + 1) = some (((v.drop j).foldl max m : Nat) : Int)) := by
  intro v j m hj hl
  induction hn : v.length - j generalizing j m with
  | zero =>
    obtain rfl : j = v.length := by omega
    refine ⟨1, fun k hk => ?_⟩
    obtain ⟨k, rfl⟩ : ∃ k', k = k' + 1 := ⟨k - 1, by omega⟩
    simp [slices_Max_int_int.l0, ints_length]
  | succ n ih =>
    have hlt : j < v.length := by omega
    obtain ⟨K, hK⟩ := ih (j + 1) (max m (v.getD j 0)) (by omega) (by omega)
    refine ⟨K + 1, fun k hk => ?_⟩
    obtain ⟨k, rfl⟩ : ∃ k', k = k' + 1 := ⟨k - 1, by omega⟩
    have h1 := hK k (by omega)
    have hrd : rd (0 :: ints v) ((j : Int) + 1) = ((v.getD j 0 : Nat) : Int) := by
      have := rd_ints v j
      unfold rd at this ⊢
      rw [show ((j : Int) + 1).toNat = j + 1 from by omega]
      rwa [Int.toNat_natCast] at this
    have hmx : mx (m : Int) ((v.getD j 0 : Nat) : Int) = ((max m (v.getD j 0) : Nat) : Int) := by
      unfold mx
      split <;> omega
    rw [slices_Max_int_int.l0, if_pos (by simp [ints_length]; omega), if_pos (by omega), hrd, hmx, w64 (by omega) (by omega)]
    rw [List.drop_eq_getElem_cons hlt, List.foldl_cons]
    rw [List.getD_eq_getElem?_getD, List.getElem?_eq_getElem hlt] at h1 ⊢
    simp only [Option.getD_some] at h1 ⊢
    rw [← h1]
    congr 1
theorem max_zero : ∀ (v : List Nat) (m : Nat), (v.foldl max m = 0) ↔ (m = 0 ∧ v.sum = 0)
  | [], m => by simp
  | x :: v, m => by
    rw [List.foldl_cons, max_zero v, List.sum_cons]
    omega
theorem max_is (v : List Nat) (hl : v.length < 9223372036854775800) : ∃ k r, slices_Max_int_int.f k (0 :: ints v) = some r ∧ (r == 0) = decide (v.sum = 0) := by
  obtain ⟨K, hK⟩ := max_loop v 0 0 (Nat.zero_le _) hl
  refine ⟨K, (((v.drop 0).foldl max 0 : Nat) : Int), ?_, ?_⟩
  · rw [← hK K (Nat.le_refl _)]
    unfold slices_Max_int_int.f
    rw [if_neg (by simp; omega), if_pos (by simp)]
    rfl
  · have h := max_zero v 0
    rw [List.drop_zero]
    by_cases hs : v.sum = 0
    · rw [h.2 ⟨rfl, hs⟩, decide_eq_true hs]; rfl
    · rw [decide_eq_false hs]
      exact beq_eq_false_iff_ne.2 (fun e => hs (h.1 (by omega)).2)
end Go.Proofs.Ytohpboblmmbjnaa.P
/- The contract of odo's rank of weaves. -/
namespace Go.Proofs.Ytohpboblmmbjnaa.P
open Go Go.RowKit Go.Shelf Go.Proofs.YtohpboblmmbjnaaW.PrintWords Go.Proofs.YtohpboblmmbjnaaW.PrintLast Go.Proofs.YtohpboblmmbjnaaW.PrintMore Go.Proofs.Odo
attribute [local go_sem] Oper.semAt_some

theorem mem_le_sum : ∀ {v : List Nat} {x : Nat}, x ∈ v → x ≤ v.sum
  | y :: v, x, h => by
    rw [List.sum_cons]
    rcases List.mem_cons.1 h with rfl | h
    · omega
    · have := mem_le_sum h
      omega
theorem own_le {w : World} {base base' size n : Nat} {e : TypeId} {v : Value} {xs : List Value} (h : w.ownsRow base e size v n xs) (hb : base' ≤ base) : w.ownsRow base' e size v n xs := by
  refine ⟨h.1, ?_⟩
  rcases h.2 with h2 | ⟨g, cap, cur, hv, hg, hrest⟩
  · exact .inl h2
  · exact .inr ⟨g, cap, cur, hv, Nat.le_trans hb hg, hrest⟩
theorem acc_step {a s m s' M V : Nat} (h1 : s' = s + m) (h2 : s' ≤ M) (h3 : a + M ≤ V) (h4 : V < 18446744073709551616) : IntKind.u64.wrap (((a + s : Nat) : Int) + (m : Int)) = ((a + s' : Nat) : Int) := by
  rw [u64_wrap (by omega) (by omega)]; omega
theorem sum_small {x s : Nat} (h : x ≤ s) (hs : s ≤ 64) : x < 9223372036854775808 := by omega
theorem sub_next {j n : Nat} (h : j < n) : n - (intOf (.int .i64 ((j + 1 : Nat) : Int))).toNat < n - (intOf (.int .i64 (j : Int))).toNat := by simp only [intOf, Int.toNat_natCast]; omega
theorem mem_le_sum_at {v : List Nat} {i y : Nat} (h : v.getD i 0 = y) (hy : y ≠ 0) : y ≤ v.sum := by
  have hi := getD_lt (h ▸ hy)
  rw [List.getD_eq_getElem?_getD, List.getElem?_eq_getElem hi] at h
  exact mem_le_sum (by rw [← h]; exact List.getElem_mem hi)
theorem ints_less {v : List Nat} {i y : Nat} (h : v.getD i 0 = y) (hy : y ≠ 0) (hs : y < 9223372036854775808) : (ints v).set i (wrap64 ((y : Int) - 1)) = ints (less v i) := by
  rw [w64 (by omega) (by omega)]
  unfold less ints
  rw [List.map_set, h]
  congr 1
  show _ = ((y - 1 : Nat) : Int)
  omega
theorem small_bytes {n : Nat} (h : n ≤ 64) : ([(0 : Int)].length + n) * 8 ≤ 140737488355328 := by simp; omega
theorem then_none {P : Program} {c : Code} {K : Act → World → Prop} {Q : Exit → Act → World → Prop} {a : Act} {w : World} (h : c.wp P (Exit.then K (fun _ _ _ => False)) a w) : c.wp P (Exit.then K Q) a w :=
  wp_mono h fun e a w h => by cases e <;> first | exact h | exact h.elim
theorem wrap_next {j n : Nat} (h : j < n) (hn : n < 9223372036854775807) : wrap64 ((j : Int) + 1) = ((j + 1 : Nat) : Int) := by rw [w64 (by omega) (by omega)]; omega
theorem Unshut.alloc {W : World} {ds : List Nat} (h : Unshut W ds) (o : Obj) : Unshut (W.alloc o) ds := ⟨h.1, fun D hD => by
  have h0 := h.2 D hD
  exact (Below.heap_alloc _ _ _ (Array.getElem?_eq_some_iff.1 h0).1).trans h0⟩
theorem mc_less_le {v : List Nat} {i : Nat} (h : v.getD i 0 ≠ 0) : mc (less v i) ≤ mc v := by
  have hi := getD_lt h
  have h1 := shares_le v (show i + 1 ≤ v.length from hi)
  rw [shares_succ] at h1
  have h2 := less_sum v i h
  rw [shares_all v (by omega)] at h1
  have h3 : share v i = mc (less v i) := by unfold share; rw [if_neg h]
  omega
theorem counts_are (v : List Nat) (hs : v.sum ≤ 64) (hl : v.length ≤ 64) (hm : mc v < 18446744073709551616) (N : Nat) : ∃ k, ∀ k', k ≤ k' → ∀ i, i < N → v.getD i 0 ≠ 0 → odo_weaves_count.f k' (ints (less v i)) = some (((mc (less v i) : Nat) : Int), true) := by
  induction N with
  | zero => exact ⟨0, fun k' _ i hi => absurd hi (by omega)⟩
  | succ N ih =>
    obtain ⟨k, hk⟩ := ih
    by_cases hz : v.getD N 0 = 0
    · refine ⟨k, fun k' hk' i hi hne => ?_⟩
      rcases Nat.lt_or_ge i N with h | h
      · exact hk k' hk' i h hne
      · obtain rfl : i = N := by omega
        exact absurd hz hne
    · have h1 := less_sum v N hz
      obtain ⟨k2, hk2⟩ := count_is (less v N) (by omega) (by rw [less_length]; omega)
      refine ⟨max k k2, fun k' hk' i hi hne => ?_⟩
      rcases Nat.lt_or_ge i N with h | h
      · exact hk k' (by omega) i h hne
      · obtain rfl : i = N := by omega
        refine (hk2 k' (by omega)).trans ?_
        unfold countRes
        rw [if_pos (by have := mc_less_le hz; omega)]

/-- What rank answers, of the numbers that are left and what has been counted. -/
def rankW : List Nat → List Int → Nat → Nat × Bool
  | v, [], a => (a, decide (v.sum = 0))
  | v, x :: l, a => if 0 ≤ x ∧ x < v.length ∧ v.getD x.toNat 0 ≠ 0 then rankW (less v x.toNat) l (a + shares v x.toNat) else (0, false)

set_option maxHeartbeats 2000000 in
set_option maxRecDepth 100000 in
theorem weaves_rank.calls (v : List Nat) (A0 : Option Addr) (c0 : Nat) (A1 : Option Addr) (c1 : Nat) (l : List Int) (w : World) (hr0 : Kd.C (Kd.int .i64) w A0 (ints v).length (ints v)) (hc0 : (ints v).length ≤ c0)
    (hr1 : Kd.C (Kd.int .i64) w A1 l.length l) (hc1 : l.length ≤ c1) (hs : v.sum ≤ 64) (hl : v.length ≤ 64) (hm : mc v < 18446744073709551616) (hL : l.length < 9223372036854775807) :
    Calls Try.prog 72 #[.slice A0 (ints v).length c0, .slice A1 l.length c1] w fun e w' => e = .returned (.tuple #[.int .u64 (rankW v l 0).1, .bool (rankW v l 0).2]) ∧ Below w.heap.size w w' := by
  have HR0 := Aside0.mk hr0
  have HC0 := Aside0.mk hc0
  have HR1 := Aside0.mk hr1
  have HC1 := Aside0.mk hc1
  have hcl : Aside0 (slices_Clone_odo_weaves_int.f (ints v) = some (ints v)) := ⟨by
    unfold slices_Clone_odo_weaves_int.f
    simp only [Option.bind_some, List.length_nil, List.nil_append]
    rw [if_pos (by rw [ints_length]; omega)]⟩
  have HLN := Aside0.mk hL
  have HBND := Aside0.mk hl
  have HMC := Aside0.mk hm
  clear hr0 hc0 hr1 hc1 hL hm
  refine (callsIn_wide (n := 3)).1 ?_
  refine callsIn_of_wp_marks Try.func72 rfl trivial ?_ rfl
  simp only [Try.ntmps72, List.size_toArray, List.length_cons, List.length_nil, Nat.reduceAdd, Nat.reduceSub, Array.replicate_succ, Array.replicate_zero, List.push_toArray, List.append_toArray, List.nil_append, List.cons_append]
  gi_wp2_with fail
  refine ⟨trivial, ?_⟩
  refine (callsIn_wide.2 (slices_Clone_odo_weaves_int.calls A0 c0 (ints v) (ints v) _ HR0.out HC0.out hcl.out)).mono ?_
  rintro e w1 ⟨v1, rfl, hR1, hB1⟩
  obtain ⟨AL, cL, rfl⟩ := Kd.R_slice hR1
  have hO := Kd.own_of_R hR1
  rw [ints_length] at hO
  have HO := Aside0.mk hO
  have HB := Aside0.mk hB1
  clear hR1 hB1 hO
  gi_wp2_with fail
  have HBag := Aside0.mk (Bag.fresh (Bag.hold (B := w.heap.size) (w := w) (ds := []) (rows := []) (cells := []) (W := w) ⟨by simp, by simp, by simp [blocks], ⟨List.nodup_nil, by simp⟩, by simp, Below.refl _ _, Nat.le_refl _⟩ HB.out HO.out) 25 (.int .u64 0))
  clear HB HO
  simp only [ints_length]
  refine wpIn_loop (fun a W => ∃ (u9 u10 u11 u17 u18 u19 u20 u21 u22 u23 u24 u25 u26 u27 u28 u29 u30 u31 u32 u33 u34 u35 u36 u37 u38 u39 u40 u41 u42 u43 u44 u45 u46 u47 u48 u49 u50 u51 : Value) (ds : List Nat) (j : Nat) (vj : List Nat) (aj : Nat), (j ≤ l.length ∧ Aside0 (rankW vj (l.drop j) aj = rankW v l 0) ∧ Aside0 (vj.length = v.length) ∧ Aside0 (vj.sum ≤ 64) ∧ Aside0 (aj + mc vj ≤ mc v) ∧ Aside0 (Bag w.heap.size w ds [(.slice AL v.length cL, v.length, ints vj)] [(w1.heap.size, 25, .int .u64 aj)] W)) ∧
      a = { tmps := #[.slice A0 v.length c0, .slice A1 l.length c1, undef, undef, .int .u64 0, .bool false, .slice AL v.length cL, .pointer (some ⟨w1.heap.size, 0, none⟩), undef, u9, u10, u11, .slice A0 v.length c0, .slice AL v.length cL, .slice A1 l.length c1, .int .i64 l.length, .int .i64 j, u17, u18, u19, u20, u21, u22, u23, u24, u25, u26, u27, u28, u29, u30, u31, u32, u33, u34, u35, u36, u37, u38, u39, u40, u41, u42, u43, u44, u45, u46, u47, u48, u49, u50, u51, undef, undef, undef, undef, undef, undef], defers := marks ds })
    (fun a _ => l.length - (intOf (a.tmps.getD 16 undef)).toNat) ?start ?round
  case start => exact ⟨undef, undef, undef, undef, undef, undef, undef, undef, undef, undef, undef, undef, undef, undef, undef, undef, undef, undef, undef, undef, undef, undef, undef, undef, undef, undef, undef, undef, undef, undef, undef, undef, undef, undef, undef, undef, undef, undef, [], 0, v, 0, ⟨Nat.zero_le _, ⟨rfl⟩, ⟨rfl⟩, ⟨hs⟩, ⟨by rw [Nat.zero_add]; exact Nat.le_refl _⟩, HBag⟩, rfl⟩
  case round =>
    clear HBag
    rintro a W ⟨u9, u10, u11, u17, u18, u19, u20, u21, u22, u23, u24, u25, u26, u27, u28, u29, u30, u31, u32, u33, u34, u35, u36, u37, u38, u39, u40, u41, u42, u43, u44, u45, u46, u47, u48, u49, u50, u51, ds, j, vj, aj, ⟨hj, HF, HL, HS, HM, HG⟩, rfl⟩
    obtain ⟨hcn, hfn⟩ := HG.out.cellOf (c := (w1.heap.size, 25, .int .u64 aj)) (by simp)
    by_cases hlt : j < l.length
    · obtain ⟨ad, e0, hx0⟩ := Kd.at_int HR1.out (j : Int) (by omega) (by omega)
      cases e0
      rw [Int.toNat_natCast] at hx0
      have hxW := pw_cell_below HG.out.below hx0
      obtain ⟨x, hxe⟩ : ∃ x, rd l (j : Int) = x := ⟨_, rfl⟩
      rw [hxe] at hxW
      have hdrop : l.drop j = x :: l.drop (j + 1) := by
        rw [List.drop_eq_getElem_cons hlt, ← hxe]
        congr 1
        simp [rd, List.getD_eq_getElem?_getD, List.getElem?_eq_getElem hlt]
      have HDR := Aside0.mk hdrop
      have HG2 := Aside0.mk (HG.out.fresh 3 (.int .i64 x))
      clear hx0 hxe hdrop
      by_cases hbad : 0 ≤ x ∧ x < v.length ∧ vj.getD x.toNat 0 ≠ 0
      · obtain ⟨hx1, hx2, hx3⟩ := hbad
        obtain ⟨i, rfl⟩ : ∃ i : Nat, x = i := ⟨x.toNat, by omega⟩
        rw [Int.toNat_natCast] at hx3
        obtain ⟨g, rfl⟩ := own_ptr (HG.out.row _ (List.mem_singleton.2 rfl)) (by show 0 < v.length; omega)
        have hat := own_at (HG2.out.row _ (List.mem_singleton.2 rfl)) (i : Int) hx1 (by show (i : Int) < v.length; omega)
        rw [Int.toNat_natCast, rd_ints] at hat
        obtain ⟨hcx, hfx⟩ := hat
        obtain ⟨y, hy⟩ : ∃ y, vj.getD i 0 = y := ⟨_, rfl⟩
        have HY := Aside0.mk hy
        rw [hy] at hcx hx3
        have hz : ((y : Int) == 0) = false := beq_eq_false_iff_ne.2 (by omega)
        have hd1 : decide ((i : Int) < 0) = false := decide_eq_false (by omega)
        have hd2 : decide (v.length ≤ i) = false := decide_eq_false (by omega)
        clear hy hcn hfn
        gi_wp2_with fail
        have hvj : vj.length = v.length := HL.out
        have hS1 : ∀ D ∈ ds, D < (W.alloc (.cells #[.int .i64 (i : Int)] 3)).heap.size := fun D hD => HG2.out.lt hD
        have hiN : i < v.length := by omega
        have hpos : 0 < vj.sum := by have := less_sum vj i (by rw [HY.out]; exact hx3); omega
        have hsh : ∀ q, q ≤ v.length → shares vj q ≤ mc vj := fun q hq => by
          have h1 := shares_le vj (i := q) (j := vj.length) (by omega)
          rwa [shares_all vj hpos] at h1
        have hshare : ∀ q, q < i → vj.getD q 0 ≠ 0 → shares vj (q + 1) = shares vj q + mc (less vj q) := fun q _ hne => by
          rw [shares_succ]; unfold share; rw [if_neg hne]
        have hskip : ∀ q, q < i → vj.getD q 0 = 0 → shares vj (q + 1) = shares vj q := fun q _ he => by
          rw [shares_succ]; unfold share; rw [if_pos he]; rfl
        obtain ⟨kc, hkc⟩ := counts_are vj HS.out (by omega) (Nat.lt_of_le_of_lt (Nat.le_trans (Nat.le_add_left _ _) HM.out) HMC.out) vj.length
        obtain ⟨more, hmore⟩ : ∃ more : Nat → Nat, ∀ q, more q = mc (less vj q) := ⟨_, fun _ => rfl⟩
        have heach := each_stops 2 (by decide) g cL vj kc (fun q => ((more q : Nat) : Int)) (fun _ => true) (fun x hx => by
            exact sum_small (mem_le_sum hx) HS.out) (by omega) (fun q h1 h2 => by rw [hmore]; exact hkc kc (Nat.le_refl _) q h1 h2)
        rw [hvj] at heach
        obtain ⟨acc, hacc⟩ : ∃ acc : Nat → Nat, ∀ q, acc q = aj + shares vj q := ⟨_, fun _ => rfl⟩
        have ha0 : acc 0 = aj := by rw [hacc]; rfl
        rw [← ha0] at HG2
        have hstep : ∀ q, q < i → vj.getD q 0 ≠ 0 → IntKind.u64.wrap ((acc q : Int) + (more q : Int)) = (acc (q + 1) : Int) := fun q hq hne => by
          rw [hacc, hacc, hmore]
          exact acc_step (hshare q hq hne) (hsh (q + 1) (by omega)) HM.out HMC.out
        have hkeep : ∀ q, q < i → vj.getD q 0 = 0 → acc (q + 1) = acc q := fun q hq he => by rw [hacc, hacc, hskip q hq he]
        have hfin : acc i = aj + shares vj i := hacc i
        have HSP := Aside0.mk hstep
        have HKP := Aside0.mk hkeep
        have HFI := Aside0.mk hfin
        have HSI := Aside0.mk (show shares vj i + mc (less vj i) ≤ mc vj by
          have h1 := hsh (i + 1) (by omega)
          rw [shares_succ] at h1
          unfold share at h1
          rwa [if_neg (by rw [HY.out]; exact hx3)] at h1)
        have HS1 := Aside0.mk hS1
        clear hsh hskip hshare hkc hS1 hcx hfx hxW hstep hkeep hfin hacc hmore ha0
        refine wpIn_rangeFunc_each rfl (by decide) (gf := 74) (fb := #[.slice (some ⟨g, 0, none⟩) v.length cL]) rfl trivial (enters_of Try.func74 (by kernel_rfl) rfl) heach (fun _ => rfl)
          (fun q W' => q ≤ i ∧ Bag w.heap.size w ds [(.slice (some ⟨g, 0, none⟩) v.length cL, v.length, ints vj)] [(W.heap.size, 3, .int .i64 i), (w1.heap.size, 25, .int .u64 (acc q))] W')
          (fun c W' => c = .exit 2 ∧ Bag w.heap.size w ds [(.slice (some ⟨g, 0, none⟩) v.length cL, v.length, ints vj)] [(W.heap.size, 3, .int .i64 i), (w1.heap.size, 25, .int .u64 (acc i))] W')
          ?hI ?hIx ?hRow ?hskip ?h0
          (fun q => { tmps := #[.slice A0 v.length c0, .slice (some ad) l.length c1, undef, undef, .int .u64 0, .bool false, .slice (some ⟨g, 0, none⟩) v.length cL, .pointer (some ⟨w1.heap.size, 0, none⟩), undef, .pointer (some ⟨W.heap.size, 0, none⟩), .int .i64 q, .int .u64 (more q), .slice A0 v.length c0, .slice (some ⟨g, 0, none⟩) v.length cL, .slice (some ad) l.length c1, .int .i64 l.length, .int .i64 j, .bool true, .pointer (some (ad.add j)), .int .i64 i, .int .i64 i, .bool false, .bool false, .int .i64 i, .slice (some ⟨g, 0, none⟩) v.length cL, .int .i64 v.length, .bool false, .bool false, .bool false, .slice (some ⟨g, 0, none⟩) v.length cL, .int .i64 i, .pointer (some ⟨g, i, none⟩), .int .i64 y, .bool false, .bool false, .slice (some ⟨g, 0, none⟩) v.length cL, .func (.func 74) #[.slice (some ⟨g, 0, none⟩) v.length cL] #[], .int .i64 q, .int .u64 (more q), u39, u40, u41, u42, u43, u44, u45, u46, u47, u48, u49, u50, u51, undef, undef, undef, undef, undef, undef], defers := [] }) ?assign ?body ?done ?stop
        case hI =>
          exact OwnFrom.and (ownFrom_pure _ _) (fun q W1 W2 row h hg hr => Bag.own (β := Nat) HS1.out (Nat.le_trans HG2.out.hB HG2.out.below.size) q W1 W2 row h hg hr)
        case hIx =>
          exact OwnFrom.and (ownFrom_pure _ _) (fun q W1 W2 row h hg hr => Bag.own (β := Code) HS1.out (Nat.le_trans HG2.out.hB HG2.out.below.size) q W1 W2 row h hg hr)
        case hRow =>
          intro q W1 h
          have h1 := h.2.row _ (List.mem_singleton.2 rfl)
          unfold LeftRow
          rw [hvj]
          exact own_le h1 (Nat.zero_le _)
        case hskip =>
          rintro q W1 ⟨hq, hb⟩ hlt2 hno
          have hz2 : vj.getD q 0 = 0 := Classical.byContradiction fun h => by
            rw [decide_eq_true h] at hno; cases hno
          have hne : q ≠ i := fun e => by subst e; rw [HY.out] at hz2; exact hx3 hz2
          rw [← HKP.out q (by omega) hz2] at hb
          exact ⟨by omega, hb⟩
        case h0 =>
          exact ⟨Nat.zero_le _, HG2.out⟩
        case assign =>
          intro lp q W1 K hK
          gi_wp2_with fail
          exact hK
        case body =>
          rintro lp q W1 hlp ⟨hq, hb⟩ hlt2 hyes
          obtain ⟨c1, f1⟩ := hb.cellOf (c := (W.heap.size, 3, .int .i64 i)) (by simp)
          obtain ⟨c2, f2⟩ := hb.cellOf (c := (w1.heap.size, 25, .int .u64 (acc q))) (by simp)
          by_cases he : q = i
          · subst he
            have hd : decide ((q : Int) ≤ q) = true := decide_eq_true (by omega)
            gi_wp2_with fail
            exact ⟨KeepsFrom.refl _ _, rfl, hb⟩
          · have hd : decide (i ≤ q) = false := decide_eq_false (by omega)
            have hne : vj.getD q 0 ≠ 0 := of_decide_eq_true hyes
            have hw := HSP.out q (by omega) hne
            gi_wp2_with fail
            refine ⟨(KeepsOthers.setCell _ _ _).from _, by omega, ?_⟩
            exact ((hb.perm (.refl _) (.swap _ _ _)).set (.int .u64 (acc (q + 1)))).perm (.refl _) (.swap _ _ _)
        case done =>
          rintro D W1 hD ⟨hq, hb⟩ hDD
          omega
        case stop =>
          rintro D c W1 hD ⟨rfl, hb⟩ hDD
          have hBD : w.heap.size ≤ D := by have := HG2.out.below.size; omega
          have HB2 := Aside0.mk (hb.mark hBD (fun h => by have := HS1.out D h; omega) hDD)
          obtain ⟨hci, hfi⟩ := hb.cellOf (c := (W.heap.size, 3, .int .i64 i)) (by simp)
          have hat := own_at (hb.row _ (List.mem_singleton.2 rfl)) (i : Int) (by omega) (by show (i : Int) < v.length; omega)
          rw [Int.toNat_natCast, rd_ints, HY.out] at hat
          obtain ⟨hcx, hfx⟩ := hat
          gi_wp2_with fail
          have hj1 := wrap_next hlt HLN.out
          refine ⟨⟨_, _, _, _, _, _, _, _, _, _, _, _, _, _, _, _, _, _, _, _, _, _, _, _, _, _, _, _, _, _, _, _, _, _, _, _, _, _, D :: ds, j + 1, ⟨hlt, less vj i, acc i, ⟨?g1⟩, ⟨?g2⟩, ⟨?g3⟩, ⟨?g4⟩, ⟨?g5⟩⟩, ⟨rfl, rfl, rfl, hj1, rfl, rfl, rfl, rfl, rfl, rfl, rfl, rfl, rfl, rfl, rfl, rfl, rfl, rfl, rfl, rfl, rfl, rfl, rfl, rfl, rfl, rfl, rfl, rfl, rfl, rfl, rfl, rfl, rfl, rfl, rfl, rfl, rfl, rfl, rfl⟩, rfl⟩, ?g7⟩
          case g1 => rw [HFI.out, ← HF.out, HDR.out, rankW, if_pos ⟨by omega, by rw [HL.out]; omega, by rw [Int.toNat_natCast, HY.out]; exact hx3⟩, Int.toNat_natCast]
          case g2 => rw [less_length]; exact HL.out
          case g3 => have := less_sum vj i (by rw [HY.out]; exact hx3); have := HS.out; omega
          case g4 =>
            have h1 := HSI.out
            rw [HFI.out]
            have := HM.out
            omega
          case g5 =>
            have h1 := (HB2.out.loseCell).setRow (i : Int) (wrap64 ((y : Int) - 1))
            rw [Int.toNat_natCast, ints_less HY.out hx3 (sum_small (mem_le_sum_at HY.out hx3) HS.out)] at h1
            exact h1
          case g7 => rw [hj1]; exact sub_next hlt
      · have hfin : Aside0 (rankW v l 0 = (0, false)) := ⟨by
          rw [← HF.out, HDR.out, rankW, HL.out, if_neg hbad]⟩
        have hend : ∀ tmps : Array Value, tmps.getD 4 undef = .int .u64 0 → tmps.getD 5 undef = .bool false → bodyPostM Fence.wide 3 Try.prog Try.f72 (fun e w' => e = .returned (.tuple #[.int .u64 (rankW v l 0).1, .bool (rankW v l 0).2]) ∧ Below w.heap.size w w') .ret { tmps := tmps, defers := marks ds } (W.alloc (.cells #[.int .i64 x] 3)) := fun tmps h4 h5 =>
          leaves_marks ds _ HG2.out.un ⟨_, results_tmp2 rfl tmps _ _, by rw [h4, h5, hfin.out]; rfl, shutAll_below (Nat.le_refl _) ds _ HG2.out.below HG2.out.lo⟩
        have HE := Aside0.mk hend
        by_cases h1 : x < 0
        · clear hbad hend
          gi_wp2_with fail
          exact HE.out _ rfl rfl
        · by_cases h2 : (v.length : Int) ≤ x
          · clear hbad hend
            gi_wp2_with fail
            exact HE.out _ rfl rfl
          · obtain ⟨i, rfl⟩ : ∃ i : Nat, x = i := ⟨x.toNat, by omega⟩
            obtain ⟨g, rfl⟩ := own_ptr (HG.out.row _ (List.mem_singleton.2 rfl)) (by show 0 < v.length; omega)
            have hat := own_at (HG2.out.row _ (List.mem_singleton.2 rfl)) (i : Int) (by omega) (by show (i : Int) < v.length; omega)
            rw [Int.toNat_natCast, rd_ints] at hat
            obtain ⟨hcx, hfx⟩ := hat
            have hz : vj.getD i 0 = 0 := Classical.byContradiction fun h => hbad ⟨by omega, by omega, h⟩
            rw [hz] at hcx
            have hd1 : decide ((i : Int) < 0) = false := decide_eq_false (by omega)
            have hd2 : decide (v.length ≤ i) = false := decide_eq_false (by omega)
            clear hbad hend
            gi_wp2_with fail
            exact HE.out _ rfl rfl
    · have hge : l.length ≤ j := by omega
      gi_wp2_with fail
      rename_i K0 aK
      refine wpIn_wide.2 (then_none ?_)
      obtain ⟨kx, rx, hx1, hx2⟩ := max_is vj (by have := HL.out; have := HBND.out; omega)
      have hown := HG.out.row _ (List.mem_singleton.2 rfl)
      have hvl : (ints vj).length = v.length := by rw [ints_length]; exact HL.out
      have HCJ : Aside0 (Kd.C (Kd.int .i64) W AL v.length (ints vj)) := ⟨by
        have h1 : W.ownsRow w.heap.size 3 1 (.slice AL (ints vj).length cL) (ints vj).length (nums .i64 (ints vj)) := by rw [hvl]; exact hown
        rw [← hvl]
        exact (Kd.R_reads' (d := Kd.int .i64) (Kd.R_of_own (ok := fun _ => True) h1 (fun _ _ => trivial))).2.2⟩
      have HBW := Aside0.mk HG.out.below
      have HX1 := Aside0.mk hx1
      have HSZ := Aside0.mk HG.out.below.size
      have HV := Aside0.mk hvl
      have hOL : ∀ W' : World, w.heap.size ≤ W'.heap.size → Kd.R (Kd.int .i64) 3 (W'.alloc (.cells #[.int .i64 0] 3)) w.heap.size (fun _ => True) (.slice (some ⟨W'.heap.size, 0, none⟩) 1 1) [(0 : Int)] := fun W' h =>
        Kd.R_of_own (own_lit W' w.heap.size 3 .i64 [0] h (by decide)) (fun _ _ => trivial)
      have HOL := Aside0.mk hOL
      have hlt1 : w1.heap.size < W.heap.size := (Array.getElem?_eq_some_iff.1 (HG.out.cell _ (List.mem_singleton.2 rfl)).2).1
      have hne : some w1.heap.size ≠ some W.drew.heap.size := fun e => by
        have e2 : w1.heap.size = W.heap.size := Option.some.inj e
        omega
      have HNE := Aside0.mk hne
      have hcnA : (W.alloc (.cells #[.int .i64 0] 3)).drew.cell? ⟨w1.heap.size, 0, none⟩ = some (.int .u64 aj) := pw_cell_below (below_drew (below_alloc (Below.refl _ _) _)) hcn
      have HCA := Aside0.mk hcnA
      clear hx1 hown hvl hne hlt1 hOL
      have hend : rankW v l 0 = (aj, (rx == 0)) := by rw [← HF.out, List.drop_eq_nil_of_le hge, rankW, hx2]
      have HEND := Aside0.mk hend
      clear hend hx2
      go_region_law (first
        | (refine append_two_step (Kd.int .i64) w.heap.size rfl (.tmp 53) (.tmp 54) 22 82 3 3 (.int .i64 0) 8 rfl Try.underlying22 Try.underlying82 rfl rfl (by decide) (by decide) (.slice (some ⟨W.drew.heap.size, 0, none⟩) 1 1) [0] (ints vj) AL v.length cL (fun _ => True) (fun _ => False) rfl rfl (HOL.out W.drew HSZ.out) (Kd.C_below HCJ.out (below_alloc (below_drew (Below.refl _ _)) _)) (fun _ _ h => h) (fun _ h => h.elim) (fun _ _ => trivial) (below_alloc (below_drew HBW.out) _) (Nat.le_trans HSZ.out (by simp)) (small_bytes HBND.out) ?_; intro v1 w4 hR1 hB1 hG4 _; have hcn4 := hG4.cell HCA.out HNE.out; have hBg := (below_alloc (below_drew (Below.refl W.heap.size W)) (.cells #[.int .i64 0] 3)).grown hG4 (by simp) (fun k e => by cases e; exact Nat.le_refl _); have hg4 := Aside0.mk (HG.out.later hBg); obtain ⟨A4, c4, rfl⟩ := Kd.R_slice hR1; have hR2 := (Kd.R_reads' hR1).2; have hcall := slices_Max_int_int.calls kx A4 c4 ([0] ++ ints vj) rx _ hR2.2 hR2.1 HX1.out; obtain ⟨n4, hn4⟩ : ∃ n4, ([0] ++ ints vj).length = n4 := ⟨_, rfl⟩; rw [hn4] at hcall; rw [hn4]; replace hB1 := Aside0.mk hB1; replace hcall := Aside0.mk hcall; clear hR1 hR2 hn4 hG4 hBg)
        | (refine goes_ Try.func77 (by kernel_rfl) rfl #[.slice A4 n4 c4] (by rfl) rfl rfl (by simp only [List.map_toArray, List.map_cons, List.map_nil]; rfl) ?_; refine hcall.out.mono ?_; rintro e w5 ⟨rfl, hB2⟩; have hcn5 := pw_cell_below hB2 hcn4; have hg5 := Aside0.mk (hg4.out.later hB2); refine ⟨_, rfl, ?_⟩))
      all_goals
        refine aK _ _ (wpIn_ret ?_)
        refine leaves_marks ds _ hg5.out.un ⟨_, results_tmp2 rfl _ _ _, ?_, shutAll_below (Nat.le_refl _) ds _ hg5.out.below hg5.out.lo⟩
        rw [HEND.out]
        simp only [Act.put, List.setIfInBounds_toArray]
        rfl
end Go.Proofs.Ytohpboblmmbjnaa.P
