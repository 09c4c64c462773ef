/- The law's `goes`: an iterator goes through a space's lists. -/
import Derived.Test.YtohpboblmmbjnaaCnt
import Derived.Test.YtohpboblmmbjnaaRsf
set_option linter.unusedVariables false
set_option linter.unusedSimpArgs false
set_option linter.unnecessarySimpa false
namespace Go.Proofs.Ytohpboblmmbjnaa.P
open Go Go.RowKit Go.Shelf Go.Proofs.YtohpboblmmbjnaaW.PrintWords Go.Proofs.YtohpboblmmbjnaaW.PrintLast Go.Proofs.YtohpboblmmbjnaaW.PrintMore Go.Proofs.Odo
attribute [local go_sem] Oper.semAt_some
theorem fn54 (W : World) (f : Fn) (a b : Array Value) : (binOp .eql 54 (.func f a b) .nilFunc).run Try.prog W = .ok (.bool false) W := by kernel_rfl
/-- What goes has boxed. -/
structure GB (w : World) (b7 b8 b10 b11 b12 : Nat) (fv vr fs : Value) (stop inner : Int) (W : World) : Prop where
  below : Below w.heap.size w W
  h6 : W.heap[w.heap.size]? = some (.cells #[fv] 54 (0, 0))
  h7 : W.heap[b7]? = some (.cells #[vr] 27 (0, 0))
  h8 : W.heap[b8]? = some (.cells #[fs] 22 (0, 0))
  h10 : W.heap[b10]? = some (.cells #[.int .i64 stop] 3 (0, 0))
  h11 : W.heap[b11]? = some (.cells #[.int .i64 inner] 3 (0, 0))
  h12 : W.heap[b12]? = some (.cells #[.bool false] 4 (0, 0))
  eq : b7 = w.heap.size + 1 ∧ b8 = w.heap.size + 2 ∧ b10 = w.heap.size + 3 ∧ b11 = w.heap.size + 4 ∧ b12 = w.heap.size + 5
  size : w.heap.size + 6 ≤ W.heap.size
section
variable {w ws W W' : World} {b7 b8 b10 b11 b12 : Nat} {fv vr fs : Value} {stop inner : Int}
theorem GB.of (h : GB w b7 b8 b10 b11 b12 fv vr fs stop inner W) (hb : Below w.heap.size w W') (hs : w.heap.size + 6 ≤ W'.heap.size) (hk : ∀ k, w.heap.size ≤ k → k < w.heap.size + 6 → W'.heap[k]? = W.heap[k]?) : GB w b7 b8 b10 b11 b12 fv vr fs stop inner W' := by
  obtain ⟨e1, e2, e3, e4, e5⟩ := h.eq
  exact ⟨hb, (hk _ (by omega) (by omega)).trans h.h6, (hk _ (by omega) (by omega)).trans h.h7, (hk _ (by omega) (by omega)).trans h.h8, (hk _ (by omega) (by omega)).trans h.h10, (hk _ (by omega) (by omega)).trans h.h11, (hk _ (by omega) (by omega)).trans h.h12, h.eq, hs⟩
theorem GB.later (h : GB w b7 b8 b10 b11 b12 fv vr fs stop inner W) (hb : Below W.heap.size W W') : GB w b7 b8 b10 b11 b12 fv vr fs stop inner W' :=
  h.of (below_then h.below h.below.size hb) (Nat.le_trans h.size hb.size) (fun k _ hk => hb.block k (by have := h.size; omega))
theorem GB.keepx {S : Nat} {ex : List Nat} (h : GB w b7 b8 b10 b11 b12 fv vr fs stop inner ws) (hk : KeepX S ex ws W) (hS : w.heap.size + 6 ≤ S) (hex : ∀ k ∈ ex, w.heap.size + 6 ≤ k) : GB w b7 b8 b10 b11 b12 fv vr fs stop inner W :=
  h.of (hk.below h.below (by omega) (.inr (by omega)) (fun k hm => by have := hex k hm; omega)) (Nat.le_trans hS hk.size) (fun k _ hlt => hk.blk k (by omega) (fun hm => by have := hex k hm; omega))
end
theorem GB.new (w : World) (fv vr fs : Value) (stop inner : Int) : GB w (w.heap.size + 1) (w.heap.size + 1 + 1) (w.heap.size + 1 + 1 + 1) (w.heap.size + 1 + 1 + 1 + 1) (w.heap.size + 1 + 1 + 1 + 1 + 1) fv vr fs stop inner ((((((w.alloc (.cells #[fv] 54)).alloc (.cells #[vr] 27)).alloc (.cells #[fs] 22)).alloc (.cells #[.int .i64 stop] 3)).alloc (.cells #[.int .i64 inner] 3)).alloc (.cells #[.bool false] 4)) := by
  refine ⟨?_, ?_, ?_, ?_, ?_, ?_, ?_, ⟨rfl, rfl, rfl, rfl, rfl⟩, by simp⟩
  · exact below_alloc (below_alloc (below_alloc (below_alloc (below_alloc (below_alloc (Below.refl _ _) _) _) _) _) _) _
  · exact blk_alloc (blk_alloc (blk_alloc (blk_alloc (blk_alloc (World.alloc_heap_new w _)))))
  · refine blk_alloc (blk_alloc (blk_alloc (blk_alloc ?_))); have h := World.alloc_heap_new (w.alloc (.cells #[fv] 54)) (.cells #[vr] 27); simpa using h
  · refine blk_alloc (blk_alloc (blk_alloc ?_)); have h := World.alloc_heap_new ((w.alloc (.cells #[fv] 54)).alloc (.cells #[vr] 27)) (.cells #[fs] 22); simpa using h
  · refine blk_alloc (blk_alloc ?_); have h := World.alloc_heap_new (((w.alloc (.cells #[fv] 54)).alloc (.cells #[vr] 27)).alloc (.cells #[fs] 22)) (.cells #[.int .i64 stop] 3); simpa using h
  · refine blk_alloc ?_; have h := World.alloc_heap_new ((((w.alloc (.cells #[fv] 54)).alloc (.cells #[vr] 27)).alloc (.cells #[fs] 22)).alloc (.cells #[.int .i64 stop] 3)) (.cells #[.int .i64 inner] 3); simpa using h
  · have h := World.alloc_heap_new (((((w.alloc (.cells #[fv] 54)).alloc (.cells #[vr] 27)).alloc (.cells #[fs] 22)).alloc (.cells #[.int .i64 stop] 3)).alloc (.cells #[.int .i64 inner] 3)) (.cells #[.bool false] 4); simpa using h
def goFrame (gf : Nat) (lb : Array Value) (gr : Nat) (A0 : Option Addr) (n00 c0 m : Nat) (stop inner : Int) (B b7 b8 b10 b11 b12 : Nat) (x : Nat → Value) (c13 : Nat) (ds : List Nat) : Act :=
  { tmps := #[.func (.func gf) #[] lb, .pointer (some ⟨gr, 0, none⟩), (.slice A0 n00 c0), .bool (decide (0 < m)), .int .i64 stop, .int .i64 inner, .pointer (some ⟨B, 0, none⟩), .pointer (some ⟨b7, 0, none⟩), .pointer (some ⟨b8, 0, none⟩), undef, .pointer (some ⟨b10, 0, none⟩), .pointer (some ⟨b11, 0, none⟩), .pointer (some ⟨b12, 0, none⟩), .pointer (some ⟨c13, 0, none⟩), x 14, x 15, x 16, x 17, x 18, x 19, x 20, .func (.func gf) #[] lb, .bool false, x 23, x 24, x 25, x 26, x 27, x 28, x 29, x 30, x 31, x 32, x 33, x 34, x 35, x 36, x 37, x 38, x 39, x 40, x 41, x 42, x 43, x 44, x 45, x 46, x 47, x 48, x 49, x 50, x 51, x 52, x 53, x 54, x 55, x 56, x 57, x 58, x 59, x 60, x 61, x 62, x 63, x 64, x 65, x 66, x 67, x 68, x 69, x 70, x 71, x 72, x 73, x 74, x 75, x 76, x 77, x 78, x 79, x 80, x 81, x 82, x 83, x 84, x 85, x 86, x 87, x 88, x 89, x 90, x 91, x 92, x 93, x 94, x 95, x 96, x 97, x 98, x 99, x 100, x 101, x 102, x 103, x 104], defers := marks ds }
theorem goFrame_eq {gf : Nat} {lb : Array Value} {gr : Nat} {A0 : Option Addr} {n00 c0 m : Nat} {stop inner : Int} {B b7 b8 b10 b11 b12 c13 : Nat} {ds : List Nat} {a : Act} (h : a = goFrame gf lb gr A0 n00 c0 m stop inner B b7 b8 b10 b11 b12 (fun n => a.tmps.getD n undef) c13 ds) : a = goFrame gf lb gr A0 n00 c0 m stop inner B b7 b8 b10 b11 b12 (fun n => a.tmps.getD n undef) c13 ds := h
theorem unshut_set {W : World} {ds : List Nat} {g : Nat} {cs : Array Value} {e : TypeId} {fr : Nat × Nat} (h : Unshut W ds) (hg : W.heap[g]? = some (.cells cs e fr)) (v : Value) : Unshut (W.setCell ⟨g, 0, none⟩ v) ds :=
  ⟨h.1, fun D hD => (set_other (fun e' => by have h1 := h.2 D hD; rw [e', hg] at h1; cases h1)).trans (h.2 D hD)⟩
theorem unshut_later {W W' : World} {ds : List Nat} (h : Unshut W ds) (hb : Below W.heap.size W W') : Unshut W' ds := ⟨h.1, fun D hD => blk_below (h.2 D hD) hb⟩
/-- What a round has kept so far: what is no cells, and the iterator's block. -/
structure RD (S : Nat) (b : Option Nat) (Wb W : World) : Prop where
  size : Wb.heap.size ≤ W.heap.size
  same : ∀ (k : Nat) (o : Obj), S ≤ k → Wb.heap[k]? = some o → (o.isCells = false ∨ b = some k) → W.heap[k]? = some o
theorem RD.refl (S : Nat) (b : Option Nat) (W : World) : RD S b W W := ⟨Nat.le_refl _, fun _ _ _ h _ => h⟩
theorem RD.grown {S : Nat} {b : Option Nat} {Wb W W' : World} {row : Option Nat} (h : RD S b Wb W) (hg : W.grownBy W' row) (hr : ∀ k, row = some k → k < S ∨ Wb.heap.size ≤ k ∨ (b ≠ some k ∧ ∃ o, W.heap[k]? = some o ∧ o.isCells = true)) : RD S b Wb W' :=
  ⟨Nat.le_trans h.size hg.size, fun k o hk ho hc => by
    have h1 := h.same k o hk ho hc
    have hlt := (Array.getElem?_eq_some_iff.1 ho).1
    refine (hg.block k (Array.getElem?_eq_some_iff.1 h1).1 (fun e => ?_)).trans h1
    rcases hr k e.symm with h2 | h2 | ⟨h2, o', h3, h4⟩
    · omega
    · omega
    · rcases hc with hc | hc
      · rw [h1] at h3
        cases h3
        rw [hc] at h4
        cases h4
      · exact h2 hc⟩
theorem RD.later {S : Nat} {b : Option Nat} {Wb W W' : World} (h : RD S b Wb W) (hb : Below W.heap.size W W') : RD S b Wb W' := h.grown (grown_of hb) (fun k e => by cases e)
theorem RD.keepx {S S2 : Nat} {b : Option Nat} {ex : List Nat} {Wb Wn W : World} (h : RD S b Wb Wn) (hk : KeepX S2 ex Wn W) (hS : Wn.heap.size ≤ S2) (hex : ∀ k ∈ ex, Wb.heap.size ≤ k) : RD S b Wb W :=
  ⟨Nat.le_trans h.size (Nat.le_trans hS hk.size), fun k o hS' ho hc => by
    have h1 := h.same k o hS' ho hc
    have hlt := (Array.getElem?_eq_some_iff.1 ho).1
    have hlt2 := (Array.getElem?_eq_some_iff.1 h1).1
    exact (hk.blk k (by omega) (fun hm => by have := hex k hm; omega)).trans h1⟩
theorem RD.keeps {S : Nat} {b : Option Nat} {Wb W : World} (h : RD S b Wb W) : KeepsFrom S Wb W := ⟨h.size, fun k o hk ho hc => h.same k o hk ho (.inl hc)⟩
theorem WantOK.moved {w0 : World} {S : Nat} {b : Option Nat} {W W' : World} {wv : Value} {xs : List Int} (h : WantOK w0 S b W wv xs) (hk : ∀ k, k < W.heap.size → W'.heap[k]? = W.heap[k]?) : WantOK w0 S b W' wv xs := by
  rcases h with h | ⟨h, hb⟩
  · exact .inl h
  · exact .inr ⟨own_sameD h (b := wv.ownBlock) (fun k hk => hk) (fun k hk' o ho => (hk k (h.lt k hk').2).trans ho), hb⟩
theorem GS.keepx2 {w0 ws Wn W : World} {S S2 c14 c15 c16 : Nat} {b : Option Nat} {wv : Value} {xs : List Int} {more : Bool} {n : Nat} {ex : List Nat} (h : GS w0 ws S c14 c15 c16 b wv xs more n Wn) (hk : KeepX S2 ex Wn W) (hS : Wn.heap.size ≤ S2) (hS1 : S ≤ Wn.heap.size) (hc : c14 < S ∧ c15 < S ∧ c16 < S) (hex : ∀ k ∈ ex, S ≤ k) (hw : WantOK w0 S b W wv xs) : GS w0 ws S c14 c15 c16 b wv xs more n W := by
  have hb : ∀ k, k < S → W.heap[k]? = Wn.heap[k]? := fun k hlt => hk.blk k (by omega) (fun hm => by have := hex k hm; omega)
  exact ⟨⟨hk.os.trans h.k.os, hk.tape.trans h.k.tape, hk.output.trans h.k.output, by have := hk.size; omega, fun k hlt hn => (hb k hlt).trans (h.k.blk k hlt hn)⟩, (hb _ hc.1).trans h.w, (hb _ hc.2.1).trans h.m, (hb _ hc.2.2).trans h.n, hw⟩
theorem GS.keepx {w0 ws Wn W : World} {S S2 c14 c15 c16 : Nat} {b : Option Nat} {wv : Value} {xs : List Int} {more : Bool} {n : Nat} {ex : List Nat} (h : GS w0 ws S c14 c15 c16 b wv xs more n Wn) (hk : KeepX S2 ex Wn W) (hS : Wn.heap.size ≤ S2) (hS1 : S ≤ Wn.heap.size) (hc : c14 < S ∧ c15 < S ∧ c16 < S) (hex : ∀ k ∈ ex, S ≤ k ∧ ∀ k0, wv.ownBlock = some k0 → k ≠ k0) : GS w0 ws S c14 c15 c16 b wv xs more n W := by
  have hb : ∀ k, k < S → W.heap[k]? = Wn.heap[k]? := fun k hlt => hk.blk k (by omega) (fun hm => by have := (hex k hm).1; omega)
  refine ⟨⟨hk.os.trans h.k.os, hk.tape.trans h.k.tape, hk.output.trans h.k.output, by have := hk.size; omega, fun k hlt hn => (hb k hlt).trans (h.k.blk k hlt hn)⟩, (hb _ hc.1).trans h.w, (hb _ hc.2.1).trans h.m, (hb _ hc.2.2).trans h.n, ?_⟩
  rcases h.want with hw | ⟨hw, hw2⟩
  · exact .inl hw
  · refine .inr ⟨own_sameD hw (b := wv.ownBlock) (fun k hk => hk) (fun k hk0 o ho => ?_), hw2⟩
    have hlt := hw.lt k hk0
    exact (hk.blk k (by omega) (fun hm => (hex k hm).2 k hk0 rfl)).trans ho
theorem split3 (i : Nat) (inner : Int) : ((i : Int) == inner) = false ∨ (((i : Int) == inner) = true ∧ decide ((i : Int) < 3) = false ∧ decide (i < 3) = false) ∨ (((i : Int) == inner) = true ∧ decide ((i : Int) < 3) = true ∧ decide (i < 3) = true) := by
  by_cases h : (i : Int) = inner
  · by_cases h3 : i < 3
    · exact .inr (.inr ⟨by simpa using h, decide_eq_true (by omega), decide_eq_true h3⟩)
    · exact .inr (.inl ⟨by simpa using h, decide_eq_false (by omega), decide_eq_false h3⟩)
  · exact .inl (by simpa using h)
theorem KeepX.row {W W' : World} {g : Nat} (h : W.grownBy W' (some g)) : KeepX W.heap.size [g] W W' := ⟨h.os, h.tape, h.output, h.size, fun k hk hn => h.block k hk (fun e => hn (by cases e; simp))⟩
theorem own_cells {W : World} {B g n c : Nat} {e : TypeId} {vs : List Value} (h : W.ownsRow B e 1 (.slice (some ⟨g, 0, none⟩) n c) n vs) : ∃ o, W.heap[g]? = some o ∧ o.isCells = true := by
  rcases h.2 with ⟨h1, _⟩ | ⟨g', cap, cur, hv, _, h2, _⟩
  · cases h1
  · cases hv; exact ⟨_, h2, rfl⟩
theorem split4 (i1 t : Nat) (s1 : Int) : (((i1 : Int) == 200) = true ∧ (i1 == 200) = true ∧ i1 = 200) ∨ (((i1 : Int) == 200) = false ∧ (i1 == 200) = false ∧ ((t : Int) == 0) = true ∧ (t == 0) = true ∧ ((i1 : Int) == s1) = true ∧ t = 0 ∧ (i1 : Int) = s1) ∨
    (((i1 : Int) == 200) = false ∧ (i1 == 200) = false ∧ ((t : Int) == 0) = true ∧ (t == 0) = true ∧ ((i1 : Int) == s1) = false) ∨ (((i1 : Int) == 200) = false ∧ (i1 == 200) = false ∧ ((t : Int) == 0) = false ∧ (t == 0) = false) := by
  by_cases h : i1 = 200
  · subst h; exact .inl ⟨rfl, rfl, rfl⟩
  · have h1 : ((i1 : Int) == 200) = false := by simp; omega
    have h2 : (i1 == 200) = false := by simpa using h
    by_cases ht : t = 0
    · subst ht
      by_cases hs : (i1 : Int) = s1
      · exact .inr (.inl ⟨h1, h2, rfl, rfl, by simpa using hs, rfl, hs⟩)
      · exact .inr (.inr (.inl ⟨h1, h2, rfl, rfl, by simpa using hs⟩))
    · exact .inr (.inr (.inr ⟨h1, h2, by simp; omega, by simpa using ht⟩))
def turnOf (a : Act) (W : World) : Nat :=
  match a.tmps.getD 13 undef with
  | .pointer (some ad) => match W.cell? ad with
    | some (.int _ i) => i.toNat
    | _ => 0
  | _ => 0
theorem turn_dec {a : Act} {W : World} {g t t1 : Nat} (h : a.tmps.getD 13 undef = .pointer (some ⟨g, 0, none⟩)) (hc : W.heap[g]? = some (.cells #[.int .i64 (t1 : Int)] 3 (0, 0))) (e : t1 = t + 1) (ht : t < 2) : 2 - turnOf a W < 2 - t := by
  have h1 : turnOf a W = t1 := by unfold turnOf; rw [h]; simp only [(cell_of hc).1, Int.toNat_natCast]
  rw [h1]; omega
theorem split5 {i t : Nat} {s1 : Int} (h : i = 200 ∨ (t = 0 ∧ (i : Int) = s1)) : (((i : Int) != 200) = false ∧ (i != 200) = false) ∨ (((i : Int) != 200) = true ∧ (i != 200) = true ∧ ((t : Int) == 1) = false ∧ (t == 1) = false ∧ ((i : Int) != s1) = false) := by
  by_cases hi : i = 200
  · subst hi; exact .inl ⟨rfl, rfl⟩
  · rcases h with h | ⟨rfl, h⟩
    · exact absurd h hi
    · refine .inr ⟨?_, by simpa using hi, rfl, rfl, by simpa using h⟩
      simp; omega
theorem unshut_cons {W3 W : World} {c14 c15 c16 D : Nat} {ds : List Nat} {v14 v15 v16 : Value} {e14 e15 e16 : TypeId} (hk : KeepX W3.heap.size [c14, c15, c16] W3 W) (hu : Unshut W3 ds) (hc : c14 < W3.heap.size ∧ c15 < W3.heap.size ∧ c16 < W3.heap.size) (h3 : W3.heap[c14]? = some (.cells #[v14] e14 (0, 0)) ∧ W3.heap[c15]? = some (.cells #[v15] e15 (0, 0)) ∧ W3.heap[c16]? = some (.cells #[v16] e16 (0, 0)))
    (hD : W3.heap.size ≤ D) (hDD : W.heap[D]? = some (.deferred (some []))) : Unshut W (D :: ds) := by
  have hlt : ∀ E ∈ ds, E < W3.heap.size := fun E hE => (Array.getElem?_eq_some_iff.1 (hu.2 E hE)).1
  refine ⟨List.nodup_cons.2 ⟨fun hm => by have := hlt D hm; omega, hu.1⟩, fun E hE => ?_⟩
  rcases List.mem_cons.1 hE with rfl | hE
  · exact hDD
  · refine (hk.blk E (hlt E hE) (fun hm => ?_)).trans (hu.2 E hE)
    have h1 := hu.2 E hE
    simp only [List.mem_cons, List.mem_nil_iff, or_false] at hm
    rcases hm with rfl | rfl | rfl
    · rw [h3.1] at h1; cases h1
    · rw [h3.2.1] at h1; cases h1
    · rw [h3.2.2] at h1; cases h1
def Ys (X : Nat → List Nat) (m i : Nat) : List Int := if i < m then ints (X i) else []
set_option maxHeartbeats 16000000 in
set_option maxRecDepth 100000 in
theorem goes_c {w : World} {gf : Nat} {lb : Array Value} {m n0 : Nat} {X : Nat → List Nat} {Fix : World → Prop} (hen : ∀ args W, (callFunc gf args).run Try.prog W = .ok (.enter gf args) W) (hit : ∀ k, 1 ≤ k → IterD Fence.wide k Try.prog gf lb m (fun i => ints (X i)) Fix)
    (hfb : ∀ W, Below w.heap.size w W → Fix W) {gr : Nat} {kd : Int} {l : List Int} (hr : RefS w (.pointer (some ⟨gr, 0, none⟩)) kd l)
    (hnext : ∀ i, i < m → ∀ W A c, RefS W (.pointer (some ⟨gr, 0, none⟩)) kd l → Kd.C (Kd.int .i64) W A (Ys X m i).length (Ys X m i) → (Ys X m i).length ≤ c → Calls Try.prog 34 #[.pointer (some ⟨gr, 0, none⟩), .slice A (Ys X m i).length c] W fun e W' =>
      ∃ v1, e = .returned (.tuple #[v1, .bool (decide (i + 1 < m))]) ∧ Kd.R (Kd.int .i64) 3 W' W.heap.size (fun _ => True) v1 (Ys X m (i + 1)) ∧ Below W.heap.size W W')
    (hlen : ∀ i, i < m → (X i).length ≤ 64) {A0 : Option Addr} {c0 : Nat} (h0 : Kd.C (Kd.int .i64) w A0 (Ys X m 0).length (Ys X m 0)) (hc0 : (Ys X m 0).length ≤ c0) (stop inner : Int) :
    Calls Try.prog 22 #[.func (.func gf) #[] lb, .pointer (some ⟨gr, 0, none⟩), .slice A0 (Ys X m 0).length c0, .bool (decide (0 < m)), .int .i64 stop, .int .i64 inner] w fun e W' => e = .returned (.bool true) ∧ Below w.heap.size w W' := by
  have HEN := Aside0.mk hen
  have HIT := Aside0.mk hit
  have HFB := Aside0.mk hfb
  have HRF := Aside0.mk hr
  have HNX := Aside0.mk hnext
  have HLN := Aside0.mk hlen
  have H0 := Aside0.mk h0
  have HC0 := Aside0.mk hc0
  obtain ⟨n00, hfs⟩ : ∃ n00, (Ys X m 0).length = n00 := ⟨_, rfl⟩
  obtain ⟨W1, hW1⟩ : ∃ W1, ((((((w.alloc (.cells #[.func (.func gf) #[] lb] 54)).alloc (.cells #[.pointer (some ⟨gr, 0, none⟩)] 27)).alloc (.cells #[(.slice A0 n00 c0)] 22)).alloc (.cells #[.int .i64 stop] 3)).alloc (.cells #[.int .i64 inner] 3)).alloc (.cells #[.bool false] 4)) = W1 := ⟨_, rfl⟩
  have hGB := GB.new w (.func (.func gf) #[] lb) (.pointer (some ⟨gr, 0, none⟩)) (.slice A0 n00 c0) stop inner
  rw [hW1] at hGB
  have HFS := Aside0.mk hfs
  have HW1 := Aside0.mk hW1
  rw [hfs]
  have h54 := fn54
  obtain ⟨b7, hb7⟩ : ∃ b7, w.heap.size + 1 = b7 := ⟨_, rfl⟩
  obtain ⟨b8, hb8⟩ : ∃ b8, b7 + 1 = b8 := ⟨_, rfl⟩
  obtain ⟨b10, hb10⟩ : ∃ b10, b8 + 1 = b10 := ⟨_, rfl⟩
  obtain ⟨b11, hb11⟩ : ∃ b11, b10 + 1 = b11 := ⟨_, rfl⟩
  obtain ⟨b12, hb12⟩ : ∃ b12, b11 + 1 = b12 := ⟨_, rfl⟩
  obtain ⟨b13, hb13⟩ : ∃ b13, b12 + 1 = b13 := ⟨_, rfl⟩
  rw [hb7, hb8, hb10, hb11, hb12] at hGB
  have HGB := Aside0.mk hGB
  have H7 := Aside0.mk hb7
  have H8 := Aside0.mk hb8
  have H10 := Aside0.mk hb10
  have H11 := Aside0.mk hb11
  have H12 := Aside0.mk hb12
  have H13 := Aside0.mk hb13
  clear hGB hb7 hb8 hb10 hb11 hb12 hb13
  clear hen hit hfb hr hnext hlen h0 hc0 hW1
  refine (callsIn_wide (n := 6)).1 ?_
  refine callsIn_of_wp_marks Try.func22 rfl trivial ?_ rfl
  simp only [Try.ntmps22, List.size_toArray, List.length_cons, List.length_nil, Nat.reduceAdd, Nat.reduceSub, Array.replicate_succ, Array.replicate_zero, List.push_toArray, List.append_toArray, List.nil_append, List.cons_append]
  gi_wp2_with fail
  rw [H7.out, H8.out, H10.out, H11.out, H12.out, H13.out, HW1.out]
  have HS1 := Aside0.mk (show W1.heap.size = b13 by rw [← HW1.out, ← H13.out, ← H12.out, ← H11.out, ← H10.out, ← H8.out, ← H7.out]; simp)
  have H13a := Aside0.mk (show (W1.alloc (.cells #[.int .i64 0] 3)).heap[b13]? = some (.cells #[.int .i64 0] 3 (0, 0)) by rw [← HS1.out]; exact World.alloc_heap_new W1 _)
  have HGB1 := Aside0.mk (HGB.out.later (below_alloc (Below.refl _ _) (.cells #[.int .i64 0] 3)))
  have H13b := Aside0.mk (show w.heap.size + 6 ≤ b13 by have := HGB.out.size; rw [HS1.out] at this; exact this)
  clear HW1 HGB HS1
  generalize W1.alloc (.cells #[.int .i64 0] 3) = W2 at H13a HGB1 ⊢
  refine wpIn_loop (fun a W => ∃ (x : Nat → Value) (c13 t : Nat) (ds : List Nat), (t ≤ 2 ∧ w.heap.size + 6 ≤ c13 ∧ Aside0 (W.heap[c13]? = some (.cells #[.int .i64 (t : Int)] 3 (0, 0))) ∧ Aside0 (GB w b7 b8 b10 b11 b12 (.func (.func gf) #[] lb) (.pointer (some ⟨gr, 0, none⟩)) (.slice A0 n00 c0) stop inner W) ∧ Aside0 (Unshut W ds) ∧ Aside0 (∀ D ∈ ds, w.heap.size ≤ D)) ∧
      a = goFrame gf lb gr A0 n00 c0 m stop inner w.heap.size b7 b8 b10 b11 b12 x c13 ds)
    (fun a W => 2 - turnOf a W) ?start ?round
  case start => exact ⟨fun _ => undef, b13, 0, [], ⟨by omega, H13b.out, H13a, HGB1, ⟨List.nodup_nil, by simp⟩, ⟨by simp⟩⟩, rfl⟩
  case round =>
    clear H13a HGB1 H13b
    rintro a W ⟨x, c13, t, ds, ⟨ht, hc13, HT, HG, HU, HD⟩, rfl⟩
    obtain ⟨d1, f1⟩ := cell_of HT.out
    have HTO := Aside0.mk (show turnOf (goFrame gf lb gr A0 n00 c0 m stop inner w.heap.size b7 b8 b10 b11 b12 x c13 ds) W = t by simp [turnOf, goFrame, d1])
    rw [HTO.out]
    clear HTO
    rw [show goFrame gf lb gr A0 n00 c0 m stop inner w.heap.size b7 b8 b10 b11 b12 x c13 ds = { tmps := #[.func (.func gf) #[] lb, .pointer (some ⟨gr, 0, none⟩), (.slice A0 n00 c0), .bool (decide (0 < m)), .int .i64 stop, .int .i64 inner, .pointer (some ⟨w.heap.size, 0, none⟩), .pointer (some ⟨b7, 0, none⟩), .pointer (some ⟨b8, 0, none⟩), undef, .pointer (some ⟨b10, 0, none⟩), .pointer (some ⟨b11, 0, none⟩), .pointer (some ⟨b12, 0, none⟩), .pointer (some ⟨c13, 0, none⟩), x 14, x 15, x 16, x 17, x 18, x 19, x 20, .func (.func gf) #[] lb, .bool false, x 23, x 24, x 25, x 26, x 27, x 28, x 29, x 30, x 31, x 32, x 33, x 34, x 35, x 36, x 37, x 38, x 39, x 40, x 41, x 42, x 43, x 44, x 45, x 46, x 47, x 48, x 49, x 50, x 51, x 52, x 53, x 54, x 55, x 56, x 57, x 58, x 59, x 60, x 61, x 62, x 63, x 64, x 65, x 66, x 67, x 68, x 69, x 70, x 71, x 72, x 73, x 74, x 75, x 76, x 77, x 78, x 79, x 80, x 81, x 82, x 83, x 84, x 85, x 86, x 87, x 88, x 89, x 90, x 91, x 92, x 93, x 94, x 95, x 96, x 97, x 98, x 99, x 100, x 101, x 102, x 103, x 104], defers := marks ds } from rfl]
    by_cases ht2 : t < 2
    · have hd1 : decide ((t : Int) < 2) = true := decide_eq_true (by omega)
      have hd2 : decide (t < 2) = true := decide_eq_true ht2
      have HT2 := Aside0.mk ht2
      obtain ⟨d8, f8⟩ := cell_of HG.out.h8
      clear ht ht2
      obtain ⟨c14, h14⟩ : ∃ c14, W.heap.size = c14 := ⟨_, rfl⟩
      obtain ⟨c15, h15⟩ : ∃ c15, c14 + 1 = c15 := ⟨_, rfl⟩
      obtain ⟨c16, h16⟩ : ∃ c16, c15 + 1 = c16 := ⟨_, rfl⟩
      obtain ⟨W3, hW3⟩ : ∃ W3, (((W.alloc (.cells #[.slice A0 n00 c0] 22)).alloc (.cells #[.bool (decide (0 < m))] 4)).alloc (.cells #[.int .i64 0] 3)) = W3 := ⟨_, rfl⟩
      have hB3 : Below W.heap.size W W3 := by rw [← hW3]; exact below_alloc (below_alloc (below_alloc (Below.refl _ _) _) _) _
      have hz3 : W3.heap.size = c16 + 1 := by rw [← hW3, ← h16, ← h15, ← h14]; simp
      have k14 : W3.heap[c14]? = some (.cells #[.slice A0 n00 c0] 22 (0, 0)) := by rw [← hW3, ← h14]; exact blk_alloc (blk_alloc (World.alloc_heap_new W _))
      have k15 : W3.heap[c15]? = some (.cells #[.bool (decide (0 < m))] 4 (0, 0)) := by rw [← hW3, ← h15, ← h14]; refine blk_alloc ?_; have h := World.alloc_heap_new (W.alloc (.cells #[.slice A0 n00 c0] 22)) (.cells #[.bool (decide (0 < m))] 4); simpa using h
      have k16 : W3.heap[c16]? = some (.cells #[.int .i64 0] 3 (0, 0)) := by rw [← hW3, ← h16, ← h15, ← h14]; have h := World.alloc_heap_new ((W.alloc (.cells #[.slice A0 n00 c0] 22)).alloc (.cells #[.bool (decide (0 < m))] 4)) (.cells #[.int .i64 0] 3); simpa using h
      have HG3 := Aside0.mk (HG.out.later hB3)
      have HU3 := Aside0.mk (unshut_later HU.out hB3)
      have HT3 := Aside0.mk (blk_below HT.out hB3)
      have h13 : c13 < c14 := by rw [← h14]; exact (Array.getElem?_eq_some_iff.1 HT.out).1
      have HH13 := Aside0.mk h13
      obtain ⟨d6, f6⟩ := cell_of HG3.out.h6
      rw [← hW3] at d6
      have HW3 := Aside0.mk hW3
      have E14 := Aside0.mk h14
      have E15 := Aside0.mk h15
      have E16 := Aside0.mk h16
      have K14 := Aside0.mk k14
      have K15 := Aside0.mk k15
      have K16 := Aside0.mk k16
      have HZ3 := Aside0.mk hz3
      have HC13 := Aside0.mk hc13
      clear hB3 hz3 k14 k15 k16 hW3 h13 hc13 h14 h15 h16
      gi_wp2_with fail
      rw [HW3.out, E14.out, E15.out, E16.out]
      clear d6 f6 d8 f8 HG HU HT
      have HS3 := Aside0.mk (show w.heap.size + 6 ≤ W3.heap.size from HG3.out.size)
      have HCC := Aside0.mk (show c14 < W3.heap.size ∧ c15 < W3.heap.size ∧ c16 < W3.heap.size by rw [HZ3.out, ← E16.out, ← E15.out]; omega)
      have HNE := Aside0.mk (show c14 ≠ c15 ∧ c14 ≠ c16 ∧ c15 ≠ c16 by rw [← E16.out, ← E15.out]; omega)
      have HLO := Aside0.mk (show w.heap.size + 6 ≤ c14 ∧ w.heap.size + 6 ≤ c15 ∧ w.heap.size + 6 ≤ c16 by rw [← E16.out, ← E15.out]; have := HC13.out; have := HH13.out; omega)
      have HEX := Aside0.mk (show ∀ k ∈ [c14, c15, c16], w.heap.size + 6 ≤ k by intro k hk; simp only [List.mem_cons, List.mem_nil_iff, or_false] at hk; have := HLO.out; rcases hk with rfl | rfl | rfl <;> omega)
      refine wpIn_rangeFunc_iterD rfl (by decide) (gf := gf) (lb := lb) rfl trivial HEN.out (HIT.out 5 (by decide))
        (fun b i W' => i < 200 ∧ ∃ wv, GS w W3 W3.heap.size c14 c15 c16 b wv (Ys X m i) (decide (i < m)) i W')
        (fun c W' => c = .exit 2 ∧ ∃ b wv i, GS w W3 W3.heap.size c14 c15 c16 b wv (Ys X m i) (decide (i < m)) i W' ∧ i ≤ 200 ∧ (i = 200 ∨ (t = 0 ∧ (i : Int) = wrap64 (stop + 1)))) ?hI ?hIx ?hFix ?h0 ?a1 ?hassign ?hbody ?hdone ?hstop
      case hI =>
        rintro b i W' W'' row ⟨h1, wv, h2⟩ hg hr
        exact ⟨h1, wv, h2.grown hg HCC.out (fun k e => ⟨(hr k e).1, (hr k e).2.elim .inl (fun h => .inr (.inr h))⟩)⟩
      case hIx =>
        rintro c W' W'' row ⟨h1, b, wv, i, h2, h3⟩ hg hr
        exact ⟨h1, b, wv, i, h2.grown hg HCC.out (fun k e => ⟨(hr k e).1, .inr (.inr (hr k e).2)⟩), h3⟩
      case hFix =>
        rintro b i W' ⟨_, wv, h⟩
        exact HFB.out W' (h.k.below HG3.out.below (by have := HS3.out; omega) (.inr (by have := HS3.out; omega)) (fun k hk => by have := HEX.out k hk; omega))
      case h0 =>
        intro b W' hb' _
        refine ⟨by decide, .slice A0 n00 c0, KeepX.of _ (Nat.le_refl _) hb', blk_below K14.out hb', blk_below K15.out hb', blk_below K16.out hb', .inl ⟨A0, c0, ?_, HC0.out, H0.out⟩⟩
        rw [HFS.out]
      case hassign =>
        intro lp v W' K hK
        gi_wp2_with fail
        exact hK
      case hbody =>
        intro lp b i A c1' c2' Wa Wb hlp hrec hb ⟨h200, wv, hGa⟩ hi hBb hrow hc2
        have hGb := hGa.later hBb HCC.out
        have hYi : Ys X m i = ints (X i) := by unfold Ys; rw [if_pos hi]
        rw [hYi, decide_eq_true hi] at hGb
        have hGBb := HG3.out.keepx hGb.k HS3.out HEX.out
        obtain ⟨Aw, cw, rfl, hcw, hCw⟩ := hGb.want.read hGBb.below
        obtain ⟨hC, hCc⟩ := own_C hrow rfl
        have hsame := weirlaw01_SameInts.calls ((ints (X i)).length + 1) A c2' (ints (X i)) Aw cw (ints (X i)) true Wb hC hc2 hCw hcw (same_own _ (by rw [ints_length]; have := HLN.out i hi; omega))
        have HSA := Aside0.mk hsame
        have HGb := Aside0.mk hGb
        have HGB := Aside0.mk hGBb
        obtain ⟨d14, f14⟩ := cell_of hGb.w
        obtain ⟨d15, f15⟩ := cell_of hGb.m
        have HB := Aside0.mk hb
        have HRW := Aside0.mk hrow
        have HI := Aside0.mk hi
        have H200 := Aside0.mk h200
        have HBb := Aside0.mk hBb
        have HWa := Aside0.mk (show W3.heap.size ≤ Wa.heap.size from hGa.k.size)
        have HRC := Aside0.mk hrec
        have HYI := Aside0.mk hYi
        have HC2 := Aside0.mk hc2
        clear hGa hGb hGBb hsame hb hrow hi h200 hBb hrec hC hCc hCw hcw hYi hc2
        gi_wp2_with fail
        refine ⟨trivial, ?_⟩
        refine (callsIn_wide.2 HSA.out).mono ?_
        rintro e W4 ⟨rfl, ⟨nd, rfl⟩⟩
        have hbd := pw_below_drewN (Below.refl Wb.heap.size Wb) nd
        have HG5 := Aside0.mk (HGb.out.later hbd HCC.out)
        have HGB5 := Aside0.mk (HGB.out.later hbd)
        have HRD5 := Aside0.mk ((RD.refl W3.heap.size b Wb).later hbd)
        have HRW5 := Aside0.mk (show (Wb.drewN nd).ownsRow Wa.heap.size 3 1 (.slice A (ints (X i)).length c1') (ints (X i)).length (nums .i64 (ints (X i))) from HRW.out)
        have HRC5 := Aside0.mk (show ∃ r, (Wb.drewN nd).heap[lp]? = some (.loop r) from HRC.out)
        clear HSA d14 f14 d15 f15 hbd HRC HRW HGb HGB
        generalize Wb.drewN nd = W5 at HG5 HGB5 HRD5 HRW5 HRC5 ⊢
        obtain ⟨d16, f16⟩ := cell_of HG5.out.n
        obtain ⟨d11, f11⟩ := cell_of HGB5.out.h11
        obtain ⟨d7, f7⟩ := cell_of HGB5.out.h7
        obtain ⟨d14, f14⟩ := cell_of HG5.out.w
        have hxl : (ints (X i)).length ≤ 64 := by rw [ints_length]; exact HLN.out i HI.out
        have HXL := Aside0.mk hxl
        clear hxl
        rcases split3 i inner with e1 | ⟨e1, e2, e3⟩ | ⟨e1, e2, e3⟩
        case' inl => gi_wp2_with fail
        case' inr.inl => gi_wp2_with fail
        case' inr.inr =>
          obtain ⟨c18, h18⟩ : ∃ c18, W5.heap.size = c18 := ⟨_, rfl⟩
          obtain ⟨Wn, hWn⟩ : ∃ Wn, W5.alloc (.cells #[.int .i64 0] 3) = Wn := ⟨_, rfl⟩
          have bn : Below W5.heap.size W5 Wn := by rw [← hWn]; exact below_alloc (Below.refl _ _) _
          have K18 := Aside0.mk (show Wn.heap[c18]? = some (.cells #[.int .i64 0] 3 (0, 0)) by rw [← hWn, ← h18]; exact World.alloc_heap_new W5 _)
          have HZn := Aside0.mk (show Wn.heap.size = c18 + 1 by rw [← hWn, ← h18]; simp)
          have HGn := Aside0.mk (HG5.out.later bn HCC.out)
          have HGBn := Aside0.mk (HGB5.out.later bn)
          have HRDn := Aside0.mk (HRD5.out.later bn)
          have HRWn := Aside0.mk (own_sameD HRW5.out (b := (Value.slice A (ints (X i)).length c1').ownBlock) (fun k hk => hk) (fun k _ o ho => blk_below ho bn))
          obtain ⟨rr, hrr⟩ := HRC5.out
          have hrr2 := blk_below hrr bn
          have HLT := Aside0.mk (fun k (hk : (Value.slice A (ints (X i)).length c1').ownBlock = some k) => show k < c18 by rw [← h18]; exact (HRW5.out.lt k hk).2)
          have HWANT := Aside0.mk (fun (W' : World) (h : ∀ k, k < c18 → W'.heap[k]? = W5.heap[k]?) => HG5.out.want.moved (W' := W') (fun k hk => h k (by rw [← h18]; exact hk)))
          have HBN := Aside0.mk (show ∀ k, k < c18 → Wn.heap[k]? = W5.heap[k]? from fun k hk => bn.block k (by rw [h18]; exact hk))
          have H18S := Aside0.mk (show W3.heap.size ≤ c18 by rw [← h18]; exact HG5.out.k.size)
          have H18B := Aside0.mk (show Wb.heap.size ≤ c18 by rw [← h18]; exact HRD5.out.size)
          obtain ⟨d6, f6⟩ := cell_of HGBn.out.h6
          rw [← hWn] at d6
          have HWn := Aside0.mk hWn
          have H18 := Aside0.mk h18
          clear bn hWn h18 hrr
          gi_wp2_with fail
          rw [HWn.out, H18.out]
          clear d6 f6 d16 f16 d11 f11 d7 f7 d14 f14
          refine wpIn_rangeFunc_iterN (l₀ := lp) (r₀ := rr) rfl hrr2 (by decide) (gf := gf) (lb := lb) rfl trivial HEN.out ((HIT.out 3 (by decide)).inRound lp)
            (fun _ j W' => j < 5 ∧ KeepX Wn.heap.size [c18] Wn W' ∧ W'.heap[c18]? = some (.cells #[.int .i64 (j : Int)] 3 (0, 0)))
            (fun c W' => c = .exit 4 ∧ KeepX Wn.heap.size [c18] Wn W') ?hI2 ?hIx2 ?hFix2 ?h02 ?a12 ?hassign2 ?hbody2 ?hdone2 ?hstop2
          case hI2 =>
            rintro b2 j W' W'' row ⟨h1, h2, h3⟩ hg hr
            refine ⟨h1, h2.grown hg (fun k e => .inl (hr k e).1), (hg.block c18 (Array.getElem?_eq_some_iff.1 h3).1 (fun e => ?_)).trans h3⟩
            have := (hr _ e.symm).1
            have := HZn.out
            omega
          case hIx2 =>
            rintro c W' W'' row ⟨h1, h2⟩ hg hr
            exact ⟨h1, h2.grown hg (fun k e => .inl (hr k e).1)⟩
          case hFix2 =>
            rintro b2 j W' ⟨_, h, _⟩
            exact HFB.out W' (h.below HGBn.out.below (by have := HGBn.out.size; omega) (.inr (by have := HGBn.out.size; omega)) (fun k hk => by rw [List.mem_singleton] at hk; have := HS3.out; have := H18S.out; omega))
          case h02 => exact fun b2 W' hb' _ => ⟨by decide, KeepX.of _ (Nat.le_refl _) hb', blk_below K18.out hb'⟩
          case hassign2 =>
            intro lp2 v W' K hK
            gi_wp2_with fail
            exact hK
          case hbody2 =>
            intro lp2 b2 j A' c1'' c2'' Wa2 Wb2 hlp2 hrec2 hb2 ⟨h5, hk, hj⟩ hjm hBb2 hrow2 hc22
            have hk2 := hk.later hBb2
            have hj2 := blk_below hj hBb2
            have hgb2 := HGBn.out.keepx hk2 HGBn.out.size (fun k hm => by rw [List.mem_singleton] at hm; have := HS3.out; have := H18S.out; omega)
            have hc18S : c18 < Wn.heap.size := by have := HZn.out; omega
            obtain ⟨d18, f18⟩ := cell_of hj2
            obtain ⟨hC', -⟩ := own_C hrow2 rfl
            obtain ⟨j1, HJ1⟩ : ∃ j1 : Nat, Aside0 (j1 = j + 1) := ⟨_, ⟨rfl⟩⟩
            have hwj : wrap64 ((j : Int) + 1) = (j1 : Int) := by rw [HJ1.out]; exact i64_inc j (by omega)
            have HK2 := Aside0.mk hk2
            have HJ2 := Aside0.mk hj2
            have HCS := Aside0.mk hc18S
            have H5 := Aside0.mk h5
            have HB2 := Aside0.mk hb2
            have HSb := Aside0.mk hBb2.size
            rcases Nat.eq_zero_or_pos j with h0 | h0
            · have HH5 := Aside0.mk (show j + 1 < 5 by omega)
              have hz1 : ((j : Int) == 0) = true := by simp [h0]
              have hz2 : (j == 0) = true := by simp [h0]
              have h0m : 0 < m := by omega
              have hY0 : Ys X m 0 = ints (X j) := by unfold Ys; rw [if_pos h0m, h0]
              obtain ⟨d8, f8⟩ := cell_of hgb2.h8
              have hn0 : n00 = (ints (X j)).length := by rw [← HFS.out, hY0]
              have hC0 := Kd.C_below H0.out hgb2.below
              have hcc0 := HC0.out
              rw [hY0] at hC0 hcc0
              have hsame := weirlaw01_SameInts.calls ((ints (X j)).length + 1) A' c2'' (ints (X j)) A0 c0 (ints (X j)) true Wb2 hC' hc22 hC0 hcc0 (same_own _ (by rw [ints_length]; have := HLN.out j hjm; omega))
              rw [← hn0] at hsame
              have HSA := Aside0.mk hsame
              have HLE := Aside0.mk hn0
              have hj5 : ((j1 : Int) == 5) = false := by have := HJ1.out; simp; omega
              have hj5' : (j1 == 5) = false := by have := HJ1.out; simp; omega
              clear hC0 hcc0 hsame hn0 hY0 hk2 hj2 hgb2 hc18S hC' hBb2 hrow2 hc22 h0m hk hj hrec2 hb2 h0 h5 hjm
              gi_wp2_with fail
              refine ⟨trivial, ?_⟩
              have hsa := HSA.out
              rw [show (Value.slice A' n00 c2'') = .slice A' (ints (X j)).length c2'' by rw [← HLE.out]] at hsa
              refine (callsIn_wide.2 hsa).mono ?_
              rintro e W8 ⟨rfl, ⟨nd, rfl⟩⟩
              have hbd := pw_below_drewN (Below.refl Wb2.heap.size Wb2) nd
              have HK8 := Aside0.mk (HK2.out.later hbd)
              have HJ8 := Aside0.mk (blk_below HJ2.out hbd)
              have HBD := Aside0.mk hbd
              clear d18 f18 d8 f8 hbd hsa
              generalize Wb2.drewN nd = W8 at HK8 HJ8 HBD ⊢
              obtain ⟨d18, f18⟩ := cell_of HJ8.out
              gi_wp2_with fail
              obtain rfl := HJ1.out
              have hg := grown_after HBD.out c18 (.int .i64 ((j + 1 : Nat) : Int))
              exact ⟨KeepsFrom.of_grownBy hg (fun k e => by cases e; exact HCS.out), ⟨HH5.out, HK8.out.grown (grownBy_setCell' W8 c18 _) (fun k e => by cases e; exact .inr (by simp)), heap_set HJ8.out⟩, fun k hk o ho => (hg.block k (Array.getElem?_eq_some_iff.1 ho).1 (fun e => by cases e; have := (HB2.out c18 hk).1; have := HCS.out; omega)).trans ho⟩
            · have hz1 : ((j : Int) == 0) = false := by simp; omega
              have hz2 : (j == 0) = false := by simp; omega
              have hg := grownBy_setCell' Wb2 c18 (.int .i64 (j1 : Int))
              have HGG := Aside0.mk hg
              clear hk2 hj2 hgb2 hc18S hC' hBb2 hrow2 hc22 hk hj hrec2 hb2 hg h0 h5 hjm
              by_cases hj5 : j1 = 5
              · have hj5' : ((j1 : Int) == 5) = true := by simp [hj5]
                have hj5'' : (j1 == 5) = true := by simp [hj5]
                clear hj5
                gi_wp2_with fail
                refine ⟨trivial, ?_⟩
                gi_wp2_with fail
                exact ⟨KeepsFrom.of_grownBy HGG.out (fun k e => by cases e; exact HCS.out), rfl, HK2.out.grown HGG.out (fun k e => by cases e; exact .inr (by simp))⟩
              · have hj5' : ((j1 : Int) == 5) = false := by simp; omega
                have hj5'' : (j1 == 5) = false := by simpa using hj5
                have HN5 := Aside0.mk hj5
                clear hj5
                gi_wp2_with fail
                refine ⟨trivial, ?_⟩
                gi_wp2_with fail
                obtain rfl := HJ1.out
                exact ⟨KeepsFrom.of_grownBy HGG.out (fun k e => by cases e; exact HCS.out), ⟨by have := H5.out; have := HN5.out; omega, HK2.out.grown HGG.out (fun k e => by cases e; exact .inr (by simp)), heap_set HJ2.out⟩, fun k hk o ho => (HGG.out.block k (Array.getElem?_eq_some_iff.1 ho).1 (fun e => by cases e; have := (HB2.out c18 hk).1; have := HCS.out; omega)).trans ho⟩
          case' hdone2 =>
            intro b2 W5 ⟨_, hkx, _⟩
          case' hstop2 =>
            rintro c W5 ⟨rfl, hkx⟩
          all_goals
            have hw5 := HWANT.out W5 (fun k hk => (hkx.blk k (by have := HZn.out; omega) (fun hm => by rw [List.mem_singleton] at hm; omega)).trans (HBN.out k hk))
            have HG5 := Aside0.mk (HGn.out.keepx2 hkx (Nat.le_refl _) HGn.out.k.size HCC.out (fun k hm => by rw [List.mem_singleton] at hm; have := H18S.out; omega) hw5)
            have HGB5 := Aside0.mk (HGBn.out.keepx hkx HGBn.out.size (fun k hm => by rw [List.mem_singleton] at hm; have := HS3.out; have := H18S.out; omega))
            have HRD5 := Aside0.mk (HRDn.out.keepx hkx (Nat.le_refl _) (fun k hm => by rw [List.mem_singleton] at hm; have := H18B.out; omega))
            have HRW5 := Aside0.mk (own_sameD HRWn.out (b := (Value.slice A (ints (X i)).length c1').ownBlock) (fun k hk => hk) (fun k hk o ho => (hkx.blk k (Array.getElem?_eq_some_iff.1 ho).1 (fun hm => by rw [List.mem_singleton] at hm; have := HLT.out k hk; omega)).trans ho))
            obtain ⟨d16, f16⟩ := cell_of HG5.out.n
            obtain ⟨d11, f11⟩ := cell_of HGB5.out.h11
            obtain ⟨d7, f7⟩ := cell_of HGB5.out.h7
            obtain ⟨d14, f14⟩ := cell_of HG5.out.w
            clear hkx hw5
            gi_wp2_with fail
        all_goals
          refine ⟨trivial, ?_⟩
          obtain ⟨Aw', cw', ew, hcw, hCw⟩ := HG5.out.want.read HGB5.out.below
          cases ew
          have hn1 := HNX.out i HI.out _ Aw cw (HRF.out.below HGB5.out.below) (by rw [HYI.out]; exact hCw) (by rw [HYI.out]; exact hcw)
          rw [HYI.out] at hn1
          refine (callsIn_wide.2 hn1).mono ?_
          rintro e W6 ⟨v6, rfl, hR6, hB6⟩
          obtain ⟨A6, d6, e6⟩ := Kd.R_slice hR6
          subst e6
          obtain ⟨n6, hn6⟩ : ∃ n6, (Ys X m (i + 1)).length = n6 := ⟨_, rfl⟩
          rw [hn6] at hR6 ⊢
          have HN6 := Aside0.mk hn6
          clear hn6
          have hs5 := HG5.out.k.size
          have HWB := Aside0.mk (show ∀ k, (Value.slice A6 n6 d6).ownBlock = some k → W5.heap.size ≤ k from fun k hk => ((Kd.own_of_R hR6).lt k hk).1)
          have hw6 := WantOK.fresh (w0 := w) (b := b) hs5 (fun k hk => Nat.lt_of_lt_of_le (HB.out k hk).2 (Nat.le_trans HBb.out.size HRD5.out.size)) hR6
          have hg6 := HG5.out.later hB6 HCC.out
          have HG7 := Aside0.mk (hg6.setW HCC.out HNE.out (decide (i + 1 < m)) hw6)
          have hrd6 := HRD5.out.later hB6
          have HRD7 := Aside0.mk ((hrd6.grown (grownBy_setCell' W6 c14 (.slice A6 n6 d6)) (fun k e => by cases e; exact .inl HCC.out.1)).grown (grownBy_setCell' _ c15 (.bool (decide (i + 1 < m)))) (fun k e => by cases e; exact .inl HCC.out.2.1))
          have HSZ7 := Aside0.mk (show W5.heap.size ≤ ((W6.setCell ⟨c14, 0, none⟩ (.slice A6 n6 d6)).setCell ⟨c15, 0, none⟩ (.bool (decide (i + 1 < m)))).heap.size by rw [set_size, set_size]; exact hB6.size)
          have HRW7 := Aside0.mk (own_sameD HRW5.out (b := (Value.slice A (ints (X i)).length c1').ownBlock) (W' := (W6.setCell ⟨c14, 0, none⟩ (.slice A6 n6 d6)).setCell ⟨c15, 0, none⟩ (.bool (decide (i + 1 < m)))) (fun k hk => hk) (fun k hk o ho => by
            have h1 := HRW5.out.lt k hk
            have h2 := HCC.out
            have h3 := HG5.out.k.size
            have h4 : W3.heap.size ≤ Wa.heap.size := HWa.out
            rw [set_other (by omega), set_other (by omega)]
            exact blk_below ho hB6))
          obtain ⟨d14', f14'⟩ := cell_of hg6.w
          obtain ⟨d15', f15'⟩ := cell_of ((set_other (u := (.slice A6 n6 d6)) HNE.out.1.symm).trans hg6.m)
          clear hcw hCw hn1 hR6 hB6 hs5 hw6 hg6 hrd6 d16 f16 d11 f11 d7 f7 d14 f14 e1
          gi_wp2_with fail
          try clear f15'
          try clear d15'
          try clear f14'
          try clear d14'
          generalize (W6.setCell ⟨c14, 0, none⟩ (.slice A6 n6 d6)).setCell ⟨c15, 0, none⟩ (.bool (decide (i + 1 < m))) = W7 at HG7 HRD7 HRW7 HSZ7 ⊢
          gi_loopw [20] (fun vi W' => ∃ (q : Nat) (zs : List Int), vi = .int .i64 (q : Int) ∧ q ≤ (ints (X i)).length ∧ Aside0 (zs.length = (ints (X i)).length) ∧ Aside0 (W5.heap.size ≤ W'.heap.size) ∧ Aside0 (GS w W3 W3.heap.size c14 c15 c16 b (.slice A6 n6 d6) (Ys X m (i + 1)) (decide (i + 1 < m)) i W') ∧ Aside0 (RD W3.heap.size b Wb W') ∧ Aside0 (W'.ownsRow Wa.heap.size 3 1 (.slice A (ints (X i)).length c1') (ints (X i)).length (nums .i64 zs))) (fun vi _ => (ints (X i)).length - (intOf vi).toNat)
          case atStart => exact ⟨0, ints (X i), rfl, Nat.zero_le _, ⟨rfl⟩, HSZ7, HG7, HRD7, HRW7⟩
          case round =>
            clear HG7 HRD7 HRW7 HSZ7
            obtain ⟨q, zs, rfl, hq, HZL, HSZ7, HG7, HRD7, HRW7⟩ := hrel
            by_cases hql : q < (ints (X i)).length
            · have hd1 : decide ((q : Int) < ((ints (X i)).length : Int)) = true := decide_eq_true (by omega)
              have hd2 : decide (q < (ints (X i)).length) = true := decide_eq_true hql
              obtain ⟨g, rfl⟩ := own_ptr HRW7.out (Nat.lt_of_le_of_lt (Nat.zero_le _) hql)
              have hat := own_at HRW7.out (q : Int) (by omega) (by omega)
              rw [Int.toNat_natCast] at hat
              obtain ⟨hcx, hfx⟩ := hat
              obtain ⟨hst, hgr⟩ := own_store HRW7.out (q : Int) (-7)
              rw [Int.toNat_natCast] at hst hgr
              have hlg := HRW7.out.lt g rfl
              have hlg5 := HRW5.out.lt g rfl
              have hgc : ∃ o, wr.heap[g]? = some o ∧ o.isCells = true := own_cells HRW7.out
              have hbg : b ≠ some g := fun e => by have := (HB.out g e).2; omega
              have hSg : W3.heap.size ≤ g := Nat.le_trans HWa.out hlg.1
              have HST := Aside0.mk hst
              have HRD8 := Aside0.mk (HRD7.out.grown hgr (fun k e => by cases e; exact .inr (.inr ⟨hbg, hgc⟩)))
              have HG8 := Aside0.mk (HG7.out.keepx (KeepX.row hgr) (Nat.le_refl _) HG7.out.k.size HCC.out (fun k hk => by
                rw [List.mem_singleton] at hk
                subst hk
                exact ⟨hSg, fun k0 hk0 e => by have := HWB.out k0 hk0; omega⟩))
              have HSZ8 := Aside0.mk (Nat.le_trans HSZ7.out hgr.size)
              have HZ8 := Aside0.mk (show (zs.set q (-7)).length = (ints (X i)).length by rw [List.length_set]; exact HZL.out)
              have HQL := Aside0.mk hql
              have hwq := Aside0.mk (i64_inc q (by have := HXL.out; omega))
              clear hst hgr hlg hlg5 hgc hbg hSg hq
              gi_wp2_with fail
              exact ⟨⟨q + 1, zs.set q (-7), by rw [hwq.out], HQL.out, HZ8, HSZ8, HG8, HRD8, HST⟩, by rw [hwq.out]; exact nat_dec HQL.out⟩
            · have hqe : q = (ints (X i)).length := by omega
              subst hqe
              have hd1 : decide (((ints (X i)).length : Int) < ((ints (X i)).length : Int)) = false := decide_eq_false (by omega)
              have hd2 : decide ((ints (X i)).length < (ints (X i)).length) = false := decide_eq_false hql
              obtain ⟨i1, HI1⟩ : ∃ i1 : Nat, Aside0 (i1 = i + 1) := ⟨_, ⟨rfl⟩⟩
              have hwi : wrap64 ((i : Int) + 1) = (i1 : Int) := by rw [HI1.out]; exact i64_inc i (by have := H200.out; omega)
              have hg8 := HG7.out.setN HCC.out HNE.out.2 i1
              have hrd8 := HRD7.out.grown (grownBy_setCell' wr c16 (.int .i64 (i1 : Int))) (fun k e => by cases e; exact .inl HCC.out.2.2)
              have hgb8 := HG3.out.keepx hg8.k HS3.out HEX.out
              have HG8 := Aside0.mk hg8
              have HRD8 := Aside0.mk hrd8
              obtain ⟨d16, f16⟩ := cell_of HG7.out.n
              have h13n : c13 ∉ [c14, c15, c16] := fun hm => by have := HH13.out; have := HNE.out; simp only [List.mem_cons, List.mem_nil_iff, or_false] at hm; have := E15.out; have := E16.out; omega
              have h13S : c13 < W3.heap.size := by have := HH13.out; have := HCC.out; omega
              have hd13 := cell_of ((hg8.k.blk c13 h13S h13n).trans HT3.out)
              have hd10 := cell_of hgb8.h10
              have hdn := cell_of hg8.n
              have D13 := Aside0.mk hd13
              have D10 := Aside0.mk hd10
              have DN := Aside0.mk hdn
              clear hg8 hrd8 hgb8 hd13 hd10 hdn h13n h13S hql hq
              obtain ⟨s1, hs1⟩ : ∃ s1, wrap64 (stop + 1) = s1 := ⟨_, rfl⟩
              have HS1 := Aside0.mk hs1
              obtain ⟨d13, f13⟩ := D13.out
              obtain ⟨d10, f10⟩ := D10.out
              obtain ⟨dn, fn_⟩ := DN.out
              rcases split4 i1 t s1 with ⟨e1, e2, e3⟩ | ⟨e1, e2, e3, e4, e5, e6, e7⟩ | ⟨e1, e2, e3, e4, e5⟩ | ⟨e1, e2, e3, e4⟩
              · have HE3 := Aside0.mk e3
                clear e3
                gi_wp2_with fail
                obtain rfl := HI1.out
                exact ⟨HRD8.out.keeps, rfl, b, _, i + 1, HG8.out, by have := HE3.out; omega, .inl HE3.out⟩
              · have HE3 := Aside0.mk (And.intro e6 (e7.trans hs1.symm))
                clear e6 e7
                gi_wp2_with fail
                obtain rfl := HI1.out
                exact ⟨HRD8.out.keeps, rfl, b, _, i + 1, HG8.out, by have := H200.out; omega, .inr HE3.out⟩
              · have HE3 := Aside0.mk (show i1 ≠ 200 by simpa using e2)
                gi_wp2_with fail
                obtain rfl := HI1.out
                exact ⟨HRD8.out.keeps, ⟨by have := H200.out; have := HE3.out; omega, _, HG8.out⟩, fun k hk o ho => HRD8.out.same k o (Nat.le_trans (HB.out k hk).1 (Nat.le_refl _)) ho (.inr hk)⟩
              · have HE3 := Aside0.mk (show i1 ≠ 200 by simpa using e2)
                gi_wp2_with fail
                obtain rfl := HI1.out
                exact ⟨HRD8.out.keeps, ⟨by have := H200.out; have := HE3.out; omega, _, HG8.out⟩, fun k hk o ho => HRD8.out.same k o (Nat.le_trans (HB.out k hk).1 (Nat.le_refl _)) ho (.inr hk)⟩
      case hdone =>
        intro D b W' hD ⟨_, wv, hg⟩ hDD
        rw [decide_eq_false (Nat.lt_irrefl m)] at hg
        have HUD := Aside0.mk (unshut_cons hg.k HU3.out HCC.out ⟨K14.out, K15.out, K16.out⟩ hD hDD)
        have HDD := Aside0.mk (show ∀ E ∈ D :: ds, w.heap.size ≤ E from fun E hE => by
          rcases List.mem_cons.1 hE with rfl | hE
          · have := HS3.out; omega
          · exact HD.out E hE)
        have HGW := Aside0.mk (HG3.out.keepx hg.k HS3.out HEX.out)
        have h13n : c13 ∉ [c14, c15, c16] := fun hm => by have := HH13.out; simp only [List.mem_cons, List.mem_nil_iff, or_false] at hm; have := E15.out; have := E16.out; omega
        have h13S : c13 < W3.heap.size := by have := HH13.out; have := HCC.out; omega
        obtain ⟨d13, f13⟩ := cell_of ((hg.k.blk c13 h13S h13n).trans HT3.out)
        obtain ⟨d15, f15⟩ := cell_of hg.m
        obtain ⟨t1, HT1⟩ : ∃ t1 : Nat, Aside0 (t1 = t + 1) := ⟨_, ⟨rfl⟩⟩
        have hwt : wrap64 ((t : Int) + 1) = (t1 : Int) := by rw [HT1.out]; exact i64_inc t (by have := HT2.out; omega)
        clear h13n h13S hg hD hDD
        gi_wp2_with fail
        have hal := below_alloc (Below.refl W'.heap.size W') (.cells #[.int .i64 (t1 : Int)] 3)
        have hnew := World.alloc_heap_new W' (.cells #[.int .i64 (t1 : Int)] 3)
        exact ⟨⟨_, W'.heap.size, t1, D :: ds, ⟨by have := HT1.out; have := HT2.out; omega, HGW.out.size, ⟨hnew⟩, ⟨HGW.out.later hal⟩, ⟨unshut_later HUD.out hal⟩, HDD⟩, goFrame_eq rfl⟩, turn_dec rfl hnew HT1.out HT2.out⟩
      case hstop =>
        rintro D c W' hD ⟨rfl, b, wv, i, hg, hi2, hor⟩ hDD
        have HUD := Aside0.mk (unshut_cons hg.k HU3.out HCC.out ⟨K14.out, K15.out, K16.out⟩ hD hDD)
        have HDD := Aside0.mk (show ∀ E ∈ D :: ds, w.heap.size ≤ E from fun E hE => by
          rcases List.mem_cons.1 hE with rfl | hE
          · have := HS3.out; omega
          · exact HD.out E hE)
        have HGW := Aside0.mk (HG3.out.keepx hg.k HS3.out HEX.out)
        have h13n : c13 ∉ [c14, c15, c16] := fun hm => by have := HH13.out; simp only [List.mem_cons, List.mem_nil_iff, or_false] at hm; have := E15.out; have := E16.out; omega
        have h13S : c13 < W3.heap.size := by have := HH13.out; have := HCC.out; omega
        obtain ⟨d13, f13⟩ := cell_of ((hg.k.blk c13 h13S h13n).trans HT3.out)
        obtain ⟨t1, HT1⟩ : ∃ t1 : Nat, Aside0 (t1 = t + 1) := ⟨_, ⟨rfl⟩⟩
        have hwt : wrap64 ((t : Int) + 1) = (t1 : Int) := by rw [HT1.out]; exact i64_inc t (by have := HT2.out; omega)
        obtain ⟨d16, f16⟩ := cell_of hg.n
        obtain ⟨d10, f10⟩ := cell_of HGW.out.h10
        obtain ⟨s1, hs1⟩ : ∃ s1, wrap64 (stop + 1) = s1 := ⟨_, rfl⟩
        rw [hs1] at hor
        by_cases him : i < m
        · rw [decide_eq_true him] at hg
          obtain ⟨d15, f15⟩ := cell_of hg.m
          clear h13n h13S hg hD hDD him
          rcases split5 hor with ⟨e1, e2⟩ | ⟨e1, e2, e3, e4, e5⟩
          · gi_wp2_with fail
            have hal := below_alloc (Below.refl W'.heap.size W') (.cells #[.int .i64 (t1 : Int)] 3)
            have hnew := World.alloc_heap_new W' (.cells #[.int .i64 (t1 : Int)] 3)
            exact ⟨⟨_, W'.heap.size, t1, D :: ds, ⟨by have := HT1.out; have := HT2.out; omega, HGW.out.size, ⟨hnew⟩, ⟨HGW.out.later hal⟩, ⟨unshut_later HUD.out hal⟩, HDD⟩, goFrame_eq rfl⟩, turn_dec rfl hnew HT1.out HT2.out⟩
          · gi_wp2_with fail
            have hal := below_alloc (Below.refl W'.heap.size W') (.cells #[.int .i64 (t1 : Int)] 3)
            have hnew := World.alloc_heap_new W' (.cells #[.int .i64 (t1 : Int)] 3)
            exact ⟨⟨_, W'.heap.size, t1, D :: ds, ⟨by have := HT1.out; have := HT2.out; omega, HGW.out.size, ⟨hnew⟩, ⟨HGW.out.later hal⟩, ⟨unshut_later HUD.out hal⟩, HDD⟩, goFrame_eq rfl⟩, turn_dec rfl hnew HT1.out HT2.out⟩
        · rw [decide_eq_false him] at hg
          obtain ⟨d15, f15⟩ := cell_of hg.m
          clear h13n h13S hg hD hDD him
          gi_wp2_with fail
          have hal := below_alloc (Below.refl W'.heap.size W') (.cells #[.int .i64 (t1 : Int)] 3)
          have hnew := World.alloc_heap_new W' (.cells #[.int .i64 (t1 : Int)] 3)
          exact ⟨⟨_, W'.heap.size, t1, D :: ds, ⟨by have := HT1.out; have := HT2.out; omega, HGW.out.size, ⟨hnew⟩, ⟨HGW.out.later hal⟩, ⟨unshut_later HUD.out hal⟩, HDD⟩, goFrame_eq rfl⟩, turn_dec rfl hnew HT1.out HT2.out⟩
    · have hte : t = 2 := by omega
      subst hte
      have hd1 : decide (((2 : Nat) : Int) < 2) = false := by decide
      clear ht ht2
      obtain ⟨d12, f12⟩ := cell_of HG.out.h12
      gi_wp2_with fail
      exact fin_bool (ds := ds) rfl rfl (heap_set HG.out.h12) (below_setc HG.out.below HG.out.below.size (by have := HG.out.eq; omega) _) (unshut_set HU.out HG.out.h12 _) HD.out
end Go.Proofs.Ytohpboblmmbjnaa.P
/- OdoSpaces: the law's own walk. -/
namespace Go.Proofs.Ytohpboblmmbjnaa.P
open Go Go.RowKit Go.Proofs.YtohpboblmmbjnaaW.PrintWords Go.Proofs.YtohpboblmmbjnaaW.PrintLast Go.Proofs.YtohpboblmmbjnaaW.PrintMore Go.Proofs.Odo
theorem BothR.below {w W : World} {vs vr : Value} {T : Nat} {kd : Int} {X : Option (List Int)} (h : BothR w W vs vr T kd X) : Below w.heap.size w W := by
  cases X with
  | none => exact h.2.2
  | some l => exact h.2.2
theorem AtOk.own {w w' : World} {e : Ending} {xs : List Int} {cd : Int} (h : AtOk w w' e xs cd) : ∃ v1, e = .returned (.tuple #[v1, .int .i64 cd]) ∧ Owned w [.row (Kd.int .i64) 3 v1 xs] w' := by
  obtain ⟨v1, rfl, hR, hB⟩ := h
  refine ⟨v1, rfl, fun _ => 0, hB, fun i p hi => ?_⟩
  match i, hi with
  | 0, hi =>
    cases hi
    exact Kd.R_mono hR (fun _ _ => rfl)
  | i + 1, hi => cases hi
theorem below_of {w W W' : World} (h : Below w.heap.size w W) (h' : Below W.heap.size W W') : Below w.heap.size w W' := below_then h h.size h'
end Go.Proofs.Ytohpboblmmbjnaa.P
