/- What a function holds, part by part: each block it has made bears the number of the part it belongs to (its colour), so that parts are apart and each is written by itself. -/
import Derived.Test.YtohpboblmmbjnaaP0
import Derived.Test.YtohpboblmmbjnaaP2
import Derived.Test.YtohpboblmmbjnaaRfl

namespace Go.Proofs.Ytohpboblmmbjnaa.P
open Go Go.RowKit Go.Proofs.YtohpboblmmbjnaaW.PrintWords Go.Proofs.YtohpboblmmbjnaaW.PrintLast Go.Proofs.YtohpboblmmbjnaaW.PrintMore

/-- A part: a row of elements, a row of rows, a block of cells, nothing. -/
inductive Part : Type 1
  | row {α : Type} (d : Kd α) (e : Nat) (v : Value) (xs : List α)
  | rows {α : Type} (d : Kd α) (e : Nat) (v : Value) (xs : List (List α)) (e1 : Nat)
  | box (g : Nat) (t : TypeId) (cs : Array Value)
  | none
/-- What is known of a part whose blocks are ok. -/
def Part.sem (B : Nat) : Part → (Nat → Prop) → World → Prop
  | .row d e v xs, ok, W => d.R e W B ok v xs
  | .rows d e v xs e1, ok, W => Kd.S (Kd.slice e1 d) e W B ok v xs
  | .box g t cs, ok, W => ok g ∧ B ≤ g ∧ W.heap[g]? = some (.cells cs t (0, 0))
  | .none, _, _ => True
theorem Part.sem.move {B : Nat} {p : Part} {ok ok' : Nat → Prop} {W W1 : World} (h : p.sem B ok W) (hm : ∀ k, ok k → k < W.heap.size → W1.heap[k]? = W.heap[k]? ∧ ok' k) : p.sem B ok' W1 := by
  cases p with
  | row d e v xs => exact R_mv h hm
  | rows d e v xs e1 => exact S_mv h hm
  | box g t cs => exact ⟨(hm g h.1 (blk_lt h.2.2)).2, h.2.1, (hm g h.1 (blk_lt h.2.2)).1.trans h.2.2⟩
  | none => trivial
theorem Part.sem.low {B B' : Nat} {p : Part} {ok : Nat → Prop} {W : World} (h : p.sem B ok W) (hb : B' ≤ B) : p.sem B' ok W := by
  cases p with
  | row d e v xs => exact Kd.R_lower h hb
  | rows d e v xs e1 => exact Kd.S_lower h hb
  | box g t cs => exact ⟨h.1, Nat.le_trans hb h.2.1, h.2.2⟩
  | none => trivial
theorem Part.sem.wide {B : Nat} {p : Part} {ok ok' : Nat → Prop} {W : World} (h : p.sem B ok W) (hm : ∀ k, ok k → ok' k) : p.sem B ok' W := h.move (fun k hk _ => ⟨rfl, hm k hk⟩)
/-- All parts, by a colouring. -/
def Cols (w : World) (ps : List Part) (col : Nat → Nat) (W : World) : Prop := Below w.heap.size w W ∧ ∀ (j : Nat) (p : Part), ps[j]? = some p → p.sem w.heap.size (fun k => col k = j) W
def Owned (w : World) (ps : List Part) (W : World) : Prop := ∃ col, Cols w ps col W
section
variable {w W W' : World} {ps : List Part} {col : Nat → Nat}
theorem Owned.nil (w : World) : Owned w [] w := ⟨fun _ => 0, Below.refl _ _, by simp⟩
theorem Owned.below (h : Owned w ps W) : Below w.heap.size w W := by obtain ⟨_, h, _⟩ := h; exact h
theorem Owned.get (h : Owned w ps W) {j : Nat} {p : Part} (hj : ps[j]? = some p) : p.sem w.heap.size (fun _ => True) W := by obtain ⟨_, _, h⟩ := h; exact (h j p hj).wide (fun _ _ => trivial)
theorem Owned.later (h : Owned w ps W) (hb : Below W.heap.size W W') : Owned w ps W' := by
  obtain ⟨col, h1, h2⟩ := h
  exact ⟨col, below_then h1 h1.size hb, fun j p hj => (h2 j p hj).move (fun k hk hlt => ⟨hb.block k hlt, hk⟩)⟩
theorem Owned.drew (h : Owned w ps W) : Owned w ps W.drew := h.later ⟨rfl, rfl, rfl, Nat.le_refl _, fun _ _ => rfl⟩
theorem Owned.drewN (h : Owned w ps W) (m : Nat) : Owned w ps (W.drewN m) := h.later ⟨rfl, rfl, rfl, Nat.le_refl _, fun _ _ => rfl⟩
/-- One part is written (it may take new blocks). -/
theorem Cols.upd (h : Cols w ps col W) {j : Nat} {p' : Part} (hj : j < ps.length) (new : p'.sem w.heap.size (fun k => col k = j ∨ W.heap.size ≤ k) W') (chg : ∀ k, k < W.heap.size → col k ≠ j → W'.heap[k]? = W.heap[k]?) (hb : Below w.heap.size w W') : Owned w (ps.set j p') W' := by
  refine ⟨fun k => if k < W.heap.size then col k else j, hb, fun i p hp => ?_⟩
  rw [List.getElem?_set] at hp
  split at hp
  · rename_i hij
    subst hij
    cases hp
    refine new.wide (fun k hk => ?_)
    rcases hk with hk | hk
    · by_cases hlt : k < W.heap.size
      · simp only [if_pos hlt]; exact hk
      · simp only [if_neg hlt]
    · simp only [if_neg (Nat.not_lt.2 hk)]
  · rename_i hij
    exact (h.2 i p hp).move (fun k hk hlt => ⟨chg k hlt (fun e => hij (e.symm.trans hk)), by simp only [if_pos hlt]; exact hk⟩)
/-- A part whose block or row grew. -/
theorem Cols.grown (h : Cols w ps col W) {j : Nat} {p' : Part} (hj : j < ps.length) {row : Option Nat} (hg : W.grownBy W' row) (hr : ∀ k, row = some k → col k = j) (hw : ∀ k, row = some k → w.heap.size ≤ k)
    (new : p'.sem w.heap.size (fun k => col k = j ∨ W.heap.size ≤ k) W') : Owned w (ps.set j p') W' :=
  h.upd hj new (fun k hlt hk => hg.block k hlt (fun e => hk (hr k e.symm))) (h.1.grown hg h.1.size hw)
/-- A new part. -/
theorem Owned.fresh (h : Owned w ps W) {p' : Part} (hb : Below W.heap.size W W') (new : p'.sem w.heap.size (fun k => W.heap.size ≤ k) W') : Owned w (ps ++ [p']) W' := by
  obtain ⟨col, h1, h2⟩ := h
  refine ⟨fun k => if k < W.heap.size then col k else ps.length, below_then h1 h1.size hb, fun i p hp => ?_⟩
  by_cases hi : i < ps.length
  · rw [List.getElem?_append_left hi] at hp
    exact (h2 i p hp).move (fun k hk hlt => ⟨hb.block k hlt, by simp only [if_pos hlt]; exact hk⟩)
  · rw [List.getElem?_append_right (Nat.le_of_not_lt hi)] at hp
    have hi2 : i = ps.length := by
      have := (List.getElem?_eq_some_iff.1 hp).1
      simp only [List.length_singleton] at this
      omega
    subst hi2
    rw [Nat.sub_self] at hp
    cases hp
    exact new.wide (fun k hk => by simp only [if_neg (Nat.not_lt.2 hk)])
/-- A block of one's own, made. -/
theorem Owned.box (h : Owned w ps W) (t : TypeId) (cs : Array Value) : Owned w (ps ++ [.box W.heap.size t cs]) (W.alloc (.cells cs t (0, 0))) :=
  h.fresh (below_alloc (Below.refl _ _) _) ⟨Nat.le_refl _, h.below.size, heap_alloc_new W _⟩
/-- One cell of a block is stored. -/
theorem Owned.cell (h : Owned w ps W) {j g : Nat} {t : TypeId} {cs : Array Value} (hj : ps[j]? = some (.box g t cs)) (i : Nat) (u : Value) : Owned w (ps.set j (.box g t (cs.setIfInBounds i u))) (W.setCell ⟨g, i, none⟩ u) := by
  obtain ⟨col, h1⟩ := h
  obtain ⟨c, l, b⟩ := h1.2 j _ hj
  have hg : W.grownBy (W.setCell ⟨g, i, none⟩ u) (some g) := ⟨rfl, rfl, rfl, by unfold World.setCell; simp, fun k hk hne => by
    unfold World.setCell
    simp only [Array.getElem?_modify]
    rw [if_neg (fun e => hne (by rw [← e]))]⟩
  exact h1.grown (List.getElem?_eq_some_iff.1 hj).1 hg (fun k e => by cases e; exact c) (fun k e => by cases e; exact l) ⟨.inl c, l, blk_set b i u⟩
theorem Owned.blk (h : Owned w ps W) {j g : Nat} {t : TypeId} {cs : Array Value} (hj : ps[j]? = some (.box g t cs)) : W.heap[g]? = some (.cells cs t (0, 0)) := (h.get hj).2.2
/-- A block is written anew by a call that keeps all else. -/
theorem Owned.call (h : Owned w ps W) {j g : Nat} {t : TypeId} {cs cs' : Array Value} (hj : ps[j]? = some (.box g t cs)) (hk : KeepBut W W' g none) (hb : Below w.heap.size w W') (new : W'.heap[g]? = some (.cells cs' t (0, 0))) : Owned w (ps.set j (.box g t cs')) W' := by
  obtain ⟨col, h1⟩ := h
  obtain ⟨c, l, _⟩ := h1.2 j _ hj
  exact h1.upd (List.getElem?_eq_some_iff.1 hj).1 ⟨.inl c, l, new⟩ (fun k hlt hne => hk.2 k hlt (fun e => hne (by rw [e]; exact c)) (by simp)) hb
/-- A number of a row of one's own is stored. -/
theorem Owned.num (h : Owned w ps W) {j e g c : Nat} {xs : List Int} {n : Nat} (hj : ps[j]? = some (.row (Kd.int .i64) e (.slice (some ⟨g, 0, none⟩) n c) xs)) (i : Nat) (x : Int) : Owned w (ps.set j (.row (Kd.int .i64) e (.slice (some ⟨g, 0, none⟩) n c) (xs.set i x))) (W.setCell ⟨g, i, none⟩ (.int .i64 x)) := by
  obtain ⟨col, h1⟩ := h
  have hr : (Kd.int .i64).R e W w.heap.size (fun k => col k = j) (.slice (some ⟨g, 0, none⟩) n c) xs := h1.2 j _ hj
  have h2 := Kd.R_putn (enc := Value.int .i64) hr (i : Int) x
  rw [Int.toNat_natCast] at h2
  have hg : W.grownBy (W.setCell ⟨g, i, none⟩ (.int .i64 x)) (some g) := ⟨rfl, rfl, rfl, by unfold World.setCell; simp, fun k hk hne => by
    unfold World.setCell
    simp only [Array.getElem?_modify]
    rw [if_neg (fun e => hne (by rw [← e]))]⟩
  exact h1.grown (List.getElem?_eq_some_iff.1 hj).1 hg (fun k e => by cases e; exact hr.1 g rfl) (fun k e => by cases e; exact Kd.R_base hr g rfl) (Kd.R_mono h2 (fun _ hk => .inl hk))
/-- A part is given up. -/
theorem Owned.drop (h : Owned w ps W) (j : Nat) : Owned w (ps.set j .none) W := by
  obtain ⟨col, h1, h2⟩ := h
  refine ⟨col, h1, fun i p hp => ?_⟩
  rw [List.getElem?_set] at hp
  split at hp
  · split at hp
    · cases hp; trivial
    · cases hp
  · exact h2 i p hp
end
end Go.Proofs.Ytohpboblmmbjnaa.P
/- Appends and makes over parts. -/
namespace Go.Proofs.Ytohpboblmmbjnaa.P
open Go Go.RowKit Go.Proofs.YtohpboblmmbjnaaW.PrintWords Go.Proofs.YtohpboblmmbjnaaW.PrintLast Go.Proofs.YtohpboblmmbjnaaW.PrintMore
section
variable {w W W' : World} {ps : List Part} {col : Nat → Nat}
variable {ops : Array Oper} {rest : List Oper} {o : Oper} {a : Act} {Q : Exit → Act → World → Prop} {Kc : Act → World → Prop} {α : Type}
theorem Owned.app (d : Kd α) (h : Owned w ps W) {j : Nat} {v : Value} {xs : List α} {e : TypeId} (hj : ps[j]? = some (.row d e v xs)) (p : α) (cs : List Value) (hp : ∀ okp, d.M W w.heap.size okp p cs) (s x : Operand) (t : TypeId) (z : Value) (bytes : Nat)
    (ht : Try.prog.underlying t = some (.slice e)) (hinfo : (Try.prog.info? e).map (fun i => (i.zero, i.size, i.bytes)) = some (some z, d.sz, bytes)) (hz : z.cells.size = d.sz) (hs0 : 0 < d.sz) (hb0 : 0 < bytes) (hl : (xs.length + 1) * bytes ≤ 140737488355328)
    (h1 : ∀ v1 w1, Owned w (ps.set j (.row d e v1 (xs ++ [p]))) w1 → wpList Try.prog ops Q rest (a.put o.dst v1) w1)
    (hgd : o.guard = none) (ho : o.op = .call { callee := .builtin .append, args := #[s, x], argTypes := #[t, t] }) (hs : a.eval s = v) (hx : a.eval x = .slice (some ⟨W.heap.size, 0, none⟩) 1 1) :
    wpList Try.prog ops Q (o :: rest) a (W.alloc (.cells cs.toArray e)) := by
  obtain ⟨col, hc⟩ := h
  have hr : d.R e W w.heap.size (fun k => col k = j) v xs := hc.2 j _ hj
  refine Kd.R_append d (w0 := w) w.heap.size hgd s x t e z bytes ho ht hinfo hz hs0 hb0 v xs p cs (fun k => col k = j ∨ W.heap.size ≤ k) (fun _ => False) hs hx (hp _) (fun _ hk => hk.elim) (fun _ hk => .inr hk) (Kd.R_mono hr (fun _ hk => .inl hk)) hc.1 hc.1.size hl ?_
  intro v1 w1 hr1 _ hg _
  exact h1 v1 w1 (hc.grown (List.getElem?_eq_some_iff.1 hj).1 hg (fun k hk => hr.1 k hk) (Kd.R_base hr) hr1)
/-- make([]T, n). -/
theorem Owned.make (d : Kd α) (h : Owned w ps W) (e : TypeId) {N : Tmp} (t : TypeId) (n : Int) (z : Value) (bytes : Nat) (z0 : α) (hzero : ∀ b okp W, d.M W b okp z0 z.cells.toList) (x y : Operand) (ht : Try.prog.underlying t = some (.slice e))
    (hinfo : (Try.prog.info? e).map (fun i => (i.zero, i.size, i.bytes)) = some (some z, d.sz, bytes)) (hz : z.cells.size = d.sz) (hs0 : 0 < d.sz) (hb0 : 0 < bytes) (h0 : 0 ≤ n) (hl : n.toNat * bytes ≤ 281474976710656)
    (h1 : ∀ v1 w1, Owned w (ps ++ [.row d e v1 (List.replicate n.toNat z0)]) w1 → wpList Try.prog ops Q rest (a.put o.dst v1) w1)
    (hgd : o.guard = none) (hd : o.dst = some N) (ho : o.op = .makeSlice t x y) (hx : a.eval x = .int .i64 n) (hy : a.eval y = .int .i64 n) : wpList Try.prog ops Q (o :: rest) a W := by
  have hb := h.below
  refine Kd.R_make d (w0 := W) W.heap.size e hgd hd t x y ho n hx hy ht z bytes hinfo hz hs0 hb0 z0 (ok := fun _ => True) (okp := fun _ => True) ?_ (fun _ _ => trivial) trivial h0 hl (Below.refl _ _) (Nat.le_refl _) ?_
  · exact hzero _ _ _
  · intro v1 w1 hr1 hb1 _ _
    refine h1 v1 w1 (h.fresh hb1 ?_)
    exact Kd.R_lower (Kd.R_mono (Kd.R_bound hr1) (fun _ hk => hk.2.1)) hb.size
end
end Go.Proofs.Ytohpboblmmbjnaa.P
/- At of the document's weaves. -/
namespace Go.Proofs.Ytohpboblmmbjnaa.P
open Go Go.RowKit Go.Proofs.YtohpboblmmbjnaaW.PrintWords Go.Proofs.YtohpboblmmbjnaaW.PrintLast Go.Proofs.YtohpboblmmbjnaaW.PrintMore Go.Proofs.Odo
theorem row_slice {B : Nat} {W : World} {α : Type} {d : Kd α} {e : Nat} {v : Value} {xs : List α} {ok : Nat → Prop} (h : (Part.row d e v xs).sem B ok W) : ∃ A c, v = .slice A xs.length c := Kd.R_slice (show d.R e W B ok v xs from h)
theorem row_at {w W : World} {ps : List Part} {j e n c k : Nat} {Y : Option Addr} {xs : List Int} (h : Owned w ps W) (hj : ps[j]? = some (.row (Kd.int .i64) e (.slice Y n c) xs)) (hk : k < n) :
    ∃ g, Y = some ⟨g, 0, none⟩ ∧ W.cell? ⟨g, k, none⟩ = some (.int .i64 (rd xs (k : Int))) ∧ W.frozen? ⟨g, k, none⟩ = false := by
  have hr : (Kd.int .i64).R e W w.heap.size (fun _ => True) (.slice Y n c) xs := h.get hj
  have ho := Kd.own_of_R hr
  rcases ho.2 with ⟨e1, _⟩ | ⟨g, cap, cur, e1, _, hh, hc, _, hz, ht⟩
  · injection e1 with _ e2; omega
  · injection e1 with e1 e2 _
    subst e1
    refine ⟨g, rfl, (blk_cell hh k).trans ?_, blk_frozen hh k⟩
    have hlt : k < xs.length := by omega
    have e3 : cur[k]? = (cur.toList.take (xs.length * 1))[k]? := by rw [List.getElem?_take, if_pos (by omega), Array.getElem?_toList]
    rw [e3, ht]
    simp only [encs, List.getElem?_map, rd, Int.toNat_natCast, List.getD_eq_getElem?_getD, List.getElem?_eq_getElem hlt]
    rfl
/-- An empty literal and what came in appended to it, in a plain region. -/
theorem Owned.clone {w W : World} {ps : List Part} {α : Type} {ops : Array Oper} {rest : List Oper} {o : Oper} {a : Act} {Q : Exit → Act → World → Prop} (d : Kd α) (h : Owned w ps W) {Rr : α → List Value → Prop} {ys : List α} {A : Option Addr} {m c : Nat} (s x : Operand) (t e : TypeId) (z : Value) (bytes : Nat)
    (ht : Try.prog.underlying t = some (.slice e)) (hinfo : (Try.prog.info? e).map (fun i => (i.zero, i.size, i.bytes)) = some (some z, d.sz, bytes)) (hz : z.cells.size = d.sz) (hs0 : 0 < d.sz) (hb0 : 0 < bytes) (hl : m * bytes ≤ 140737488355328)
    (hKM : ∀ x cs, Rr x cs → d.M (W.alloc (.cells #[] e)) w.heap.size (fun _ => False) x cs) (hread : ReadsRow Rr d.sz (W.alloc (.cells #[] e)) A m ys)
    (h1 : ∀ v1 w1, Owned w (ps ++ [.row d e v1 ys]) w1 → wpList Try.prog ops Q rest (a.put o.dst v1) w1)
    (hgd : o.guard = none) (ho : o.op = .call { callee := .builtin .append, args := #[s, x], argTypes := #[t, t] }) (hs : a.eval s = .slice (some ⟨W.heap.size, 0, none⟩) 0 0) (hx : a.eval x = .slice A m c) :
    wpList Try.prog ops Q (o :: rest) a (W.alloc (.cells #[] e)) := by
  have hb := h.below
  have hsz : (W.alloc (.cells #[] e)).heap.size = W.heap.size + 1 := Array.size_push _
  have hrow : d.R e (W.alloc (.cells #[] e)) w.heap.size (fun k => W.heap.size ≤ k) (.slice (some ⟨W.heap.size, 0, none⟩) 0 0) ([] : List α) := by
    refine ⟨fun k hk => ?_, [], ?_, Reps.none _ _⟩
    · have : W.heap.size = k := by simpa [Value.ownBlock] using hk
      subst this
      exact Nat.le_refl _
    · have h2 := World.ownsRow_lit (base := w.heap.size) (e := e) (size := d.sz) W #[] 0 hb.size (by decide) (by simp)
      simpa using h2
  refine Kd.R_append_rows d (w0 := w) w.heap.size hgd s x t e z bytes ho ht hinfo hz hs0 hb0 _ [] ys A m c (fun k => W.heap.size ≤ k) (fun _ => False) hs hx hrow hread hKM (fun _ h => h.elim) (fun k hk => by omega) (hb.alloc hb.size _) (by have := hb.size; omega) (by simpa using hl) ?_
  intro v1 w1 hr1 hb1 hg _
  refine h1 v1 w1 (h.fresh ?_ hr1)
  refine ⟨hb1.os.trans hb.os.symm, hb1.tape.trans hb.tape.symm, hb1.output.trans hb.output.symm, by have := hg.size; omega, fun k hk => ?_⟩
  rw [hg.block k (by omega) (fun e => by have : W.heap.size = k := by simpa [Value.ownBlock] using e.symm
                                         omega)]
  exact (below_alloc (Below.refl W.heap.size W) _).block k hk
theorem shares_step {f : List Nat} {k : Nat} (h : f.getD k 0 = 0) : shares f (k + 1) = shares f k := by rw [shares_succ, share, if_pos h, Nat.add_zero]
theorem shares_take {f : List Nat} {k : Nat} (h : f.getD k 0 ≠ 0) : shares f (k + 1) = shares f k + mc (less f k) := by rw [shares_succ, share, if_neg h]
theorem mcl_le {f : List Nat} {k : Nat} (h : f.getD k 0 ≠ 0) : mc (less f k) ≤ mc f := by
  have h1 := shares_take h
  have h2 := shares_le f (show k + 1 ≤ f.length from getD_lt h)
  rw [shares_all f (sum_pos h)] at h2
  omega
theorem word_ok {n : Nat} (h : n < 18446744073709551616) : Big.wordR n = ((n : Int), true) := by unfold Big.wordR; rw [if_pos h]
theorem less_ints (f : List Nat) (k x : Nat) (h : f.getD k 0 = x + 1) : (ints f).set k ((x : Nat) : Int) = ints (less f k) := by rw [Big.ints_set, less, h, Nat.add_sub_cancel]
theorem back_ints (f : List Nat) (k x : Nat) (h : f.getD k 0 = x + 1) : (ints (less f k)).set k ((x + 1 : Nat) : Int) = ints f := by
  have hk : k < f.length := getD_lt (by rw [h]; exact Nat.succ_ne_zero x)
  rw [Big.ints_set, less, List.set_set]
  congr 1
  refine List.ext_getElem (by simp) (fun j h1 h2 => ?_)
  rw [List.getElem_set]
  split
  · rename_i e
    subst e
    rw [← h, List.getD_eq_getElem?_getD, List.getElem?_eq_getElem hk]; rfl
  · rfl
theorem getD_le_sum : ∀ (f : List Nat) (k : Nat), f.getD k 0 ≤ f.sum
  | [], k => by simp
  | x :: f, 0 => by rw [List.sum_cons]; exact Nat.le_add_right _ _
  | x :: f, k + 1 => by rw [List.sum_cons]; exact Nat.le_trans (getD_le_sum f k) (Nat.le_add_left _ _)
theorem Owned.tail0 {w W : World} {p : Part} {ps : List Part} (h : Owned w (p :: ps) W) : Owned w ps W := by
  obtain ⟨col, h1, h2⟩ := h
  refine ⟨fun k => col k - 1, h1, fun j q hq => ?_⟩
  exact (h2 (j + 1) q (by rw [List.getElem?_cons_succ]; exact hq)).wide (fun k hk => by show col k - 1 = j; rw [hk]; omega)
theorem count_m {w W : World} {ps : List Part} {v u : Value} {kd : Int} {l0 : List Int} {L : List Nat} {j m c : Nat} {A : Option Addr} {e : Nat} {ai : Int} (hs : RefS w v kd l0) (h : Owned w ps W) (hj : ps[j]? = some (.row (Kd.int .i64) e u (ints L))) (hu : u = .slice A m c) (F : FitL kd L) (hi : ai = ((0 : Nat) : Int)) :
    Calls Try.prog 28 #[v, .slice A m c, .int .i64 ai] W fun e W' => ∃ v', e = .returned v' ∧ BigC W' v' (cntV kd L 0) 400 ∧ Owned w ps W' := by
  have hr : (Kd.int .i64).R e W w.heap.size (fun _ => True) u (ints L) := h.get hj
  obtain ⟨A', c', e', h1, h2⟩ := Kd.R_reads hr
  rw [hu] at e'
  injection e' with e1 e2 e3
  subst e1 e2 e3
  refine (count_c (hs.below h.below) h2 h1 rfl F (Nat.zero_le _) hi).mono ?_
  rintro e W' ⟨v', rfl, hB, hb⟩
  exact ⟨v', rfl, hB, h.later hb⟩
theorem fit_less {kd : Int} {L f : List Nat} {k : Nat} (F : FitL kd L) (hk : kd ≠ 1) (hl : f.length = L.length) (h : f.sum ≤ L.sum) (hne : f.getD k 0 ≠ 0) : FitL kd (less f k) :=
  ⟨fun e => absurd e hk, fun _ => by have := less_sum f k hne; have := F.w hk; omega, by rw [less_length, hl]; exact F.n⟩
set_option maxHeartbeats 8000000 in
set_option maxRecDepth 100000 in
theorem ratw_c {w : World} {v : Value} {kd : Int} {L x0 : List Nat} {n : Nat} (hs : RefS w v kd (ints L)) (hk : kd ≠ 1) (F : FitL kd L) (hm : mc L < 18446744073709551616) (hI : Is L x0) (hr : rank L x0 = n) :
    Calls Try.prog 12 #[v, .int .u64 n] w fun e W' => ∃ v1, e = .returned (.tuple #[v1, .int .i64 0]) ∧ Owned w [.row (Kd.int .i64) 3 v1 (ints x0)] W' := by
  have HS := Aside0.mk hs
  obtain ⟨g, A0, c0, rfl, b0, hC, hc0⟩ := hs
  have HC := Aside0.mk hC
  have HL := Aside0.mk hc0
  have HF := Aside0.mk F
  have HK := Aside0.mk hk
  have HM := Aside0.mk hm
  have HI := Aside0.mk hI
  have HR := Aside0.mk hr
  have hnm : n < mc L := by rw [← hr]; exact rank_lt hI
  have hge : decide ((mc L : Int) ≤ (n : Int)) = false := decide_eq_false (by omega)
  have hge2 : decide (mc L ≤ n) = false := decide_eq_false (by omega)
  have hW : Big.wordR (cntV kd L 0) = ((mc L : Int), true) := by unfold cntV; rw [if_neg hk, word_ok hm]
  have HW := Aside0.mk hW
  have HSM := Aside0.mk (F.w hk)
  have HLN := Aside0.mk F.n
  have HLV := Aside0.mk (show lenV kd L = L.sum by unfold lenV; rw [if_neg hk])
  clear hC hc0 F hk hm hI hr hW hnm b0
  go_enter Try.func12, Try.ntmps12
  go_upto_region 6 with (go_at_call 10; (with_reducible refine (rlen_c HS.out HF.out HW.out).mono ?_); rintro e w1 ⟨rfl, hb1⟩; have HB1 := Aside0.mk hb1; clear hb1)
  clear hge hge2
  have HO := Aside0.mk ((Owned.nil w).later HB1.out)
  obtain ⟨g', A1, c1, e1, b1, hC1, hc1⟩ := HS.out.below HB1.out
  cases e1
  obtain ⟨x0', x1', _, _⟩ := blkA2 b1
  have hxa : (w1.alloc (.cells #[] 3 (0, 0))).cell? ⟨g, 1, none⟩ = some (.slice A1 (ints L).length c1) := pw_cell_below (below_alloc (Below.refl _ _) _) x1'
  have hcl := Aside0.mk (show (ints L).length * 8 ≤ 140737488355328 by have := HLN.out; rw [ints_length]; omega)
  go_upto_region 7 with ((with_reducible refine gate_builtin (b := .append) (xs := #[.tmp 27, .tmp 31]) rfl ?_); at_builtin; refine Owned.clone (Kd.int .i64) HO.out (.tmp 27) (.tmp 31) 22 3 (.int .i64 0) 8 Try.underlying22 info3 rfl (by decide) (by decide) hcl.out (fun _ _ h => h) (Kd.C_alloc hC1 _) ?_ rfl rfl rfl rfl; intro v2 w2 h2; have HO2 := Aside0.mk h2; clear h2 x0' x1' hxa hC1 hc1 b1)
  obtain ⟨Y, cy, e8⟩ := row_slice (HO2.out.get (j := 0) rfl)
  subst e8
  have HO3 := Aside0.mk (HO2.out.fresh (p' := .row (Kd.int .i64) 3 (.slice none 0 0) []) (Below.refl _ _) (Kd.R_nil _ _ _ _ _))
  clear HO HO2
  have hk1 : (kd == 1) = false := beq_eq_false_iff_ne.2 HK.out
  have HK1 := Aside0.mk hk1
  have H0 := Aside0.mk (show (0 : Int) = ((0 : Nat) : Int) from rfl)
  clear hk1
  go_wp2_with fail
  go_loopw [1, 9, 10] (fun vn vo vi W => ∃ (i m : Nat), vi = .int .i64 i ∧ i ≤ L.sum ∧ vn = .int .u64 m ∧ Aside0 (∃ (f o y : List Nat), x0 = o ++ y ∧ o.length = i ∧ f.length = L.length ∧ f.sum + i = L.sum ∧ Is f y ∧ rank f y = m ∧ mc f ≤ mc L ∧ Owned w [.row (Kd.int .i64) 3 (.slice Y (ints L).length cy) (ints f), .row (Kd.int .i64) 3 vo (ints o)] W)) (fun _ _ vi _ => L.sum - (intOf vi).toNat)
  case atStart => exact ⟨0, n, rfl, Nat.zero_le _, rfl, ⟨L, [], x0, rfl, rfl, rfl, rfl, HI.out, HR.out, Nat.le_refl _, HO3.out⟩⟩
  case round =>
    clear HO3
    obtain ⟨i, m, rfl, hi, rfl, HX⟩ := hrel
    obtain ⟨f, o, y, ex, lo, lf, sf, hIs, hrk, hmc, hO⟩ := HX.out
    have HO := Aside0.mk hO
    have EX := Aside0.mk ex
    have LO := Aside0.mk lo
    have LF := Aside0.mk lf
    have SF := Aside0.mk sf
    have HIs := Aside0.mk hIs
    have HRK := Aside0.mk hrk
    have HMC := Aside0.mk hmc
    obtain ⟨O, co, rfl⟩ := row_slice (HO.out.get (j := 1) rfl)
    clear HX hO ex lo lf sf hIs hrk hmc
    by_cases hlt : i < L.sum
    · have hi2 := Aside0.mk hlt
      cases y with
      | nil => exact absurd (show f.sum = 0 from HIs.out) (by have := SF.out; omega)
      | cons k0 y' =>
        have HNE := Aside0.mk (show f.getD k0 0 ≠ 0 from HIs.out.1)
        have HIS2 := Aside0.mk (show Is (less f k0) y' from HIs.out.2)
        have HR2 := Aside0.mk (show shares f k0 + rank (less f k0) y' = m from HRK.out)
        have HK0 := Aside0.mk (show k0 < L.length by rw [← LF.out]; exact getD_lt HNE.out)
        have hfs := Aside0.mk (show f.sum ≤ L.sum by have := SF.out; omega)
        have hwi := Aside0.mk (Big.next_nat hlt (Nat.le_trans HSM.out (by decide)))
        obtain ⟨g2, A2, c2, e2, b2, _, _⟩ := HS.out.below HO.out.below
        cases e2
        go_upto_region 11 with (go_at_call 29; (with_reducible refine (rlength_c (HS.out.below HO.out.below) HF.out).mono ?_); rw [HLV.out]; rintro e w3 ⟨rfl, hb3⟩; have HO4 := Aside0.mk (HO.out.later hb3); have hkc : w3.cell? ⟨g, 0, none⟩ = some (.int .i64 kd) := (blk_cell ((hb3.block _ (blk_lt b2)).trans b2) 0).trans rfl; clear hb3)
        have hk1 := HK1.out
        go_wp2_with fail
        clear hlt b2 hk1 hkc HO
        go_loopw [1, 9, 13] (fun vn vo vk W => ∃ (k q : Nat), vk = .int .i64 k ∧ k ≤ k0 ∧ vn = .int .u64 q ∧ vo = .slice O (ints o).length co ∧ q + shares f k = m ∧ Aside0 (Owned w [.row (Kd.int .i64) 3 (.slice Y (ints L).length cy) (ints f), .row (Kd.int .i64) 3 (.slice O (ints o).length co) (ints o)] W)) (fun _ _ vk _ => L.length - (intOf vk).toNat)
        case atStart => exact ⟨0, m, rfl, Nat.zero_le _, rfl, rfl, rfl, HO4⟩
        case round =>
          clear HO4
          obtain ⟨k, q, rfl, hk, rfl, rfl, hq, HO⟩ := hrel
          have HQ := Aside0.mk hq
          have HKK := Aside0.mk hk
          have hkl : k < (ints L).length := by rw [ints_length]; exact Nat.lt_of_le_of_lt hk HK0.out
          obtain ⟨gl, rfl, hc, hf⟩ := row_at HO.out (j := 0) rfl hkl
          obtain ⟨x, hx⟩ : ∃ x, f.getD k 0 = x := ⟨_, rfl⟩
          have HX := Aside0.mk hx
          have HKL := Aside0.mk hkl
          rw [rd_ints, hx] at hc
          have hwk := Aside0.mk (Big.next_nat (show k < L.length by rw [← ints_length L]; exact hkl) (Nat.le_trans HLN.out (by decide)))
          clear hq hk hx
          go_upto_region 18 with (go_at_call 30; (with_reducible refine (rchoices_c (HS.out.below HO.out.below) HK.out).mono ?_); rintro e w4 ⟨rfl, rfl⟩)
          by_cases hx0 : x = 0
          · subst hx0
            go_wp2_with fail
            go_roundw
            case rel => exact ⟨k + 1, q, by rw [hwk.out], Nat.lt_of_le_of_ne HKK.out (fun e => HNE.out (by rw [← e]; exact HX.out)), rfl, rfl, by rw [shares_step HX.out]; exact HQ.out, HO⟩
            case measure => rw [hwk.out]; exact nat_dec (by rw [← ints_length L]; exact HKL.out)
          · obtain ⟨x', hx'⟩ : ∃ x', x = x' + 1 := ⟨x - 1, by omega⟩
            have hne : f.getD k 0 ≠ 0 := by rw [HX.out]; exact hx0
            have HNK := Aside0.mk hne
            have HXX := Aside0.mk (show f.getD k 0 = x' + 1 from HX.out.trans hx')
            have hx64 : x ≤ 64 := by
              have h1 := less_sum f k hne
              have h2 := hfs.out
              have h3 := HSM.out
              have h4 : f.getD k 0 ≤ f.sum := getD_le_sum f k
              rw [HX.out] at h4
              omega
            have hdec := Aside0.mk (show wrap64 ((x : Int) - 1) = ((x' : Nat) : Int) by rw [hx']; unfold wrap64; omega)
            have hinc := Aside0.mk (show wrap64 ((x' : Int) + 1) = ((x' + 1 : Nat) : Int) by unfold wrap64; omega)
            have d0 : ((x : Int) == 0) = false := beq_eq_false_iff_ne.2 (by omega)
            obtain ⟨M1, hM1⟩ : ∃ M1, mc (less f k) = M1 := ⟨_, rfl⟩
            have HM1 := Aside0.mk hM1
            have hm64 : M1 < 18446744073709551616 := by rw [← hM1]; exact Nat.lt_of_le_of_lt (Nat.le_trans (mcl_le hne) HMC.out) HM.out
            have hwl := Aside0.mk (show Big.wordR (cntV kd (less f k) 0) = ((M1 : Int), true) by unfold cntV; rw [if_neg HK.out, hM1, word_ok hm64])
            have HFL := Aside0.mk (fit_less HF.out HK.out LF.out hfs.out hne)
            clear hM1 hm64 hx64 hne hx'
            go_upto_region 20 with fail
            have HO5 := Aside0.mk (HO.out.num (j := 0) rfl k (wrap64 ((x : Int) - 1)))
            clear hc hf HO d0 hx0
            generalize World.setCell _ _ _ = W5 at HO5 ⊢
            have HO6 : Aside0 (Owned w [.row (Kd.int .i64) 3 (.slice (some ⟨gl, 0, none⟩) (ints L).length cy) (ints (less f k)), .row (Kd.int .i64) 3 (.slice O (ints o).length co) (ints o)] W5) := ⟨by
              have h := HO5.out
              rw [hdec.out, less_ints f k x' HXX.out] at h
              exact h⟩
            clear HO5
            go_upto_region 21 with (first
              | (go_at_call 28; (with_reducible refine (count_m HS.out HO6.out (j := 0) rfl rfl HFL.out H0.out).mono ?_); rintro e w6 ⟨v6, rfl, h6, h7⟩; have HB6 := Aside0.mk h6; have HO7 := Aside0.mk h7; clear h6 h7)
              | (go_at_call 27; (with_reducible refine (word_c HB6.out (by decide)).mono ?_); rw [hwl.out]; rintro e w7 ⟨rfl, h7⟩; have HO8 := Aside0.mk (HO7.out.later (drawn_below h7)); clear h7))
            clear HO6 HO7 HB6
            by_cases hqm : q < M1
            · have hkk : k = k0 := by
                rcases Nat.lt_or_ge k k0 with h | h
                · have h1 := shares_le f h
                  rw [Nat.succ_eq_add_one, shares_take HNK.out, HM1.out] at h1
                  have h2 := HQ.out
                  have h3 := HR2.out
                  omega
                · exact Nat.le_antisymm HKK.out h
              have hlo := Aside0.mk (show ((ints o).length + 1) * 8 ≤ 140737488355328 by have := LO.out; have := HSM.out; have := hi2.out; rw [ints_length]; omega)
              subst hkk
              clear hkl
              go_wp2_with ((with_reducible refine gate_builtin (b := .append) (xs := #[.tmp 94, .tmp 96]) rfl ?_); at_builtin; refine Owned.app (Kd.int .i64) HO8.out (j := 1) rfl ((k : Nat) : Int) [.int .i64 k] (fun _ => rfl) (.tmp 94) (.tmp 96) 22 (.int .i64 0) 8 Try.underlying22 info3 rfl (by decide) (by decide) hlo.out ?_ rfl rfl rfl rfl; intro v9 w9 h9; have HO9 := Aside0.mk h9; clear h9)
              go_roundw
              case rel => exact ⟨i + 1, q, by rw [hwi.out], hi2.out, rfl, ⟨less f k, o ++ [k], y', by rw [EX.out, List.append_assoc]; rfl, by rw [List.length_append, LO.out]; rfl, by rw [less_length, LF.out], by have := less_sum f k HNE.out; have := SF.out; omega, HIS2.out, by have := HQ.out; have := HR2.out; omega, Nat.le_trans (mcl_le HNE.out) HMC.out, by rw [← Big.ints_snoc]; exact HO9.out⟩⟩
              case measure => rw [hwi.out]; exact nat_dec hi2.out
            · have hkk : k ≠ k0 := fun h => by
                subst h
                have h1 := rank_lt HIS2.out
                rw [HM1.out] at h1
                have h2 := HQ.out
                have h3 := HR2.out
                omega
              have hsub := Aside0.mk (show IntKind.u64.wrap ((q : Int) - (M1 : Int)) = ((q - M1 : Nat) : Int) by
                have h1 : q < 18446744073709551616 := by have := HQ.out; have := rank_lt HIs.out; have := HRK.out; have := HMC.out; have := HM.out; omega
                rw [show (q : Int) - (M1 : Int) = ((q - M1 : Nat) : Int) by omega]
                exact Big.wrap_nat (by omega))
              have hq2 := Aside0.mk (show (q - M1) + shares f (k + 1) = m by rw [shares_take HNK.out, HM1.out]; have := HQ.out; omega)
              have HKN := Aside0.mk hkk
              obtain ⟨gm, eg, hc, hf⟩ := row_at HO8.out (j := 0) rfl hkl
              obtain rfl : gl = gm := by injection eg with eg; injection eg
              have hg1 : (less f k).getD k 0 = x' := by
                have h1 := getD_lt HNK.out
                rw [less, List.getD_eq_getElem?_getD, List.getElem?_set_self h1, HXX.out]; rfl
              rw [rd_ints, hg1] at hc
              clear hkk eg hg1
              go_upto_region 24 with fail
              go_wp2_with fail
              refine ⟨⟨k + 1, q - M1, by rw [hwk.out], Nat.lt_of_le_of_ne HKK.out HKN.out, by rw [hsub.out], rfl, hq2.out, ⟨?_⟩⟩, ?_⟩
              · have h := HO8.out.num (j := 0) rfl k (wrap64 ((x' : Int) + 1))
                have e : (ints (less f k)).set k (wrap64 ((x' : Int) + 1)) = ints f := by rw [hinc.out, back_ints f k x' HXX.out]
                rw [e] at h
                exact h
              · rw [hwk.out]
                exact nat_dec (by rw [← ints_length L]; exact HKL.out)
    · have hil : i = L.sum := Nat.le_antisymm hi (Nat.le_of_not_lt hlt)
      have hy : y = [] := by
        have h1 := is_length HIs.out
        have h2 := SF.out
        exact List.eq_nil_of_length_eq_zero (by omega)
      subst hy
      have HE := Aside0.mk (show x0 = o by rw [EX.out, List.append_nil])
      clear hil
      go_wp2_with (go_at_call 29; (with_reducible refine (rlength_c (HS.out.below HO.out.below) HF.out).mono ?_); rw [HLV.out]; rintro e w3 ⟨rfl, hb3⟩; have HO4 := Aside0.mk (HO.out.later hb3); clear hb3)
      go_ret2
      exact ⟨_, rfl, by rw [HE.out]; exact HO4.out.tail0⟩
end Go.Proofs.Ytohpboblmmbjnaa.P
/- At of the document's products. -/
namespace Go.Proofs.Ytohpboblmmbjnaa.P
open Go Go.RowKit Go.Proofs.YtohpboblmmbjnaaW.PrintWords Go.Proofs.YtohpboblmmbjnaaW.PrintLast Go.Proofs.YtohpboblmmbjnaaW.PrintMore Go.Proofs.Odo
theorem drop_pos {L : List Nat} {i m : Nat} (h : i < L.length) (hm : m < prod (L.drop i)) : 0 < prod (L.drop (i + 1)) ∧ prod (L.drop (i + 1)) ≤ prod (L.drop i) ∧ m / prod (L.drop (i + 1)) < L.getD i 0 ∧ m % prod (L.drop (i + 1)) < prod (L.drop (i + 1)) := by
  rw [getD_prod h] at hm ⊢
  have h1 : 0 < prod (L.drop (i + 1)) := by
    rcases Nat.eq_zero_or_pos (prod (L.drop (i + 1))) with h0 | h0
    · rw [h0, Nat.mul_zero] at hm; omega
    · exact h0
  have h2 : 0 < L.getD i 0 := by
    rcases Nat.eq_zero_or_pos (L.getD i 0) with h0 | h0
    · rw [h0, Nat.zero_mul] at hm; omega
    · exact h0
  exact ⟨h1, Nat.le_mul_of_pos_left _ h2, by rw [Nat.div_lt_iff_lt_mul h1]; exact hm, Nat.mod_lt _ h1⟩
theorem atP_drop {L : List Nat} {i m : Nat} (h : i < L.length) : atP (L.drop i) m = m / prod (L.drop (i + 1)) :: atP (L.drop (i + 1)) (m % prod (L.drop (i + 1))) := by
  rw [List.drop_eq_getElem_cons h]; rfl
set_option maxHeartbeats 8000000 in
set_option maxRecDepth 100000 in
theorem ratp_c {w : World} {v : Value} {L : List Nat} {n : Nat} (hs : RefS w v 1 (ints L)) (F : FitL 1 L) (hm : prod L < 18446744073709551616) (hn : n < prod L) :
    Calls Try.prog 12 #[v, .int .u64 n] w fun e W' => ∃ v1, e = .returned (.tuple #[v1, .int .i64 0]) ∧ Owned w [.row (Kd.int .i64) 3 v1 (ints (atP L n))] W' := by
  have HS := Aside0.mk hs
  obtain ⟨g, A0, c0, rfl, b0, hC, hc0⟩ := hs
  have HC := Aside0.mk hC
  have HL := Aside0.mk hc0
  have HF := Aside0.mk F
  have HM := Aside0.mk hm
  have HNN := Aside0.mk hn
  have hge : decide ((prod L : Int) ≤ (n : Int)) = false := decide_eq_false (by omega)
  have hge2 : decide (prod L ≤ n) = false := decide_eq_false (by omega)
  have hW : Big.wordR (cntV 1 L 0) = ((prod L : Int), true) := by unfold cntV; rw [if_pos rfl, List.drop_zero, word_ok hm]
  have HW := Aside0.mk hW
  have HLN := Aside0.mk F.n
  have HLV := Aside0.mk (show lenV 1 L = L.length by unfold lenV; rw [if_pos rfl])
  clear hC hc0 F hm hn hW b0
  go_enter Try.func12, Try.ntmps12
  go_upto_region 6 with (go_at_call 10; (with_reducible refine (rlen_c HS.out HF.out HW.out).mono ?_); rintro e w1 ⟨rfl, hb1⟩; have HB1 := Aside0.mk hb1; clear hb1)
  clear hge hge2
  have HO := Aside0.mk ((Owned.nil w).later HB1.out)
  obtain ⟨g', A1, c1, e1, b1, hC1, hc1⟩ := HS.out.below HB1.out
  cases e1
  obtain ⟨x0', x1', _, _⟩ := blkA2 b1
  have hxa : (w1.alloc (.cells #[] 3 (0, 0))).cell? ⟨g, 1, none⟩ = some (.slice A1 (ints L).length c1) := pw_cell_below (below_alloc (Below.refl _ _) _) x1'
  have hcl := Aside0.mk (show (ints L).length * 8 ≤ 140737488355328 by have := HLN.out; rw [ints_length]; omega)
  go_upto_region 7 with ((with_reducible refine gate_builtin (b := .append) (xs := #[.tmp 27, .tmp 31]) rfl ?_); at_builtin; refine Owned.clone (Kd.int .i64) HO.out (.tmp 27) (.tmp 31) 22 3 (.int .i64 0) 8 Try.underlying22 info3 rfl (by decide) (by decide) hcl.out (fun _ _ h => h) (Kd.C_alloc hC1 _) ?_ rfl rfl rfl rfl; intro v2 w2 h2; have HO2 := Aside0.mk h2; clear h2 x0' x1' hxa hC1 hc1 b1)
  obtain ⟨Y, cy, e8⟩ := row_slice (HO2.out.get (j := 0) rfl)
  subst e8
  have HO3 := Aside0.mk (HO2.out.fresh (p' := .row (Kd.int .i64) 3 (.slice none 0 0) []) (Below.refl _ _) (Kd.R_nil _ _ _ _ _))
  clear HO HO2
  have H0 := Aside0.mk (show (0 : Int) = ((0 : Nat) : Int) from rfl)
  go_wp2_with fail
  go_loopw [1, 9, 10] (fun vn vo vi W => ∃ (i m : Nat), vi = .int .i64 i ∧ i ≤ L.length ∧ vn = .int .u64 m ∧ Aside0 (∃ o : List Nat, o.length = i ∧ m < prod (L.drop i) ∧ prod (L.drop i) < 18446744073709551616 ∧ o ++ atP (L.drop i) m = atP L n ∧ Owned w [.row (Kd.int .i64) 3 (.slice Y (ints L).length cy) (ints L), .row (Kd.int .i64) 3 vo (ints o)] W)) (fun _ _ vi _ => L.length - (intOf vi).toNat)
  case atStart => exact ⟨0, n, rfl, Nat.zero_le _, rfl, ⟨[], rfl, HNN.out, HM.out, rfl, HO3.out⟩⟩
  case round =>
    clear HO3
    obtain ⟨i, m, rfl, hi, rfl, HX⟩ := hrel
    obtain ⟨o, lo, hmi, hpi, hat, hO⟩ := HX.out
    have HO := Aside0.mk hO
    have LO := Aside0.mk lo
    have HMI := Aside0.mk hmi
    have HPI := Aside0.mk hpi
    have HAT := Aside0.mk hat
    obtain ⟨O, co, rfl⟩ := row_slice (HO.out.get (j := 1) rfl)
    clear HX hO lo hmi hpi hat
    obtain ⟨g2, A2, c2, e2, b2, hC2, hc2⟩ := HS.out.below HO.out.below
    cases e2
    by_cases hlt : i < L.length
    · obtain ⟨d1, d2, d3, d4⟩ := drop_pos hlt HMI.out
      have hi2 := Aside0.mk hlt
      have hi3 := Aside0.mk (show i + 1 ≤ L.length from hlt)
      have hAD := atP_drop (m := m) hlt
      obtain ⟨P1, hP1⟩ : ∃ P1, prod (L.drop (i + 1)) = P1 := ⟨_, rfl⟩
      rw [hP1] at d1 d2 d3 d4 hAD
      have HAD := Aside0.mk hAD
      have HP1 := Aside0.mk hP1
      have HD4 := Aside0.mk d4
      have HD2 := Aside0.mk (show P1 < 18446744073709551616 from Nat.lt_of_le_of_lt d2 HPI.out)
      have hwl := Aside0.mk (show Big.wordR (cntV 1 L (i + 1)) = ((P1 : Int), true) by unfold cntV; rw [if_pos rfl, hP1, word_ok HD2.out])
      have hwi := Aside0.mk (Big.next_nat hlt (Nat.le_trans HLN.out (by decide)))
      have hx9 : L.getD i 0 < 9223372036854775808 := getD_small (HF.out.p rfl) i
      have hq := Aside0.mk (show m / P1 < 9223372036854775808 from Nat.lt_trans d3 hx9)
      have hm64 := Aside0.mk (show m < 18446744073709551616 from Nat.lt_trans HMI.out HPI.out)
      have z1 : ¬ (P1 : Int) = 0 := by omega
      have z2 : ¬ P1 = 0 := by omega
      have hlo := Aside0.mk (show ((ints o).length + 1) * 8 ≤ 140737488355328 by have := LO.out; have := HLN.out; have := hi2.out; rw [ints_length]; omega)
      clear hP1 d1 d2 d3 d4 hx9 hAD
      go_upto_region 12 with (go_at_call 29; (with_reducible refine (rlength_c (HS.out.below HO.out.below) HF.out).mono ?_); rw [HLV.out]; rintro e w3 ⟨rfl, hb3⟩; have HO4 := Aside0.mk (HO.out.later hb3); have hB3 := Aside0.mk ((hb3.block _ (blk_lt b2)).trans b2); have HC3 := Aside0.mk (Kd.C_below hC2 hb3); have HR3 := Aside0.mk ((HS.out.below HO.out.below).below hb3); have hkc : w3.cell? ⟨g, 0, none⟩ = some (.int .i64 1) := (blk_cell hB3.out 0).trans rfl; have hkl : w3.cell? ⟨g, 1, none⟩ = some (.slice A2 (ints L).length c2) := (blk_cell hB3.out 1).trans rfl; clear hb3)
      clear hlt b2 hC2 HO
      go_upto_region 13 with (first
        | (go_at_call 28; (with_reducible refine (count_c (a := i + 1) HR3.out HC3.out hc2 rfl HF.out hi3.out hwi.out).mono ?_); rintro e w6 ⟨v6, rfl, h6, h7⟩; have HB6 := Aside0.mk h6; have HO7 := Aside0.mk (HO4.out.later h7); clear h6 h7)
        | (go_at_call 27; (with_reducible refine (word_c HB6.out (by decide)).mono ?_); rw [hwl.out]; rintro e w7 ⟨rfl, h7⟩; have HO8 := Aside0.mk (HO7.out.later (drawn_below h7)); clear h7))
      clear HO4 HO7 HB6 hkc hkl hB3 HC3 HR3
      go_wp2_with ((with_reducible refine gate_builtin (b := .append) (xs := #[.tmp 56, .tmp 61]) rfl ?_); at_builtin; refine Owned.app (Kd.int .i64) HO8.out (j := 1) rfl _ [.int .i64 _] (fun _ => rfl) (.tmp 56) (.tmp 61) 22 (.int .i64 0) 8 Try.underlying22 info3 rfl (by decide) (by decide) hlo.out ?_ rfl rfl rfl rfl; intro v9 w9 h9; have HO9 := Aside0.mk h9; clear h9)
      refine ⟨⟨i + 1, m % P1, by rw [hwi.out], hi2.out, rfl, ⟨o ++ [m / P1], by rw [List.length_append, LO.out]; rfl, by rw [HP1.out]; exact HD4.out, by rw [HP1.out]; exact HD2.out, by rw [List.append_assoc, ← HAT.out, HAD.out]; rfl, ?_⟩⟩, by rw [hwi.out]; exact nat_dec hi2.out⟩
      have h := HO9.out
      rw [← Big.ints_snoc]
      have e : wrap64 (IntKind.u64.wrap ((m : Int) / (P1 : Int))) = ((m / P1 : Nat) : Int) := by
        have h1 := hq.out
        have h2 : (m : Int) / (P1 : Int) = ((m / P1 : Nat) : Int) := (Int.natCast_ediv m P1).symm
        obtain ⟨q, hqe⟩ : ∃ q, m / P1 = q := ⟨_, rfl⟩
        rw [hqe] at h1 h2 ⊢
        clear HMI HAT HAD HD4 hqe
        rw [h2, Big.wrap_nat (by omega)]
        unfold wrap64
        omega
      rw [e] at h
      exact h
    · have hil : i = L.length := Nat.le_antisymm hi (Nat.le_of_not_lt hlt)
      have HE := Aside0.mk (show atP L n = o by
        have h := HAT.out
        rw [hil, List.drop_length] at h
        rw [← h, atP, List.append_nil])
      clear hil
      go_wp2_with (go_at_call 29; (with_reducible refine (rlength_c (HS.out.below HO.out.below) HF.out).mono ?_); rw [HLV.out]; rintro e w3 ⟨rfl, hb3⟩; have HO4 := Aside0.mk (HO.out.later hb3); clear hb3)
      go_ret2
      exact ⟨_, rfl, by rw [HE.out]; exact HO4.out.tail0⟩
end Go.Proofs.Ytohpboblmmbjnaa.P
/- Rank of the document's weaves. -/
namespace Go.Proofs.Ytohpboblmmbjnaa.P
open Go Go.RowKit Go.Proofs.YtohpboblmmbjnaaW.PrintWords Go.Proofs.YtohpboblmmbjnaaW.PrintLast Go.Proofs.YtohpboblmmbjnaaW.PrintMore Go.Proofs.Odo
theorem getD_mid (o y : List Nat) (k : Nat) : (o ++ k :: y).getD o.length 0 = k := by simp [List.getD_eq_getElem?_getD]
set_option maxHeartbeats 8000000 in
set_option maxRecDepth 100000 in
theorem rrankw_c {w : World} {v : Value} {kd : Int} {L x0 : List Nat} {A : Option Addr} {c : Nat} (hs : RefS w v kd (ints L)) (hk : kd ≠ 1) (F : FitL kd L) (hm : mc L < 18446744073709551616) (hI : Is L x0) (hl : Kd.C (Kd.int .i64) w A (ints x0).length (ints x0))
    (his : ∀ W, Below w.heap.size w W → Calls Try.prog 31 #[v, .slice A (ints x0).length c] W fun e W' => e = .returned (.bool true) ∧ Below W.heap.size W W') :
    Calls Try.prog 15 #[v, .slice A (ints x0).length c] w fun e W' => e = .returned (.tuple #[.int .u64 ((rank L x0 : Nat) : Int), .int .i64 0]) ∧ Below w.heap.size w W' := by
  have HS := Aside0.mk hs
  obtain ⟨g, A0, c0, rfl, b0, hC, hc0⟩ := hs
  have HF := Aside0.mk F
  have HK := Aside0.mk hk
  have HM := Aside0.mk hm
  have HI := Aside0.mk hI
  have HA := Aside0.mk hl
  have HIS := Aside0.mk his
  have hW : Big.wordR (cntV kd L 0) = ((mc L : Int), true) := by unfold cntV; rw [if_neg hk, word_ok hm]
  have HW := Aside0.mk hW
  have HSM := Aside0.mk (F.w hk)
  have HLN := Aside0.mk F.n
  have hlx : x0.length = L.sum := is_length hI
  have HLX := Aside0.mk hlx
  clear hC hc0 F hk hm hI hW b0 hl his hlx
  go_enter Try.func15, Try.ntmps15
  go_upto_region 6 with (first
    | (go_at_call 10; (with_reducible refine (rlen_c HS.out HF.out HW.out).mono ?_); rintro e w1 ⟨rfl, hb1⟩; have HB1 := Aside0.mk hb1; clear hb1)
    | (go_at_call 31; (with_reducible refine (HIS.out _ HB1.out).mono ?_); rintro e w2 ⟨rfl, hb2⟩; have HB2 := Aside0.mk (below_then HB1.out HB1.out.size hb2); clear hb2))
  have HO := Aside0.mk ((Owned.nil w).later HB2.out)
  obtain ⟨g', A1, c1, e1, b1, hC1, hc1⟩ := HS.out.below HB2.out
  cases e1
  obtain ⟨x0', x1', _, _⟩ := blkA2 b1
  have hxa : (w2.alloc (.cells #[] 3 (0, 0))).cell? ⟨g, 1, none⟩ = some (.slice A1 (ints L).length c1) := pw_cell_below (below_alloc (Below.refl _ _) _) x1'
  have hcl := Aside0.mk (show (ints L).length * 8 ≤ 140737488355328 by have := HLN.out; rw [ints_length]; omega)
  go_upto_region 7 with ((with_reducible refine gate_builtin (b := .append) (xs := #[.tmp 28, .tmp 32]) rfl ?_); at_builtin; refine Owned.clone (Kd.int .i64) HO.out (.tmp 28) (.tmp 32) 22 3 (.int .i64 0) 8 Try.underlying22 info3 rfl (by decide) (by decide) hcl.out (fun _ _ h => h) (Kd.C_alloc hC1 _) ?_ rfl rfl rfl rfl; intro v2 w3 h2; have HO3 := Aside0.mk h2; clear h2 x0' x1' hxa hC1 hc1 b1)
  obtain ⟨Y, cy, e8⟩ := row_slice (HO3.out.get (j := 0) rfl)
  subst e8
  clear HO
  have hk1 : (kd == 1) = false := beq_eq_false_iff_ne.2 HK.out
  have HK1 := Aside0.mk hk1
  have H0 := Aside0.mk (show (0 : Int) = ((0 : Nat) : Int) from rfl)
  clear hk1
  go_wp2_with fail
  go_loopw [9, 10] (fun vn vi W => ∃ (i m : Nat), vi = .int .i64 i ∧ i ≤ (ints x0).length ∧ vn = .int .u64 m ∧ Aside0 (∃ (f o y : List Nat), x0 = o ++ y ∧ o.length = i ∧ f.length = L.length ∧ f.sum + i = L.sum ∧ Is f y ∧ m + rank f y = rank L x0 ∧ mc f ≤ mc L ∧ Owned w [.row (Kd.int .i64) 3 (.slice Y (ints L).length cy) (ints f)] W)) (fun _ vi _ => (ints x0).length - (intOf vi).toNat)
  case atStart => exact ⟨0, 0, rfl, Nat.zero_le _, rfl, ⟨L, [], x0, rfl, rfl, rfl, rfl, HI.out, Nat.zero_add _, Nat.le_refl _, HO3.out⟩⟩
  case round =>
    clear HO3
    obtain ⟨i, m, rfl, hi, rfl, HX⟩ := hrel
    obtain ⟨f, o, y, ex, lo, lf, sf, hIs, hrk, hmc, hO⟩ := HX.out
    have HO := Aside0.mk hO
    have EX := Aside0.mk ex
    have LO := Aside0.mk lo
    have LF := Aside0.mk lf
    have SF := Aside0.mk sf
    have HIs := Aside0.mk hIs
    have HRK := Aside0.mk hrk
    have HMC := Aside0.mk hmc
    clear HX hO ex lo lf sf hIs hrk hmc
    by_cases hlt : i < (ints x0).length
    · have hi2 := Aside0.mk hlt
      have hiS := Aside0.mk (show i < L.sum by rw [← HLX.out, ← ints_length x0]; exact hlt)
      cases y with
      | nil => exact absurd (show f.sum = 0 from HIs.out) (by have := SF.out; have := hiS.out; omega)
      | cons k0 y' =>
        have HNE := Aside0.mk (show f.getD k0 0 ≠ 0 from HIs.out.1)
        have HIS2 := Aside0.mk (show Is (less f k0) y' from HIs.out.2)
        have HR2 := Aside0.mk (show m + (shares f k0 + rank (less f k0) y') = rank L x0 from HRK.out)
        have HK0 := Aside0.mk (show k0 < L.length by rw [← LF.out]; exact getD_lt HNE.out)
        have hfs := Aside0.mk (show f.sum ≤ L.sum by have := SF.out; omega)
        have hwi := Aside0.mk (Big.next_nat hlt (Nat.le_trans (by rw [ints_length, HLX.out]; exact HSM.out) (by decide)))
        have HX0 := Aside0.mk (show x0.getD i 0 = k0 by rw [EX.out, ← LO.out]; exact getD_mid o y' k0)
        have HRL := Aside0.mk (show rank L x0 < 18446744073709551616 from Nat.lt_trans (rank_lt HI.out) HM.out)
        obtain ⟨g2, A2, c2, e2, b2, _, _⟩ := HS.out.below HO.out.below
        cases e2
        obtain ⟨hkc, _, _, _⟩ := blkA2 b2
        have hk1 := HK1.out
        go_wp2_with fail
        clear hlt b2 hk1 hkc
        go_loopw [9, 13] (fun vn vk W => ∃ (k q : Nat), vk = .int .i64 k ∧ k ≤ k0 ∧ vn = .int .u64 q ∧ q = m + shares f k ∧ Aside0 (Owned w [.row (Kd.int .i64) 3 (.slice Y (ints L).length cy) (ints f)] W)) (fun _ vk _ => L.length - (intOf vk).toNat)
        case atStart => exact ⟨0, m, rfl, Nat.zero_le _, rfl, rfl, HO⟩
        case round =>
          clear HO
          obtain ⟨k, q, rfl, hk, rfl, hq, HO⟩ := hrel
          have HQ := Aside0.mk hq
          have HKK := Aside0.mk hk
          obtain ⟨ad, rfl, hxk⟩ := Kd.at_int (Kd.C_below HA.out HO.out.below) (i : Int) (Int.natCast_nonneg i) (Int.ofNat_lt.2 hi2.out)
          rw [rd_ints, HX0.out, Int.toNat_natCast] at hxk
          have hil : i < (ints x0).length := hi2.out
          clear hq
          by_cases hlk : k < k0
          · have hkl : k < (ints L).length := by rw [ints_length]; exact Nat.lt_trans hlk HK0.out
            obtain ⟨gl, rfl, hc, hf⟩ := row_at HO.out (j := 0) rfl hkl
            obtain ⟨x, hx⟩ : ∃ x, f.getD k 0 = x := ⟨_, rfl⟩
            have HX := Aside0.mk hx
            have HKL := Aside0.mk hkl
            have HLK := Aside0.mk hlk
            rw [rd_ints, hx] at hc
            have hwk := Aside0.mk (Big.next_nat (show k < L.length by rw [← ints_length L]; exact hkl) (Nat.le_trans HLN.out (by decide)))
            clear hk hx
            by_cases hx0 : x = 0
            · subst hx0
              go_wp2_with fail
              go_roundw
              case rel => exact ⟨k + 1, q, by rw [hwk.out], HLK.out, rfl, by rw [shares_step HX.out]; exact HQ.out, HO⟩
              case measure => rw [hwk.out]; exact nat_dec (by rw [← ints_length L]; exact HKL.out)
            · obtain ⟨x', hx'⟩ : ∃ x', x = x' + 1 := ⟨x - 1, by omega⟩
              have hne : f.getD k 0 ≠ 0 := by rw [HX.out]; exact hx0
              have HNK := Aside0.mk hne
              have HXX := Aside0.mk (show f.getD k 0 = x' + 1 from HX.out.trans hx')
              have hx64 : x ≤ 64 := by
                have h1 := less_sum f k hne
                have h2 := hfs.out
                have h3 := HSM.out
                have h4 : f.getD k 0 ≤ f.sum := getD_le_sum f k
                rw [HX.out] at h4
                omega
              have hdec := Aside0.mk (show wrap64 ((x : Int) - 1) = ((x' : Nat) : Int) by rw [hx']; unfold wrap64; omega)
              have hinc := Aside0.mk (show wrap64 ((x' : Int) + 1) = ((x' + 1 : Nat) : Int) by unfold wrap64; omega)
              have d0 : ((x : Int) == 0) = false := beq_eq_false_iff_ne.2 (by omega)
              obtain ⟨M1, hM1⟩ : ∃ M1, mc (less f k) = M1 := ⟨_, rfl⟩
              have HM1 := Aside0.mk hM1
              have hm64 : M1 < 18446744073709551616 := by rw [← hM1]; exact Nat.lt_of_le_of_lt (Nat.le_trans (mcl_le hne) HMC.out) HM.out
              have hwl := Aside0.mk (show Big.wordR (cntV kd (less f k) 0) = ((M1 : Int), true) by unfold cntV; rw [if_neg HK.out, hM1, word_ok hm64])
              have HFL := Aside0.mk (fit_less HF.out HK.out LF.out hfs.out hne)
              clear hM1 hm64 hx64 hne hx'
              go_upto_region 19 with fail
              have HO5 := Aside0.mk (HO.out.num (j := 0) rfl k (wrap64 ((x : Int) - 1)))
              clear hc hf HO d0 hx0 hlk hxk hil
              generalize World.setCell _ _ _ = W5 at HO5 ⊢
              have HO6 : Aside0 (Owned w [.row (Kd.int .i64) 3 (.slice (some ⟨gl, 0, none⟩) (ints L).length cy) (ints (less f k))] W5) := ⟨by
                have h := HO5.out
                rw [hdec.out, less_ints f k x' HXX.out] at h
                exact h⟩
              clear HO5
              go_upto_region 20 with (first
                | (go_at_call 28; (with_reducible refine (count_m HS.out HO6.out (j := 0) rfl rfl HFL.out H0.out).mono ?_); rintro e w6 ⟨v6, rfl, h6, h7⟩; have HB6 := Aside0.mk h6; have HO7 := Aside0.mk h7; clear h6 h7)
                | (go_at_call 27; (with_reducible refine (word_c HB6.out (by decide)).mono ?_); rw [hwl.out]; rintro e w7 ⟨rfl, h7⟩; have HO8 := Aside0.mk (HO7.out.later (drawn_below h7)); clear h7))
              clear HO6 HO7 HB6
              have hadd := Aside0.mk (show IntKind.u64.wrap ((q : Int) + (M1 : Int)) = ((q + M1 : Nat) : Int) by
                have h1 := shares_le f HLK.out
                rw [Nat.succ_eq_add_one, shares_take HNK.out, HM1.out] at h1
                have h2 := HQ.out
                have h3 := HR2.out
                have h4 := HRL.out
                rw [← Int.natCast_add]
                exact Big.wrap_nat (by omega))
              obtain ⟨gm, eg, hc, hf⟩ := row_at HO8.out (j := 0) rfl HKL.out
              obtain rfl : gl = gm := by injection eg with eg; injection eg
              have hg1 : (less f k).getD k 0 = x' := by
                have h1 := getD_lt HNK.out
                rw [less, List.getD_eq_getElem?_getD, List.getElem?_set_self h1, HXX.out]; rfl
              rw [rd_ints, hg1] at hc
              have hq2 := Aside0.mk (show q + M1 = m + shares f (k + 1) by rw [shares_take HNK.out, HM1.out, HQ.out, Nat.add_assoc])
              have hkl := HKL.out
              clear eg hg1
              go_wp2_with fail
              refine ⟨⟨k + 1, q + M1, by rw [hwk.out], HLK.out, by rw [hadd.out], hq2.out, ⟨?_⟩⟩, ?_⟩
              · have h := HO8.out.num (j := 0) rfl k (wrap64 ((x' : Int) + 1))
                have e : (ints (less f k)).set k (wrap64 ((x' : Int) + 1)) = ints f := by rw [hinc.out, back_ints f k x' HXX.out]
                rw [e] at h
                exact h
              · rw [hwk.out]
                exact nat_dec (by rw [← ints_length L]; exact HKL.out)
          · have hkk : k = k0 := Nat.le_antisymm hk (Nat.le_of_not_lt hlk)
            subst hkk
            have hkl : k < (ints L).length := by rw [ints_length]; exact HK0.out
            obtain ⟨gl, rfl, hc, hf⟩ := row_at HO.out (j := 0) rfl hkl
            obtain ⟨x, hx⟩ : ∃ x, f.getD k 0 = x := ⟨_, rfl⟩
            rw [rd_ints, hx] at hc
            obtain ⟨x', hx'⟩ : ∃ x', x = x' + 1 := ⟨x - 1, by have := HNE.out; omega⟩
            have hx64 : x ≤ 64 := by
              have h2 := hfs.out
              have h3 := HSM.out
              have h4 : f.getD k 0 ≤ f.sum := getD_le_sum f k
              rw [hx] at h4
              omega
            have HXX := Aside0.mk (show f.getD k 0 = x' + 1 from hx.trans hx')
            have hdec := Aside0.mk (show wrap64 ((x : Int) - 1) = ((x' : Nat) : Int) by rw [hx']; unfold wrap64; omega)
            clear hx' hx64 hx hk
            go_wp2_with fail
            refine ⟨⟨i + 1, q, by rw [hwi.out], hi2.out, rfl, ⟨less f k, o ++ [k], y', by rw [EX.out, List.append_assoc]; rfl, by rw [List.length_append, LO.out]; rfl, by rw [less_length, LF.out], by have := less_sum f k HNE.out; have := SF.out; omega, HIS2.out, by have := HQ.out; have := HR2.out; omega, Nat.le_trans (mcl_le HNE.out) HMC.out, ?_⟩⟩, by rw [hwi.out]; exact nat_dec hi2.out⟩
            have h := HO.out.num (j := 0) rfl k (wrap64 ((x : Int) - 1))
            have e : (ints f).set k (wrap64 ((x : Int) - 1)) = ints (less f k) := by rw [hdec.out, less_ints f k x' HXX.out]
            rw [e] at h
            exact h
    · have hil : i = (ints x0).length := Nat.le_antisymm hi (Nat.le_of_not_lt hlt)
      have hy : y = [] := by
        have h1 := is_length HIs.out
        have h2 := SF.out
        have h3 := HLX.out
        rw [ints_length] at hil
        exact List.eq_nil_of_length_eq_zero (by omega)
      subst hy
      have HE := Aside0.mk (show m = rank L x0 from HRK.out)
      clear hil
      go_wp2_with fail
      go_ret2
      exact ⟨by rw [← HE.out]; rfl, HO.out.below⟩
end Go.Proofs.Ytohpboblmmbjnaa.P
