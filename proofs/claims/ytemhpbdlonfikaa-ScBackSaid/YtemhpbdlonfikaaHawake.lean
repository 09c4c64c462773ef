/- ScPlays' own walk. -/
import Derived.Test.YtemhpbdlonfikaaRPlay
import Derived.Test.YtemhpbdlonfikaaVa
import Derived.Test.YtemhpbdlonfikaaTpi
import Derived.Outline
namespace Go.Proofs.Ytemhpbdlonfikaa.P
open Go Go.RowKit Go.Proofs.YtemhpbdlonfikaaW.PrintWords Go.Proofs.YtemhpbdlonfikaaW.PrintLast Go.Proofs.YtemhpbdlonfikaaW.PrintMore

theorem same_is (l : List Int) (h : l.length ≤ 9223372036854775807) : Ev (fun k => weirlaw01_SameInts.f k l l) true := by
  have key : ∀ (d i : Nat), i + d = l.length → Ev (fun k => weirlaw01_SameInts.l0 k l l i) true := by
    intro d
    induction d with
    | zero =>
      intro i hi
      refine Ev.step (f := fun _ => some true) (fun k => ?_) (Ev.now _)
      simp only [weirlaw01_SameInts.l0]
      rw [if_neg (by omega)]
    | succ d ih =>
      intro i hi
      have hw := wrap_nat (k := i) (n := l.length) (by omega) h
      refine Ev.step (fun k => ?_) (ih (i + 1) (by omega))
      simp only [weirlaw01_SameInts.l0]
      rw [if_pos (by omega), if_pos (by omega), if_pos (by omega), if_pos trivial, hw]
  refine Ev.congr (fun k => ?_) (key l.length 0 (by omega))
  simp only [weirlaw01_SameInts.f]
  rw [if_pos trivial]; rfl
theorem lit_C (W : World) (xs : List Int) (h : xs.length ≤ 9223372036854775807) : Kd.C (Kd.int .i64) (W.alloc (.cells (nums .i64 xs).toArray 3)) (some ⟨W.heap.size, 0, none⟩) xs.length xs :=
  (Kd.R_reads' (d := Kd.int .i64) (Kd.R_of_own (ok := fun _ => True) (own_lit W 0 3 .i64 xs (Nat.zero_le _) h) (fun _ _ => trivial))).2.2
theorem size_lt (w : World) (o : Obj) : w.heap.size < (w.alloc o).heap.size := by rw [heap_size_alloc]; omega
theorem put_cells {l : List Int} (hl : l.length ≤ 48) (W : World) (g : Nat) (old : Array Value) (hg : W.heap[g]? = some (.cells old 32 (0, 0))) (ho : old.size = 49) :
    (storeCells ⟨g, 0, none⟩ (finV l)).run Try.prog W = .ok () (W.setRow g (finV l).toArray) := by
  have h := run_storeVar_row (P := Try.prog) W g 32 32 old (finV l).toArray hg (finV_size hl) (by rw [ho, List.size_toArray, finV_length hl]) (finV_one _)
  have hs : (sizeOf 32).run Try.prog W = .ok 49 W := by
    obtain ⟨i0, hi, hz⟩ := Option.map_eq_some_iff.1 info32
    simp [sizeOf, typeInfo, hi, hz]
  have hc : (Value.agg (finV l).toArray).cells.size = 49 := by show (finV l).toArray.size = 49; rw [List.size_toArray, finV_length hl]
  unfold storeVar at h
  simp only [Sem.run_bind, hs, Result.andThen_ok] at h
  rw [if_neg (by rw [hc]; decide)] at h
  exact h
theorem new_cells {l : List Int} (hl : l.length ≤ 48) (W : World) (old : Array Value) (ho : old.size = 49) :
    (storeCells ⟨W.heap.size, 0, none⟩ (finV l)).run Try.prog (W.alloc (.cells old 32)) = .ok () ((W.alloc (.cells old 32)).setRow W.heap.size (finV l).toArray) :=
  put_cells hl _ _ old (heap_alloc_new _ _) ho
theorem new_cellsF {l : List Int} {F : Array Value} (hF : (finV l).toArray = F) (hl : l.length ≤ 48) (W : World) (old : Array Value) (ho : old.size = 49) :
    (storeCells ⟨W.heap.size, 0, none⟩ F.toList).run Try.prog (W.alloc (.cells old 32)) = .ok () ((W.alloc (.cells old 32)).setRow W.heap.size F) := by
  subst hF
  exact new_cells hl W old ho
theorem sizeF {l : List Int} {F : Array Value} (hF : (finV l).toArray = F) (hl : l.length ≤ 48) : F.size = 49 := by rw [← hF, List.size_toArray, finV_length hl]
theorem below_setRow {B : Nat} {w W : World} {g : Nat} {vs : Array Value} (h : Below B w W) (hg : B ≤ g) (hB : B ≤ w.heap.size) : Below B w (W.setRow g vs) := by
  refine h.grown (row := some g) ⟨rfl, rfl, rfl, by unfold World.setRow; simp, fun k hk hne => ?_⟩ (Nat.le_trans hB h.size) (fun k e => by cases e; exact hg)
  unfold World.setRow
  simp only [Array.getElem?_modify]
  rw [if_neg (fun e => hne (by rw [← e]))]
end Go.Proofs.Ytemhpbdlonfikaa.P
/- awake: the document's third example is played. -/
namespace Go.Proofs.Ytemhpbdlonfikaa.P
open Go Go.RowKit Go.Proofs.YtemhpbdlonfikaaW.PrintWords Go.Proofs.YtemhpbdlonfikaaW.PrintLast Go.Proofs.YtemhpbdlonfikaaW.PrintMore

def weirlaw11_awake.f : Option Bool := some true
def opA : S87 := ⟨4, 0, 0, 0, 1⟩
def opB : S87 := ⟨3, 0, 0, 1, 0⟩
def opC : S87 := ⟨4, 0, 0, 1, 1⟩
def opD : S87 := ⟨3, 0, 0, 0, 0⟩
def tEAX : ByteArray := ⟨#[69, 65, 88]⟩
def exP : Pg := ⟨[[opA, opB], [opC, opD]], [[tEAX], [tEAX]], [⟨#[120]⟩, ⟨#[121]⟩], [[0], [0]], [0, 0]⟩
theorem ex_play : playM exP 0 [0, 0, 1, 1] = ([0, 1, 1, 1], 0) := by decide +kernel
theorem Ev.one {α : Type} {g : Nat → Option α} {a b : α} (h : Ev g a) (k : Ev g b) : a = b := by
  obtain ⟨K, hK⟩ := h
  obtain ⟨L, hL⟩ := k
  have h1 := hK (max K L) (Nat.le_max_left _ _)
  have h2 := hL (max K L) (Nat.le_max_right _ _)
  rw [h1] at h2
  exact Option.some.inj h2
theorem ex_name (s : ByteArray) (hs : s.size ≤ 140737488351232) (h : lexis_Name.f 20 s = some true) : nameB s = true := Ev.one (nameB_is s hs).1 (Ev.of (fun k => lexis_Name.mono s k) h)
theorem ex_nam : namM exP = true := by
  unfold namM
  have h : allR (fun i => nameB (tx exP.lo i)) 0 exP.lo.length = true := List.all_eq_true.2 fun j hj => by
    have hj2 := List.mem_range.1 hj
    match j, hj2 with
    | 0, _ => exact ex_name ⟨#[120]⟩ (by decide) (by decide +kernel)
    | 1, _ => exact ex_name ⟨#[121]⟩ (by decide) (by decide +kernel)
  rw [h]
  decide +kernel
theorem ex_valid : validM exP = 0 := by
  unfold validM
  rw [if_neg (by decide), if_pos (by decide)]
  unfold regM
  rw [if_pos (by decide +kernel)]
  unfold sizeM
  rw [if_pos (by decide +kernel)]
  unfold lateM
  rw [ex_nam, if_pos rfl]
  decide +kernel
theorem C_blk {α : Type} {d : Kd α} {W : World} {g : Nat} {t : TypeId} {cells : Array Value} {xs : List α} (h : W.heap[g]? = some (.cells cells t (0, 0))) (hl : xs.length ≤ 1000)
    (hx : ∀ j p, xs[j]? = some p → ∃ cs, cs.length = d.sz ∧ d.K W p cs ∧ ∀ i u, cs[i]? = some u → cells[j * d.sz + i]? = some u) : Kd.C d W (some ⟨g, 0, none⟩) xs.length xs := by
  refine ⟨rfl, by omega, fun _ => ⟨_, rfl, fun j p hj => ?_⟩⟩
  obtain ⟨cs, h0, h1, h2⟩ := hx j p hj
  refine ⟨cs, h0, h1, fun i u hu => ?_⟩
  show W.cell? (Addr.add ⟨g, 0, none⟩ (j * d.sz + i)) = _
  rw [add_plain]
  exact (blk_cell h _).trans (h2 i u hu)
/-- Two elements of one cell each. -/
theorem C_pair {α : Type} {d : Kd α} (hd : d.sz = 1) {W : World} {g : Nat} {t : TypeId} {x y : α} {u v : Value} (h : W.heap[g]? = some (.cells #[u, v] t (0, 0))) (hx : d.K W x [u]) (hy : d.K W y [v]) : Kd.C d W (some ⟨g, 0, none⟩) 2 [x, y] :=
  C_blk (xs := [x, y]) h (by simp) fun j p hj => by
    match j, hj with
    | 0, hj =>
      obtain rfl : x = p := Option.some.inj hj
      refine ⟨[u], hd.symm, hx, fun i z hz => ?_⟩
      match i, hz with
      | 0, hz => rw [Nat.zero_mul]; exact hz
    | 1, hj =>
      obtain rfl : y = p := Option.some.inj hj
      refine ⟨[v], hd.symm, hy, fun i z hz => ?_⟩
      match i, hz with
      | 0, hz => rw [hd]; exact hz
theorem C_one {α : Type} {d : Kd α} (hd : d.sz = 1) {W : World} {g : Nat} {t : TypeId} {x : α} {u : Value} (h : W.heap[g]? = some (.cells #[u] t (0, 0))) (hx : d.K W x [u]) : Kd.C d W (some ⟨g, 0, none⟩) 1 [x] :=
  C_blk (xs := [x]) h (by simp) fun j p hj => by
    match j, hj with
    | 0, hj =>
      obtain rfl : x = p := Option.some.inj hj
      refine ⟨[u], hd.symm, hx, fun i z hz => ?_⟩
      match i, hz with
      | 0, hz => rw [Nat.zero_mul]; exact hz
def opCells (o : S87) : List Value := [.int .i64 o.f0, .int .i64 o.f1, .int .i64 o.f2, .int .i64 o.f3, .int .i64 o.f4]
theorem C_ops {W : World} {g : Nat} {t : TypeId} {x y : S87} (h : W.heap[g]? = some (.cells (opCells x ++ opCells y).toArray t (0, 0))) : Kd.C k87 W (some ⟨g, 0, none⟩) 2 [x, y] :=
  C_blk (xs := [x, y]) h (by simp) fun j p hj => by
    match j, hj with
    | 0, hj =>
      obtain rfl : x = p := Option.some.inj hj
      refine ⟨opCells x, rfl, k87_mk _ _, fun i z hz => ?_⟩
      rw [Nat.zero_mul, Nat.zero_add, List.getElem?_toArray, List.getElem?_append_left (List.getElem?_eq_some_iff.1 hz).1]; exact hz
    | 1, hj =>
      obtain rfl : y = p := Option.some.inj hj
      refine ⟨opCells y, rfl, k87_mk _ _, fun i z hz => ?_⟩
      have e : (1 : Nat) * k87.sz = (opCells x).length := rfl
      rw [e, List.getElem?_toArray, List.getElem?_append_right (by omega), Nat.add_sub_cancel_left]; exact hz
theorem alloc_at (w : World) (o : Obj) (n : Nat) (h : w.heap.size = n) : (w.alloc o).heap[n]? = some o := by subst h; exact heap_alloc_new w o

theorem row_cellF {l : List Int} {F o : Array Value} {i : Nat} {v : Value} (hF : (finV l).toArray = F) (w : World) (h : (finV l).toArray[i]? = some v) : ((w.alloc (.cells o 32)).setRow w.heap.size F).cell? ⟨w.heap.size, i, none⟩ = some v := by
  subst hF
  exact (blk_cell (setRow_heap _ _ _ _ _ _ (heap_alloc_new w (.cells o 32))) _).trans h
theorem fin4_0 : (finV [0, 1, 1, 1]).toArray[0]? = some (.int .i64 4) := by kernel_rfl
theorem fin4_1 : (finV [0, 1, 1, 1]).toArray[1]? = some (.int .i64 0) := by kernel_rfl
theorem fin4_2 : (finV [0, 1, 1, 1]).toArray[2]? = some (.int .i64 1) := by kernel_rfl
theorem fin4_3 : (finV [0, 1, 1, 1]).toArray[3]? = some (.int .i64 1) := by kernel_rfl
theorem fin4_4 : (finV [0, 1, 1, 1]).toArray[4]? = some (.int .i64 1) := by kernel_rfl
theorem awake_box {F : Array Value} (hF : (finV [0, 1, 1, 1]).toArray = F) (w6 : World) : ∃ W8, (storeCells ⟨w6.heap.size, 0, none⟩ F.toList).run Try.prog (w6.alloc (.cells #[.int .i64 0, .int .i64 0, .int .i64 0, .int .i64 0, .int .i64 0, .int .i64 0, .int .i64 0, .int .i64 0, .int .i64 0, .int .i64 0, .int .i64 0, .int .i64 0, .int .i64 0, .int .i64 0, .int .i64 0, .int .i64 0, .int .i64 0, .int .i64 0, .int .i64 0, .int .i64 0, .int .i64 0, .int .i64 0, .int .i64 0, .int .i64 0, .int .i64 0, .int .i64 0, .int .i64 0, .int .i64 0, .int .i64 0, .int .i64 0, .int .i64 0, .int .i64 0, .int .i64 0, .int .i64 0, .int .i64 0, .int .i64 0, .int .i64 0, .int .i64 0, .int .i64 0, .int .i64 0, .int .i64 0, .int .i64 0, .int .i64 0, .int .i64 0, .int .i64 0, .int .i64 0, .int .i64 0, .int .i64 0, .int .i64 0] 32)) = .ok () W8 ∧ Below w6.heap.size w6 W8 ∧ W8.cell? ⟨w6.heap.size, 0, none⟩ = some (.int .i64 4) ∧ W8.cell? ⟨w6.heap.size, 1, none⟩ = some (.int .i64 0) ∧ W8.cell? ⟨w6.heap.size, 2, none⟩ = some (.int .i64 1) ∧ W8.cell? ⟨w6.heap.size, 3, none⟩ = some (.int .i64 1) ∧ W8.cell? ⟨w6.heap.size, 4, none⟩ = some (.int .i64 1) :=
  ⟨(w6.alloc (.cells #[.int .i64 0, .int .i64 0, .int .i64 0, .int .i64 0, .int .i64 0, .int .i64 0, .int .i64 0, .int .i64 0, .int .i64 0, .int .i64 0, .int .i64 0, .int .i64 0, .int .i64 0, .int .i64 0, .int .i64 0, .int .i64 0, .int .i64 0, .int .i64 0, .int .i64 0, .int .i64 0, .int .i64 0, .int .i64 0, .int .i64 0, .int .i64 0, .int .i64 0, .int .i64 0, .int .i64 0, .int .i64 0, .int .i64 0, .int .i64 0, .int .i64 0, .int .i64 0, .int .i64 0, .int .i64 0, .int .i64 0, .int .i64 0, .int .i64 0, .int .i64 0, .int .i64 0, .int .i64 0, .int .i64 0, .int .i64 0, .int .i64 0, .int .i64 0, .int .i64 0, .int .i64 0, .int .i64 0, .int .i64 0, .int .i64 0] 32)).setRow w6.heap.size F, new_cellsF hF (by decide) w6 _ (by kernel_rfl), below_setRow (below_alloc (Below.refl _ _) _) (Nat.le_refl _) (Nat.le_refl _), row_cellF hF w6 fin4_0, row_cellF hF w6 fin4_1, row_cellF hF w6 fin4_2, row_cellF hF w6 fin4_3, row_cellF hF w6 fin4_4⟩
theorem awake_play {W : World} {px : Array Value} (hp : PgV W px.toList exP) (hv : Ev (fun k => prog_Valid.f k exP.th exP.rg exP.lo exP.r0 exP.m0) 0) :
    Calls Try.prog 9 #[.agg px, .slice (some ⟨W.heap.size, 0, none⟩) 4 4] (W.alloc (.cells #[.int .i64 0, .int .i64 0, .int .i64 1, .int .i64 1] 3)) fun e W' => e = .returned (.tuple #[.agg (finV [0, 1, 1, 1]).toArray, .int .i64 0]) ∧ Below (W.alloc (.cells #[.int .i64 0, .int .i64 0, .int .i64 1, .int .i64 1] 3)).heap.size (W.alloc (.cells #[.int .i64 0, .int .i64 0, .int .i64 1, .int .i64 1] 3)) W' := by
  have h := sc_Play.calls (order := [0, 0, 1, 1]) (co := 4) (hp.below (below_alloc (Below.refl W.heap.size W) (.cells #[.int .i64 0, .int .i64 0, .int .i64 1, .int .i64 1] 3))) hv (fun _ => valid_right ex_valid) (lit_C W [0, 0, 1, 1] (by decide))
  rw [ex_play] at h
  exact h
set_option maxHeartbeats 8000000 in
set_option maxRecDepth 100000 in
theorem weirlaw11_awake.calls (r : Bool) (w : World) (h : weirlaw11_awake.f = some r) : Calls Try.prog 32 #[] w fun e w' => e = .returned (.bool r) ∧ Below w.heap.size w w' := by
  obtain rfl : true = r := Option.some.inj h
  clear h
  have hu28 := Try.underlying28
  have hu32 := Try.underlying32
  have hu87 := Try.underlying87
  go_enter Try.func32, Try.ntmps32
  go_upto_region 2 with fail
  generalize hW : World.alloc _ _ = W
  have a0 : Aside0 (W.heap[w.heap.size]? = some (.cells (opCells opA ++ opCells opB).toArray 87 (0, 0))) := ⟨by rw [← hW]; (iterate 11 refine blk_alloc ?_ _); exact alloc_at _ _ _ (by simp)⟩
  have a1 : Aside0 (W.heap[w.heap.size + 1]? = some (.cells (opCells opC ++ opCells opD).toArray 87 (0, 0))) := ⟨by rw [← hW]; (iterate 10 refine blk_alloc ?_ _); exact alloc_at _ _ _ (by simp)⟩
  have a2 : Aside0 (W.heap[w.heap.size + 1 + 1]? = some (.cells #[.slice (some ⟨w.heap.size, 0, none⟩) 2 2, .slice (some ⟨w.heap.size + 1, 0, none⟩) 2 2] 85 (0, 0))) := ⟨by rw [← hW]; (iterate 9 refine blk_alloc ?_ _); exact alloc_at _ _ _ (by simp)⟩
  have a3 : Aside0 (W.heap[w.heap.size + 1 + 1 + 1]? = some (.cells #[.string tEAX] 9 (0, 0))) := ⟨by rw [← hW]; (iterate 8 refine blk_alloc ?_ _); exact alloc_at _ _ _ (by simp)⟩
  have a4 : Aside0 (W.heap[w.heap.size + 1 + 1 + 1 + 1]? = some (.cells #[.string tEAX] 9 (0, 0))) := ⟨by rw [← hW]; (iterate 7 refine blk_alloc ?_ _); exact alloc_at _ _ _ (by simp)⟩
  have a5 : Aside0 (W.heap[w.heap.size + 1 + 1 + 1 + 1 + 1]? = some (.cells #[.slice (some ⟨w.heap.size + 1 + 1 + 1, 0, none⟩) 1 1, .slice (some ⟨w.heap.size + 1 + 1 + 1 + 1, 0, none⟩) 1 1] 24 (0, 0))) := ⟨by rw [← hW]; (iterate 6 refine blk_alloc ?_ _); exact alloc_at _ _ _ (by simp)⟩
  have a6 : Aside0 (W.heap[w.heap.size + 1 + 1 + 1 + 1 + 1 + 1]? = some (.cells #[.string ⟨#[120]⟩, .string ⟨#[121]⟩] 9 (0, 0))) := ⟨by rw [← hW]; (iterate 5 refine blk_alloc ?_ _); exact alloc_at _ _ _ (by simp)⟩
  have a7 : Aside0 (W.heap[w.heap.size + 1 + 1 + 1 + 1 + 1 + 1 + 1]? = some (.cells #[.int .i64 0] 2 (0, 0))) := ⟨by rw [← hW]; (iterate 4 refine blk_alloc ?_ _); exact alloc_at _ _ _ (by simp)⟩
  have a8 : Aside0 (W.heap[w.heap.size + 1 + 1 + 1 + 1 + 1 + 1 + 1 + 1]? = some (.cells #[.int .i64 0] 2 (0, 0))) := ⟨by rw [← hW]; (iterate 3 refine blk_alloc ?_ _); exact alloc_at _ _ _ (by simp)⟩
  have a9 : Aside0 (W.heap[w.heap.size + 1 + 1 + 1 + 1 + 1 + 1 + 1 + 1 + 1]? = some (.cells #[.slice (some ⟨w.heap.size + 1 + 1 + 1 + 1 + 1 + 1 + 1, 0, none⟩) 1 1, .slice (some ⟨w.heap.size + 1 + 1 + 1 + 1 + 1 + 1 + 1 + 1, 0, none⟩) 1 1] 26 (0, 0))) := ⟨by rw [← hW]; (iterate 2 refine blk_alloc ?_ _); exact alloc_at _ _ _ (by simp)⟩
  have a10 : Aside0 (W.heap[w.heap.size + 1 + 1 + 1 + 1 + 1 + 1 + 1 + 1 + 1 + 1]? = some (.cells #[.int .i64 0, .int .i64 0] 2 (0, 0))) := ⟨by rw [← hW]; (iterate 1 refine blk_alloc ?_ _); exact alloc_at _ _ _ (by simp)⟩
  obtain ⟨px, hpx⟩ : ∃ px : Array Value, px = #[.slice (some ⟨w.heap.size + 1 + 1, 0, none⟩) 2 2, .slice (some ⟨w.heap.size + 1 + 1 + 1 + 1 + 1, 0, none⟩) 2 2, .slice (some ⟨w.heap.size + 1 + 1 + 1 + 1 + 1 + 1, 0, none⟩) 2 2, .slice (some ⟨w.heap.size + 1 + 1 + 1 + 1 + 1 + 1 + 1 + 1 + 1, 0, none⟩) 2 2, .slice (some ⟨w.heap.size + 1 + 1 + 1 + 1 + 1 + 1 + 1 + 1 + 1 + 1, 0, none⟩) 2 2] := ⟨_, rfl⟩
  have ab : W.heap[w.heap.size + 1 + 1 + 1 + 1 + 1 + 1 + 1 + 1 + 1 + 1 + 1]? = some (.cells px 28 (0, 0)) := by rw [← hW, hpx]; exact alloc_at _ _ _ (by simp)
  have HBW : Aside0 (Below w.heap.size w W) := ⟨by rw [← hW]; repeat (first | exact Below.refl _ _ | refine below_alloc ?_ _)⟩
  clear hW
  have HPX := Aside0.mk hpx
  have HIP := Aside0.mk (show (Try.prog.info? 28).map (·.size) = some px.size by rw [hpx]; kernel_rfl)
  have HPV : Aside0 (PgV W px.toList exP) := ⟨by
    rw [hpx]
    exact ⟨_, _, _, _, _, 2, 2, 2, 2, 2, rfl, C_pair rfl a2.out ⟨_, _, rfl, Nat.le_refl _, C_ops a0.out⟩ ⟨_, _, rfl, Nat.le_refl _, C_ops a1.out⟩, Nat.le_refl _,
      C_pair rfl a5.out ⟨_, _, rfl, Nat.le_refl _, C_one rfl a3.out rfl⟩ ⟨_, _, rfl, Nat.le_refl _, C_one rfl a4.out rfl⟩, Nat.le_refl _, C_pair rfl a6.out rfl rfl, Nat.le_refl _,
      C_pair rfl a9.out ⟨_, _, rfl, Nat.le_refl _, C_one rfl a7.out rfl⟩ ⟨_, _, rfl, Nat.le_refl _, C_one rfl a8.out rfl⟩, Nat.le_refl _, C_pair rfl a10.out rfl rfl, Nat.le_refl _⟩⟩
  clear a0 a1 a2 a3 a4 a5 a6 a7 a8 a9 a10 hpx
  obtain ⟨gp, hgp⟩ : ∃ g, w.heap.size + 1 + 1 + 1 + 1 + 1 + 1 + 1 + 1 + 1 + 1 + 1 = g := ⟨_, rfl⟩
  rw [hgp] at ab ⊢
  clear hgp
  obtain ⟨F, hF⟩ : ∃ F, (finV [0, 1, 1, 1]).toArray = F := ⟨_, rfl⟩
  have HFF := Aside0.mk hF
  clear hF
  have HVV : Aside0 (Ev (fun k => prog_Valid.f k exP.th exP.rg exP.lo exP.r0 exP.m0) 0) := ⟨by
    have h := valid_prog (vsz_of (p := exP) (by decide) (by decide) (by decide) (by decide) (by decide) (by decide))
    rw [ex_valid] at h
    exact h⟩
  go_wp2_with (first
    | (refine wpList_load_row rfl 28 (.tmp 1) rfl gp rfl 28 px (0, 0) _ ab hu28 rfl HIP.out ?_)
    | (go_at_call 9; go_loud ((with_reducible refine (awake_play (W := W) (px := px) HPV.out HVV.out).mono ?_); rintro e w6 ⟨rfl, hb6⟩; rw [HFF.out]; have HB6 := Aside0.mk hb6; obtain ⟨W8, hst2, hb8, hc0, hc1, hc2, hc3, hc4⟩ := awake_box HFF.out w6; have HB8 := Aside0.mk hb8; have hfs := sizeF HFF.out (by decide); clear hb6 hb8)))
  go_ret
  exact ⟨rfl, below_then HBW.out HBW.out.size (below_then (below_then (below_alloc (Below.refl W.heap.size W) _) (Nat.le_of_lt (size_lt W _)) HB6.out) (Nat.le_trans (Nat.le_of_lt (size_lt W _)) HB6.out.size) HB8.out)⟩
end Go.Proofs.Ytemhpbdlonfikaa.P
