/- ScPlays' own walk. -/
import Derived.Test.YtemhpbdlonfikaaRPlay
import Derived.Test.YtemhpbdlonfikaaEq
namespace Go.Proofs.Ytemhpbdlonfikaa.P
open Go Go.RowKit Go.Proofs.YtemhpbdlonfikaaW.PrintWords Go.Proofs.YtemhpbdlonfikaaW.PrintLast Go.Proofs.YtemhpbdlonfikaaW.PrintMore

theorem same_is (l : List Int) (h : l.length ≤ 9223372036854775807) : Ev (fun k => weirlaw01_SameInts.f k l l) true := by
  have key : ∀ (d i : Nat), i + d = l.length → Ev (fun k => weirlaw01_SameInts.l0 k l l i) true := by
    intro d
    induction d with
    | zero =>
      intro i hi
      refine Ev.step (f := fun _ => some true) (fun k => ?_) (Ev.now _)
      simp only [weirlaw01_SameInts.l0]
      rw [if_neg (by omega)]
    | succ d ih =>
      intro i hi
      have hw := wrap_nat (k := i) (n := l.length) (by omega) h
      refine Ev.step (fun k => ?_) (ih (i + 1) (by omega))
      simp only [weirlaw01_SameInts.l0]
      rw [if_pos (by omega), if_pos (by omega), if_pos (by omega), if_pos trivial, hw]
  refine Ev.congr (fun k => ?_) (key l.length 0 (by omega))
  simp only [weirlaw01_SameInts.f]
  rw [if_pos trivial]; rfl
theorem same_call {w : World} {A B : Option Addr} {c d : Nat} {l : List Int} (ha : Kd.C (Kd.int .i64) w A l.length l) (hc : l.length ≤ c) (hb : Kd.C (Kd.int .i64) w B l.length l) (hd : l.length ≤ d) :
    Calls Try.prog 11 #[.slice A l.length c, .slice B l.length d] w fun e W' => e = .returned (.bool true) ∧ Below w.heap.size w W' := by
  obtain ⟨K, hK⟩ := (same_is l (Kd.C_max ha)).rounds
  exact (weirlaw01_SameInts.calls K A c l B d l true w ha hc hb hd hK).mono fun e W' h => ⟨h.1, h.2.below⟩

theorem lit_C (W : World) (xs : List Int) (h : xs.length ≤ 9223372036854775807) : Kd.C (Kd.int .i64) (W.alloc (.cells (nums .i64 xs).toArray 3)) (some ⟨W.heap.size, 0, none⟩) xs.length xs :=
  (Kd.R_reads' (d := Kd.int .i64) (Kd.R_of_own (ok := fun _ => True) (own_lit W 0 3 .i64 xs (Nat.zero_le _) h) (fun _ _ => trivial))).2.2
theorem len_fit {l : List Int} (h : l.length < 17592186044416) : (([] : List Int).length + l.length) * 8 ≤ 140737488355328 := by simp; omega
theorem len_fit1 {l : List Int} (h : l.length < 17592186044416) : (([] ++ l).length + [(66 : Int)].length) * 8 ≤ 140737488355328 := by simp; omega
theorem Bag.grownC {w W W' : World} {cells : List (Nat × TypeId × Array Value)} (h : Bag w [] cells W) {row : Option Nat} (hg : W.grownBy W' row) (hr : ∀ k, row = some k → w.heap.size ≤ k ∧ ∀ c ∈ cells, c.1 ≠ k) : Bag w [] cells W' :=
  ⟨by simp, by simp, fun c hc => ⟨(h.cell c hc).1, (hg.block c.1 (h.cell_lt hc) (fun e => (hr _ e.symm).2 c hc rfl)).trans (h.cell c hc).2⟩, by simp, h.below.grown hg h.below.size (fun k e => (hr k e).1)⟩
theorem size_lt (w : World) (o : Obj) : w.heap.size < (w.alloc o).heap.size := by rw [heap_size_alloc]; omega
theorem row_from {v : Value} {u : Option Nat} {a n : Nat} (hu : u = some a) (hat : v.ownBlock = u ∨ ∃ b, v.ownBlock = some b ∧ n ≤ b) (hn : a ≤ n) : ∀ k, v.ownBlock = some k → a ≤ k := fun k hk => by
  rcases hat with h | ⟨b, h1, h2⟩
  · rw [h, hu] at hk
    exact Nat.le_of_eq (Option.some.inj hk)
  · rw [h1] at hk
    have := Option.some.inj hk
    omega
theorem new_store {l : List Int} (hl : l.length ≤ 48) (W : World) (old : Array Value) (ho : old.size = 49) :
    (storeVar 32 ⟨W.heap.size, 0, none⟩ (.agg (finV l).toArray)).run Try.prog (W.alloc (.cells old 32)) = .ok () ((W.alloc (.cells old 32)).setRow W.heap.size (finV l).toArray) :=
  run_storeVar_row _ _ 32 32 old _ (heap_alloc_new _ _) (finV_size hl) (by rw [ho, List.size_toArray, finV_length hl]) (finV_one _)
theorem put_cells {l : List Int} (hl : l.length ≤ 48) (W : World) (g : Nat) (old : Array Value) (hg : W.heap[g]? = some (.cells old 32 (0, 0))) (ho : old.size = 49) :
    (storeCells ⟨g, 0, none⟩ (finV l)).run Try.prog W = .ok () (W.setRow g (finV l).toArray) := by
  have h := run_storeVar_row (P := Try.prog) W g 32 32 old (finV l).toArray hg (finV_size hl) (by rw [ho, List.size_toArray, finV_length hl]) (finV_one _)
  have hs : (sizeOf 32).run Try.prog W = .ok 49 W := by
    obtain ⟨i0, hi, hz⟩ := Option.map_eq_some_iff.1 info32
    simp [sizeOf, typeInfo, hi, hz]
  have hc : (Value.agg (finV l).toArray).cells.size = 49 := by show (finV l).toArray.size = 49; rw [List.size_toArray, finV_length hl]
  unfold storeVar at h
  simp only [Sem.run_bind, hs, Result.andThen_ok] at h
  rw [if_neg (by rw [hc]; decide)] at h
  exact h
theorem new_cells {l : List Int} (hl : l.length ≤ 48) (W : World) (old : Array Value) (ho : old.size = 49) :
    (storeCells ⟨W.heap.size, 0, none⟩ (finV l)).run Try.prog (W.alloc (.cells old 32)) = .ok () ((W.alloc (.cells old 32)).setRow W.heap.size (finV l).toArray) :=
  put_cells hl _ _ old (heap_alloc_new _ _) ho
theorem new_cellsF {l : List Int} {F : Array Value} (hF : (finV l).toArray = F) (hl : l.length ≤ 48) (W : World) (old : Array Value) (ho : old.size = 49) :
    (storeCells ⟨W.heap.size, 0, none⟩ F.toList).run Try.prog (W.alloc (.cells old 32)) = .ok () ((W.alloc (.cells old 32)).setRow W.heap.size F) := by
  subst hF
  exact new_cells hl W old ho
theorem sizeF {l : List Int} {F : Array Value} (hF : (finV l).toArray = F) (hl : l.length ≤ 48) : F.size = 49 := by rw [← hF, List.size_toArray, finV_length hl]
theorem below_setRow {B : Nat} {w W : World} {g : Nat} {vs : Array Value} (h : Below B w W) (hg : B ≤ g) (hB : B ≤ w.heap.size) : Below B w (W.setRow g vs) := by
  refine h.grown (row := some g) ⟨rfl, rfl, rfl, by unfold World.setRow; simp, fun k hk hne => ?_⟩ (Nat.le_trans hB h.size) (fun k e => by cases e; exact hg)
  unfold World.setRow
  simp only [Array.getElem?_modify]
  rw [if_neg (fun e => hne (by rw [← e]))]
theorem lt_l1 {n : Nat} {l : List Int} (h : l.length = n + 1) : (n : Int) < (l.length : Int) := by omega
theorem rd_last (l : List Int) (x : Int) : rd (l ++ [x]) (l.length : Int) = x := by
  unfold rd
  rw [Int.toNat_natCast, List.getD_eq_getElem?_getD, List.getElem?_append_right (Nat.le_refl _), Nat.sub_self]; rfl
/-- The head of a row. -/
theorem C_take {W : World} {A : Option Addr} {xs ys : List Int} (h : Kd.C (Kd.int .i64) W A (xs ++ ys).length (xs ++ ys)) : Kd.C (Kd.int .i64) W A xs.length xs := by
  have hl : xs.length ≤ (xs ++ ys).length := by rw [List.length_append]; omega
  refine ⟨rfl, Nat.le_trans hl (Kd.C_max h), fun hn => ?_⟩
  obtain ⟨ad, e, hc⟩ := h.2.2 (by omega)
  exact ⟨ad, e, fun j p hj => hc j p (by rw [List.getElem?_append_left (List.getElem?_eq_some_iff.1 hj).1]; exact hj)⟩

set_option maxHeartbeats 8000000 in
set_option maxRecDepth 100000 in
theorem scPlays_walk {w : World} {p : Pg} {pv : List Value} {r : Int} {Ao : Option Addr} {co : Nat} {order : List Int} (hp : PgV w pv p) (hv : Ev (fun k => prog_Valid.f k p.th p.rg p.lo p.r0 p.m0) r) (hv2 : Ev (fun k => weirref09_Valid.f k p.th p.rg p.lo p.r0 p.m0) r) (hR : r = 0 → RightPg p ∧ SmallPg p)
    (ho : Kd.C (Kd.int .i64) w Ao order.length order) (hoc : order.length ≤ co) (hol : order.length < 17592186044416) :
    Calls Try.prog 3 #[.agg pv.toArray, .slice Ao order.length co] w fun e W' => e = .returned (.bool true) ∧ Below w.heap.size w W' := by
  have HP := Aside0.mk hp
  have HV := Aside0.mk hv
  have HV2 := Aside0.mk hv2
  have HO := Aside0.mk ho
  have HR := Aside0.mk hR
  have HOL := Aside0.mk hol
  have HOC := Aside0.mk hoc
  obtain ⟨A0, A1, A2, A3, A4, c0, c1, c2, c3, c4, rfl, _⟩ := hp
  clear hv hv2 ho hR hol hoc
  have hu28 := Try.underlying28
  have hu32 := Try.underlying32
  obtain ⟨px, hpx⟩ : ∃ px : Array Value, px = #[.slice A0 p.th.length c0, .slice A1 p.rg.length c1, .slice A2 p.lo.length c2, .slice A3 p.r0.length c3, .slice A4 p.m0.length c4] := ⟨_, rfl⟩
  have hb0 := (Bag.nil w).fresh 28 #[.slice A0 p.th.length c0, .slice A1 p.rg.length c1, .slice A2 p.lo.length c2, .slice A3 p.r0.length c3, .slice A4 p.m0.length c4]
  have HB0 := Aside0.mk hb0
  have HIP := Aside0.mk (show (Try.prog.info? 28).map (·.size) = some px.size by rw [hpx]; kernel_rfl)
  have HPX := Aside0.mk hpx
  clear hb0
  go_enter Try.func3, Try.ntmps3
  go_upto_region 1 with fail
  generalize hW : World.alloc w _ = W3
  have HB : Aside0 (Bag w [] [(w.heap.size, 28, px)] W3) := ⟨by rw [← hW, hpx]; exact HB0.out⟩
  clear hW HB0 hpx
  obtain ⟨l1, hl1⟩ : ∃ l1, order ++ [66] = l1 := ⟨_, rfl⟩
  have HL1 := Aside0.mk hl1
  clear hl1
  have hz3 := HB.out.below.size
  go_upto_region 2 with (first
    | ((with_reducible refine gate_builtin (b := .append) (xs := #[.tmp 10, .tmp 11]) rfl ?_); at_builtin; refine Kd.R_append_rows (Kd.int .i64) (w0 := w) w.heap.size rfl (.tmp 10) (.tmp 11) 29 3 (.int .i64 0) 8 rfl Try.underlying29 info3 rfl (by decide) (by omega) (.slice (some ⟨W3.heap.size, 0, none⟩) 0 0) [] order _ _ _ (fun _ => True) (fun _ => False) rfl rfl ?aO ?aR (fun _ _ h => h) (fun _ h => h.elim) (fun _ _ => trivial) ?aB ?aS ?aL ?_; (case aO => exact Kd.R_of_own (own_lit W3 _ 3 .i64 [] hz3 (by decide)) (fun _ _ => trivial)); (case aR => exact Kd.C_below HO.out (below_alloc HB.out.below _)); (case aB => exact below_alloc HB.out.below _); (case aS => exact (below_alloc HB.out.below _).size); (case aL => exact len_fit HOL.out); intro v4 w4 hR4 hB4 hg4 hat4; have HR4 := Aside0.mk hR4; have HB4 := Aside0.mk hB4; have hrow4 := row_from (a := W3.heap.size) rfl hat4 (Nat.le_of_lt (size_lt W3 _)); have HW4 := Aside0.mk hrow4; have HG4 := Aside0.mk ((HB.out.later (below_alloc (Below.refl _ W3) _)).grownC hg4 (fun k hk => by have h3 : W3.heap.size = k := Option.some.inj hk; subst h3; exact ⟨hz3, fun c hc => Nat.ne_of_lt (HB.out.cell_lt hc)⟩)); clear hR4 hg4 hat4 hB4 hrow4)
    | ((with_reducible refine gate_builtin (b := .append) (xs := #[.tmp 12, .tmp 13]) rfl ?_); at_builtin; refine Kd.R_append_rows (Kd.int .i64) (w0 := w) w.heap.size rfl (.tmp 12) (.tmp 13) 29 3 (.int .i64 0) 8 rfl Try.underlying29 info3 rfl (by decide) (by omega) v4 ([] ++ order) [66] _ _ _ (fun _ => True) (fun _ => False) rfl rfl ?aO ?aR (fun _ _ h => h) (fun _ h => h.elim) (fun _ _ => trivial) ?aB ?aS ?aL ?_; (case aO => exact Kd.R_alloc HR4.out _); (case aR => exact lit_C w4 [66] (by simp)); (case aB => exact below_alloc HB4.out _); (case aS => exact (below_alloc HB4.out _).size); (case aL => exact len_fit1 HOL.out); intro v5 w5 hR5 hB5 hg5 hat5; rw [List.nil_append, HL1.out] at hR5; obtain ⟨A5, c5, rfl, hc5, hC5⟩ := Kd.R_reads hR5; have HC5 := Aside0.mk hC5; have HB5 := Aside0.mk hB5; have HCC := Aside0.mk hc5; have HG5 := Aside0.mk ((HG4.out.later (below_alloc (Below.refl _ w4) _)).grownC hg5 (fun k hk => ⟨Nat.le_trans hz3 (HW4.out k hk), fun c hc => Nat.ne_of_lt (Nat.lt_of_lt_of_le (HB.out.cell_lt hc) (HW4.out k hk))⟩)); clear hR5 hB5 hg5 hat5 hC5 hc5))
  have hl1 : l1.length = order.length + 1 := by rw [← HL1.out]; simp
  have hcap : order.length ≤ c5 := Nat.le_trans (by omega) HCC.out
  obtain ⟨a5, rfl⟩ : ∃ a, A5 = some a := by
    obtain ⟨a, ha, _⟩ := HC5.out.2.2 (by omega)
    exact ⟨a, ha⟩
  have hCo : Kd.C (Kd.int .i64) w5 (some a5) order.length order := by
    have h := HC5.out
    rw [← HL1.out] at h
    exact C_take h
  have HCO := Aside0.mk hCo
  have p0 := (HG5.out.cellOf List.mem_cons_self 0 (.slice A0 p.th.length c0) (by show px[0]? = _; rw [HPX.out]; rfl)).1
  have p1 := (HG5.out.cellOf List.mem_cons_self 1 (.slice A1 p.rg.length c1) (by show px[1]? = _; rw [HPX.out]; rfl)).1
  have p2 := (HG5.out.cellOf List.mem_cons_self 2 (.slice A2 p.lo.length c2) (by show px[2]? = _; rw [HPX.out]; rfl)).1
  have p3 := (HG5.out.cellOf List.mem_cons_self 3 (.slice A3 p.r0.length c3) (by show px[3]? = _; rw [HPX.out]; rfl)).1
  have p4 := (HG5.out.cellOf List.mem_cons_self 4 (.slice A4 p.m0.length c4) (by show px[4]? = _; rw [HPX.out]; rfl)).1
  have KP : Aside0 (∀ W', Below w5.heap.size w5 W' → (W'.cell? ⟨w.heap.size, 0, none⟩ = some (.slice A0 p.th.length c0) ∧ W'.cell? ⟨w.heap.size, 1, none⟩ = some (.slice A1 p.rg.length c1) ∧ W'.cell? ⟨w.heap.size, 2, none⟩ = some (.slice A2 p.lo.length c2) ∧ W'.cell? ⟨w.heap.size, 3, none⟩ = some (.slice A3 p.r0.length c3) ∧ W'.cell? ⟨w.heap.size, 4, none⟩ = some (.slice A4 p.m0.length c4))) :=
    ⟨fun W' hb => ⟨pw_cell_below hb p0, pw_cell_below hb p1, pw_cell_below hb p2, pw_cell_below hb p3, pw_cell_below hb p4⟩⟩
  clear hl1 hCo hz3
  obtain ⟨F, hF⟩ : ∃ F, (finV (playM p r order).1).toArray = F := ⟨_, rfl⟩
  have HFF := Aside0.mk hF
  clear hF
  go_cut [6, 7] (fun v u wx => ∃ g : Nat, v = .pointer (some ⟨g, 0, none⟩) ∧ u = .int .i64 (playM p r order).2 ∧ Aside0 (Below w5.heap.size w5 wx) ∧ Aside0 (wx.heap[g]? = some (.cells F 32 (0, 0))) ∧ Aside0 (w5.heap.size ≤ g))
  case first =>
    go_region_held3 (fun w' : World => w'.cell? ⟨w.heap.size, 0, none⟩ = some (.slice A0 p.th.length c0) ∧ w'.cell? ⟨w.heap.size, 1, none⟩ = some (.slice A1 p.rg.length c1) ∧ w'.cell? ⟨w.heap.size, 2, none⟩ = some (.slice A2 p.lo.length c2) ∧ w'.cell? ⟨w.heap.size, 3, none⟩ = some (.slice A3 p.r0.length c3) ∧ w'.cell? ⟨w.heap.size, 4, none⟩ = some (.slice A4 p.m0.length c4))
      (first | with_reducible exact KP.out _ (below_drew (Below.refl w5.heap.size w5)) | with_reducible exact KP.out _ (below_drew (below_alloc (Below.refl w5.heap.size w5) _)) | with_reducible exact KP.out _ KB.out | with_reducible exact KP.out _ (below_alloc KB.out _) | with_reducible exact KP.out _ (below_setRow (below_alloc KB.out _) KB.out.size (Nat.le_refl _)) | with_reducible exact KP.out _ (below_setRow KB.out (Nat.le_refl _) (Nat.le_refl _)))
      (first | (go_at_call 9; (with_reducible refine (sc_Play.calls (w := w5.drew) (HP.out.below (below_drew HB5.out)) HV.out HR.out (Kd.C_drew HCO.out)).mono ?_); rintro e w6 ⟨rfl, hb6⟩; have HB6 := Aside0.mk hb6; have KB := Aside0.mk (below_then (below_drew (Below.refl w5.heap.size w5)) (Nat.le_refl _) HB6.out); have hst := new_store (l := (playM p r order).1) (playM_le _ _ _) w6; have hst2 := new_cells (l := (playM p r order).1) (playM_le _ _ _) w6; have hsz := finV_length (playM_le p r order); clear hb6) | (go_at_call 9; (with_reducible refine (sc_Play.calls (HP.out.below (below_drew (below_alloc HB5.out _))) HV.out HR.out (Kd.C_drew (Kd.C_alloc HCO.out _))).mono ?_); rintro e w6 ⟨rfl, hb6⟩; have HB6 := Aside0.mk hb6; have KB := Aside0.mk (below_then (below_drew (below_alloc (Below.refl w5.heap.size w5) _)) (Nat.le_of_lt (size_lt w5 _)) HB6.out); have HH := Aside0.mk ((HB6.out.block w5.heap.size (lt_alloc w5 _)).trans (heap_alloc_new w5 _)); have hst2 := put_cells (l := (playM p r order).1) (playM_le _ _ _) w6 w5.heap.size _ HH.out rfl; have hsz := finV_length (playM_le p r order); clear hb6))
    all_goals go_wp2_with fail
    all_goals go_meet
    all_goals rw [← HFF.out]
    all_goals first
      | exact ⟨_, rfl, rfl, ⟨below_setRow (below_alloc KB.out _) KB.out.size (Nat.le_refl _)⟩, ⟨setRow_heap _ _ _ _ _ _ (heap_alloc_new _ _)⟩, ⟨KB.out.size⟩⟩
      | exact ⟨_, rfl, rfl, ⟨below_setRow KB.out (Nat.le_refl _) (Nat.le_refl _)⟩, ⟨setRow_heap _ _ _ _ _ _ HH.out⟩, ⟨Nat.le_refl _⟩⟩
  case rest =>
    obtain ⟨g, rfl, rfl, HBW, HGF, HGL⟩ := hcut
    clear p0 p1 p2 p3 p4
    have hwc := below_then HB5.out HB5.out.size HBW.out
    have HWC := Aside0.mk hwc
    have hpb := (HBW.out.block w.heap.size (HG5.out.cell_lt List.mem_cons_self)).trans (HG5.out.cell _ List.mem_cons_self).2
    clear hwc
    as_aux_lemma =>
      go_upto_region 4 with (first
        | (refine wpList_load_row rfl 28 (.tmp 2) rfl w.heap.size rfl 28 px (0, 0) _ hpb hu28 rfl HIP.out ?_)
        | (rw [HPX.out]; go_at_call 10; (with_reducible refine (ref_Play.calls (HP.out.below HWC.out) HV2.out HR.out (Kd.C_below HO.out HWC.out)).mono ?_); rintro e w6 ⟨rfl, hb6⟩; rw [HFF.out]; have HB6 := Aside0.mk hb6; have hst2 := new_cellsF HFF.out (playM_le _ _ _) w6; have hfs := sizeF HFF.out (playM_le _ _ _); clear hb6))
      have hset := setRow_heap _ _ _ F _ _ (heap_alloc_new w6 (.cells (finV []).toArray 32))
      have hb7 : Below wc.heap.size wc ((w6.alloc (.cells (finV []).toArray 32)).setRow w6.heap.size F) := below_setRow (below_alloc HB6.out _) HB6.out.size (Nat.le_refl _)
      have HST := Aside0.mk hset
      have HB7 := Aside0.mk hb7
      have HG7 := Aside0.mk ((HB7.out.block g (Array.getElem?_eq_some_iff.1 HGF.out).1).trans HGF.out)
      clear hset hb7
      generalize hW7 : World.setRow _ _ F = W7
      replace HST : Aside0 (W7.heap[w6.heap.size]? = some (.cells F 32 (0, 0))) := ⟨by rw [← hW7]; exact HST.out⟩
      replace HG7 : Aside0 (W7.heap[g]? = some (.cells F 32 (0, 0))) := ⟨by rw [← hW7]; exact HG7.out⟩
      have HW7 : Aside0 (Below w5.heap.size w5 W7) := ⟨by rw [← hW7]; exact below_then HBW.out HBW.out.size HB7.out⟩
      clear hW7 HB7
      have HFS := Aside0.mk (show (Try.prog.info? 32).map (·.size) = some F.size by rw [← HFF.out]; exact finV_size (playM_le _ _ _))
      have hfe : ∀ W : World, (binOp .eql 32 (.agg F) (.agg F)).run Try.prog W = .ok (.bool true) W := fun W => by rw [← HFF.out]; exact fin_eql W (playM_le _ _ _)
      have hl66 : l1.length = order.length + 1 := by rw [← HL1.out]; simp
      obtain ⟨ax, ex, hx⟩ := Kd.at_int HC5.out (order.length : Int) (Int.natCast_nonneg _) (lt_l1 hl66)
      have hr66 : rd l1 (order.length : Int) = 66 := by rw [← HL1.out]; exact rd_last _ _
      injection ex with ex
      subst ex
      rw [hr66, Int.toNat_natCast] at hx
      have hx7 := pw_cell_below HW7.out hx
      have HX7 := Aside0.mk hx7
      have hlt1 : (order.length : Int) < (l1.length : Int) := lt_l1 hl66
      clear hx hr66 hl66 hx7
      go_wp2_with (first
        | (refine wpList_load_row rfl 32 (.tmp 6) rfl g rfl 32 F (0, 0) _ HG7.out hu32 rfl HFS.out ?_)
        | (refine wpList_load_row rfl 32 (.tmp 8) rfl w6.heap.size rfl 32 F (0, 0) _ HST.out hu32 rfl HFS.out ?_)
        | (go_at_call 11; (with_reducible refine (same_call (Kd.C_below HCO.out HW7.out) hcap (Kd.C_below HO.out (below_then HB5.out HB5.out.size HW7.out)) HOC.out).mono ?_); rintro e w8 ⟨rfl, hb8⟩; have HB8 := Aside0.mk hb8; have hx8 := pw_cell_below hb8 HX7.out; clear hb8))
      go_ret
      exact ⟨rfl, below_then (below_then HB5.out HB5.out.size HW7.out) (Nat.le_trans HB5.out.size HW7.out.size) HB8.out⟩
end Go.Proofs.Ytemhpbdlonfikaa.P
