/- weirref11.Play: the document's run. -/
import Derived.Test.YtemhpbdlonfikaaPlay
namespace Go.Proofs.Ytemhpbdlonfikaa.P
open Go Go.RowKit Go.Proofs.YtemhpbdlonfikaaW.PrintWords Go.Proofs.YtemhpbdlonfikaaW.PrintLast Go.Proofs.YtemhpbdlonfikaaW.PrintMore

theorem StO.joins {w W5 W : World} {cells boxes : List (Nat × TypeId × Array Value)} {vs : List Value} {s : St} (h : StO W5 cells W vs s) (hb : Bag w [] boxes W5) : StO w boxes W vs s := by
  obtain ⟨vp, vq, vr, vm, vb, vrs, bfx, rfl, h1, h2⟩ := h
  refine ⟨vp, vq, vr, vm, vb, vrs, bfx, rfl, ⟨fun j r hj => own_weaken (h1.row j r hj) hb.below.size, h1.apart, fun c hc => ⟨(hb.cell c hc).1, (h1.below.block c.1 (hb.cell_lt hc)).trans (hb.cell c hc).2⟩, fun c hc j r hj e => ?_, below_then hb.below hb.below.size h1.below⟩, h2⟩
  have h3 := own_base (h1.row j r hj) c.1 e
  have h4 := hb.cell_lt hc
  omega
theorem StO.setHead {w W : World} {g i : Nat} {t : TypeId} {us : Array Value} {cells : List (Nat × TypeId × Array Value)} {vs : List Value} {s : St} (h : StO w ((g, t, us) :: cells) W vs s) (hne : ∀ c ∈ cells, c.1 ≠ g) (u : Value) :
    StO w ((g, t, us.setIfInBounds i u) :: cells) (W.setCell ⟨g, i, none⟩ u) vs s := by
  obtain ⟨vp, vq, vr, vm, vb, vrs, bfx, rfl, h1, h2⟩ := h
  exact ⟨vp, vq, vr, vm, vb, vrs, bfx, rfl, h1.setCell hne u, h2⟩
theorem StO.setAllH {w W : World} {g : Nat} {t : TypeId} {us us' : Array Value} {cells : List (Nat × TypeId × Array Value)} {vs : List Value} {s : St} (h : StO w ((g, t, us) :: cells) W vs s) (hne : ∀ c ∈ cells, c.1 ≠ g) :
    StO w ((g, t, us') :: cells) (W.setRow g us') vs s := by
  obtain ⟨vp, vq, vr, vm, vb, vrs, bfx, rfl, h1, h2⟩ := h
  exact ⟨vp, vq, vr, vm, vb, vrs, bfx, rfl, h1.setAll hne, h2⟩
theorem StO.cellsPerm {w W : World} {cells cells' : List (Nat × TypeId × Array Value)} {vs : List Value} {s : St} (h : StO w cells W vs s) (hs : ∀ c ∈ cells', c ∈ cells) : StO w cells' W vs s := by
  obtain ⟨vp, vq, vr, vm, vb, vrs, bfx, rfl, h1, h2⟩ := h
  exact ⟨vp, vq, vr, vm, vb, vrs, bfx, rfl, h1.perm hs, h2⟩
theorem StO.boxes {w W : World} {cells : List (Nat × TypeId × Array Value)} {vs : List Value} {s : St} (h : StO w cells W vs s) : Bag w [] cells W := by
  obtain ⟨vp, vq, vr, vm, vb, vrs, bfx, _, h1, _⟩ := h
  exact ⟨by simp, by simp, h1.cell, by simp, h1.below⟩
theorem below_setCell {B : Nat} {w W : World} {g i : Nat} {v : Value} (h : Below B w W) (hg : B ≤ g) (hB : B ≤ w.heap.size) : Below B w (W.setCell ⟨g, i, none⟩ v) := by
  refine h.grown (row := some g) ⟨rfl, rfl, rfl, by unfold World.setCell; simp, fun k hk hne => ?_⟩ (Nat.le_trans hB h.size) (fun k e => by cases e; exact hg)
  unfold World.setCell
  simp only [Array.getElem?_modify]
  rw [if_neg (fun e => hne (by rw [← e]))]
theorem lt_alloc (w : World) (o : Obj) : w.heap.size < (w.alloc o).drew.heap.size := by show w.heap.size < (w.alloc o).heap.size; rw [heap_size_alloc]; omega
theorem cell_in {W : World} {g : Nat} {vs : Array Value} {t : TypeId} (h : W.heap[g]? = some (.cells vs t (0, 0))) (i : Nat) (x : Value) (hx : vs[i]? = some x) : W.cell? ⟨g, i, none⟩ = some x := by simp [World.cell?, h, hx]
theorem free_in {W : World} {g : Nat} {vs : Array Value} {t : TypeId} (h : W.heap[g]? = some (.cells vs t (0, 0))) (i : Nat) : W.frozen? ⟨g, i, none⟩ = false := by simp [World.frozen?, h]
theorem ne_boxes {n gs : Nat} {t u : TypeId} {x y : Array Value} (h : n + 1 < gs) : ∀ c ∈ [(n + 1, t, x), (n, u, y)], c.1 ≠ gs := by
  intro c hc
  simp only [List.mem_cons, List.not_mem_nil, or_false] at hc
  rcases hc with rfl | rfl
  · show n + 1 ≠ gs
    omega
  · show n ≠ gs
    omega
theorem StV.regs {W : World} {B0 B1 B2 B3 B4 : Option Addr} {d0 d1 d2 d3 d4 : Nat} {s : St} (h : StV W [.slice B0 s.p.length d0, .slice B1 s.q.length d1, .slice B2 s.rg.length d2, .slice B3 s.me.length d3, .slice B4 s.bf.length d4, .int .i64 s.lk] s) :
    Kd.C (Kd.slice 2 (Kd.int .i64)) W B2 s.rg.length s.rg ∧ Kd.C (Kd.int .i64) W B3 s.me.length s.me := by
  obtain ⟨A0, A1, A2, A3, A4, c0, c1, c2, c3, c4, he, _, _, _, _, h2, _, h3, _⟩ := h
  simp only [List.cons.injEq, Value.slice.injEq, true_and, and_true] at he
  obtain ⟨⟨rfl, rfl⟩, ⟨rfl, rfl⟩, ⟨rfl, rfl⟩, ⟨rfl, rfl⟩, ⟨rfl, rfl⟩⟩ := he
  exact ⟨h2, h3⟩
/-- What a round's step leaves: c's block, the state that it holds, and all that stood before. -/
def Stepped (w W : World) (gc : Nat) (boxes : List (Nat × TypeId × Array Value)) (p : Pg) (s : St) (x : Int) : Prop :=
  match turnM p s x with
  | some t => ∃ tv, Six tv t ∧ StO w ((gc, 42, tv.toArray) :: boxes) W tv t
  | none => Bag w [] boxes W

set_option maxHeartbeats 8000000 in
set_option maxRecDepth 100000 in
theorem ref_Play.calls {w : World} {p : Pg} {pv : List Value} {r : Int} {Ao : Option Addr} {co : Nat} {order : List Int} (hp : PgV w pv p) (hv : Ev (fun k => weirref09_Valid.f k p.th p.rg p.lo p.r0 p.m0) r) (hR : r = 0 → RightPg p ∧ SmallPg p)
    (ho : Kd.C (Kd.int .i64) w Ao order.length order) :
    Calls Try.prog 10 #[.agg pv.toArray, .slice Ao order.length co] w fun e W' => e = .returned (.tuple #[.agg (finV (playM p r order).1).toArray, .int .i64 (playM p r order).2]) ∧ Below w.heap.size w W' := by
  have HP := Aside0.mk hp
  have HV := Aside0.mk hv
  have HO := Aside0.mk ho
  obtain ⟨A0, A1, A2, A3, A4, c0, c1, c2, c3, c4, rfl, _⟩ := hp
  clear hv ho
  have hu28 := Try.underlying28
  have hu42 := Try.underlying42
  have hu32 := Try.underlying32
  obtain ⟨px, hpx⟩ : ∃ px : Array Value, px = #[.slice A0 p.th.length c0, .slice A1 p.rg.length c1, .slice A2 p.lo.length c2, .slice A3 p.r0.length c3, .slice A4 p.m0.length c4] := ⟨_, rfl⟩
  have hb0 := ((Bag.nil w).fresh 28 #[.slice A0 p.th.length c0, .slice A1 p.rg.length c1, .slice A2 p.lo.length c2, .slice A3 p.r0.length c3, .slice A4 p.m0.length c4]).fresh 32 (finV []).toArray
  simp only [heap_size_alloc] at hb0
  have HB0 := Aside0.mk hb0
  have HIP := Aside0.mk (show (Try.prog.info? 28).map (·.size) = some px.size by rw [hpx]; kernel_rfl)
  have HPX := Aside0.mk hpx
  clear hb0
  go_enter Try.func10, Try.ntmps10
  go_upto_region 1 with fail
  generalize hW : World.alloc (World.alloc w _) _ = W3
  have HB : Aside0 (Bag w [] [(w.heap.size + 1, 32, (finV []).toArray), (w.heap.size, 28, px)] W3) := ⟨by rw [← hW, hpx]; exact HB0.out⟩
  clear hW HB0 hpx
  have hc0 := (HB.out.cell _ (List.mem_cons_of_mem _ List.mem_cons_self)).2
  go_upto_region 2 with (first
    | (refine wpList_load_row rfl 28 (.tmp 2) rfl w.heap.size rfl 28 px (0, 0) _ hc0 hu28 rfl HIP.out ?_)
    | (rw [HPX.out]; go_at_call 26; (with_reducible refine (valid_call2 (HP.out.below HB.out.below) HV.out).mono ?_); rintro e w4 ⟨rfl, hb4⟩; have HB4 := Aside0.mk (HB.out.later hb4); clear hb4))
  have h4 := (HB4.out.cell _ List.mem_cons_self).2
  have hc4 := (HB4.out.cell _ (List.mem_cons_of_mem _ List.mem_cons_self)).2
  clear hc0 HB
  by_cases hr : r = 0
  · subst hr
    obtain ⟨hRP, hSP⟩ := hR rfl
    have HRP := Aside0.mk hRP
    have HGF := Aside0.mk (good_first hSP)
    as_aux_lemma =>
      go_upto_region 5 with (first
        | (refine wpList_load_row rfl 28 (.tmp 2) rfl w.heap.size rfl 28 px (0, 0) _ hc4 hu28 rfl HIP.out ?_)
        | (rw [HPX.out]; go_at_call 28; (with_reducible refine (first_call (HP.out.below HB4.out.below) hSP).mono ?_); rintro e w5 ⟨sv, hsv, rfl, hS5, hb5⟩; have HSX := Aside0.mk hsv; obtain ⟨E0, E1, E2, E3, E4, f0, f1, f2, f3, f4, rfl⟩ := hsv; have HS5 := Aside0.mk hS5; have HB5 := Aside0.mk (HB4.out.later hb5); clear hS5 hb5))
      have HB6 : Aside0 (Bag w [] [(w5.heap.size, 42, #[.slice E0 (firstM p).p.length f0, .slice E1 (firstM p).q.length f1, .slice E2 (firstM p).rg.length f2, .slice E3 (firstM p).me.length f3, .slice E4 (firstM p).bf.length f4, .int .i64 (firstM p).lk]), (w.heap.size + 1, 32, (finV []).toArray), (w.heap.size, 28, px)] (w5.alloc (.cells #[.slice E0 (firstM p).p.length f0, .slice E1 (firstM p).q.length f1, .slice E2 (firstM p).rg.length f2, .slice E3 (firstM p).me.length f3, .slice E4 (firstM p).bf.length f4, .int .i64 (firstM p).lk] 42))) := ⟨HB5.out.fresh 42 _⟩
      have HS6 := Aside0.mk (HS5.out.below (below_alloc (Below.refl _ _) (.cells #[.slice E0 (firstM p).p.length f0, .slice E1 (firstM p).q.length f1, .slice E2 (firstM p).rg.length f2, .slice E3 (firstM p).me.length f3, .slice E4 (firstM p).bf.length f4, .int .i64 (firstM p).lk] 42)))
      have HGS := Aside0.mk (show w.heap.size + 1 < w5.heap.size from (HB5.out.cell_lt List.mem_cons_self))
      generalize World.alloc w5 _ = W6 at HB6 HS6 ⊢
      generalize w5.heap.size = gs at HB6 HGS ⊢
      clear HS5 HB5 HB4 h4 hc4
      go_upto_region 6 with fail
      go_loopw [8] (fun v W => ∃ j : Nat, v = .int .i64 j ∧ j ≤ order.length ∧ Aside0 (∃ s sv, Good p s ∧ runM p s (order.drop j) = runM p (firstM p) order ∧ Six sv s ∧ StV W sv s ∧ Bag w [] [(gs, 42, sv.toArray), (w.heap.size + 1, 32, (finV []).toArray), (w.heap.size, 28, px)] W)) (fun v _ => order.length - (intOf v).toNat)
      case atStart => exact ⟨0, rfl, Nat.zero_le _, ⟨firstM p, _, HGF.out, rfl, HSX.out, HS6.out, HB6.out⟩⟩
      case round =>
        clear HB6 HS6 HSX
        obtain ⟨j, rfl, hj, HS⟩ := hrel
        obtain ⟨s, sv, hG, hRun, hsx, hSt, hBg⟩ := HS.out
        obtain ⟨B0, B1, B2, B3, B4, d0, d1, d2, d3, d4, rfl⟩ := hsx
        have HG := Aside0.mk hG
        have HRun := Aside0.mk hRun
        have HSt := Aside0.mk hSt
        have HBg := Aside0.mk hBg
        clear HS hG hRun hSt hBg
        by_cases hlt : j < order.length
        · as_aux_lemma =>
            obtain ⟨ad, e0, hx0⟩ := Kd.at_int HO.out (j : Int) (Int.natCast_nonneg j) (Int.ofNat_lt.2 hlt)
            subst e0
            rw [Int.toNat_natCast] at hx0
            have hx1 := pw_cell_below HBg.out.below hx0
            have hdr := drop_rd hlt
            obtain ⟨x, hx⟩ : ∃ x, rd order (j : Int) = x := ⟨_, rfl⟩
            rw [hx] at hx1 hdr
            have HDR := Aside0.mk hdr
            have HJL := Aside0.mk hlt
            have HML := Aside0.mk (show order.length ≤ 9223372036854775807 from Kd.C_max HO.out)
            clear hdr hx hx0
            have hmp := List.mem_cons_of_mem (gs, (42 : TypeId), (#[.slice B0 s.p.length d0, .slice B1 s.q.length d1, .slice B2 s.rg.length d2, .slice B3 s.me.length d3, .slice B4 s.bf.length d4, .int .i64 s.lk] : Array Value)) (List.mem_cons_of_mem (w.heap.size + 1, (32 : TypeId), (finV []).toArray) (List.mem_cons_self (a := (w.heap.size, (28 : TypeId), px)) (l := [])))
            have p0 := (HBg.out.cellOf hmp 0 (.slice A0 p.th.length c0) (by show px[0]? = _; rw [HPX.out]; rfl)).1
            have p1 := (HBg.out.cellOf hmp 1 (.slice A1 p.rg.length c1) (by show px[1]? = _; rw [HPX.out]; rfl)).1
            have p2 := (HBg.out.cellOf hmp 2 (.slice A2 p.lo.length c2) (by show px[2]? = _; rw [HPX.out]; rfl)).1
            have p3 := (HBg.out.cellOf hmp 3 (.slice A3 p.r0.length c3) (by show px[3]? = _; rw [HPX.out]; rfl)).1
            have p4 := (HBg.out.cellOf hmp 4 (.slice A4 p.m0.length c4) (by show px[4]? = _; rw [HPX.out]; rfl)).1
            have s0 := (HBg.out.cellOf List.mem_cons_self 0 _ rfl).1
            have s1 := (HBg.out.cellOf List.mem_cons_self 1 _ rfl).1
            have s2 := (HBg.out.cellOf List.mem_cons_self 2 _ rfl).1
            have s3 := (HBg.out.cellOf List.mem_cons_self 3 _ rfl).1
            have s4 := (HBg.out.cellOf List.mem_cons_self 4 _ rfl).1
            have s5 := (HBg.out.cellOf List.mem_cons_self 5 _ rfl).1
            have KP : Aside0 (∀ W', Below wr.heap.size wr W' → (W'.cell? ⟨w.heap.size, 0, none⟩ = some (.slice A0 p.th.length c0) ∧ W'.cell? ⟨w.heap.size, 1, none⟩ = some (.slice A1 p.rg.length c1) ∧ W'.cell? ⟨w.heap.size, 2, none⟩ = some (.slice A2 p.lo.length c2) ∧ W'.cell? ⟨w.heap.size, 3, none⟩ = some (.slice A3 p.r0.length c3) ∧ W'.cell? ⟨w.heap.size, 4, none⟩ = some (.slice A4 p.m0.length c4) ∧
                W'.cell? ⟨gs, 0, none⟩ = some (.slice B0 s.p.length d0) ∧ W'.cell? ⟨gs, 1, none⟩ = some (.slice B1 s.q.length d1) ∧ W'.cell? ⟨gs, 2, none⟩ = some (.slice B2 s.rg.length d2) ∧ W'.cell? ⟨gs, 3, none⟩ = some (.slice B3 s.me.length d3) ∧ W'.cell? ⟨gs, 4, none⟩ = some (.slice B4 s.bf.length d4) ∧ W'.cell? ⟨gs, 5, none⟩ = some (.int .i64 s.lk) ∧ W'.cell? (ad.add j) = some (.int .i64 x))) :=
              ⟨fun W' hb => ⟨pw_cell_below hb p0, pw_cell_below hb p1, pw_cell_below hb p2, pw_cell_below hb p3, pw_cell_below hb p4, pw_cell_below hb s0, pw_cell_below hb s1, pw_cell_below hb s2, pw_cell_below hb s3, pw_cell_below hb s4, pw_cell_below hb s5, pw_cell_below hb hx1⟩⟩
            clear hmp
            go_upto_region 8 with fail
            go_cut [9, 10] (fun v u wx => ∃ gc : Nat, v = .pointer (some ⟨gc, 0, none⟩) ∧ u = .bool (turnM p s x).isSome ∧ Aside0 (Stepped w wx gc [(gs, 42, #[.slice B0 s.p.length d0, .slice B1 s.q.length d1, .slice B2 s.rg.length d2, .slice B3 s.me.length d3, .slice B4 s.bf.length d4, .int .i64 s.lk]), (w.heap.size + 1, 32, (finV []).toArray), (w.heap.size, 28, px)] p s x))
            case first =>
              cases hT : turnM p s x with
              | none =>
                have HT := Aside0.mk hT
                clear hT
                go_region_held3 (fun w' : World => w'.cell? ⟨w.heap.size, 0, none⟩ = some (.slice A0 p.th.length c0) ∧ w'.cell? ⟨w.heap.size, 1, none⟩ = some (.slice A1 p.rg.length c1) ∧ w'.cell? ⟨w.heap.size, 2, none⟩ = some (.slice A2 p.lo.length c2) ∧ w'.cell? ⟨w.heap.size, 3, none⟩ = some (.slice A3 p.r0.length c3) ∧ w'.cell? ⟨w.heap.size, 4, none⟩ = some (.slice A4 p.m0.length c4) ∧                 w'.cell? ⟨gs, 0, none⟩ = some (.slice B0 s.p.length d0) ∧ w'.cell? ⟨gs, 1, none⟩ = some (.slice B1 s.q.length d1) ∧ w'.cell? ⟨gs, 2, none⟩ = some (.slice B2 s.rg.length d2) ∧ w'.cell? ⟨gs, 3, none⟩ = some (.slice B3 s.me.length d3) ∧ w'.cell? ⟨gs, 4, none⟩ = some (.slice B4 s.bf.length d4) ∧ w'.cell? ⟨gs, 5, none⟩ = some (.int .i64 s.lk) ∧ w'.cell? (ad.add j) = some (.int .i64 x)) (first | with_reducible exact KP.out _ (below_drew (Below.refl wr.heap.size wr)) | with_reducible exact KP.out _ (below_drew (below_alloc (Below.refl wr.heap.size wr) _)) | with_reducible exact KP.out _ KB.out | with_reducible exact KP.out _ (below_alloc KB.out _) | with_reducible exact KP.out _ (by repeat (first | with_reducible exact KB.out | with_reducible refine below_setCell ?_ (Nat.le_refl _) (Nat.le_refl _))))
                  (first | (go_at_call 35; (with_reducible refine (ref_Step.calls (w := wr.drew) (p := p) (s := s) (i := x) (HP.out.below (below_drew HBg.out.below)) (HSt.out.below (below_drew (Below.refl wr.heap.size wr))) HRP.out hSP HG.out.ok (HG.out.small hSP) HG.out.pl).mono ?_); rintro e w6 hres; unfold StepRes at hres; rw [HT.out] at hres; obtain ⟨rfl, hb⟩ := hres; have HB6 := Aside0.mk hb; clear hb; have KB := Aside0.mk (below_then (below_drew (Below.refl wr.heap.size wr)) (below_drew (Below.refl wr.heap.size wr)).size HB6.out)) | (go_at_call 35; (with_reducible refine (ref_Step.calls (w := (wr.alloc (.cells #[.slice none 0 0, .slice none 0 0, .slice none 0 0, .slice none 0 0, .slice none 0 0, .int .i64 0] 42)).drew) (p := p) (s := s) (i := x) (HP.out.below (below_drew (below_alloc HBg.out.below _))) (HSt.out.below (below_drew (below_alloc (Below.refl wr.heap.size wr) _))) HRP.out hSP HG.out.ok (HG.out.small hSP) HG.out.pl).mono ?_); rintro e w6 hres; unfold StepRes at hres; rw [HT.out] at hres; obtain ⟨rfl, hb⟩ := hres; have HB6 := Aside0.mk hb; clear hb; have KB := Aside0.mk (below_then (below_drew (below_alloc (Below.refl wr.heap.size wr) _)) (below_drew (below_alloc (Below.refl wr.heap.size wr) _)).size HB6.out); have HH := Aside0.mk ((HB6.out.block wr.heap.size (lt_alloc wr _)).trans (heap_alloc_new wr (.cells #[.slice none 0 0, .slice none 0 0, .slice none 0 0, .slice none 0 0, .slice none 0 0, .int .i64 0] 42))); have z0 := cell_in HH.out 0 _ rfl; have z1 := cell_in HH.out 1 _ rfl; have z2 := cell_in HH.out 2 _ rfl; have z3 := cell_in HH.out 3 _ rfl; have z4 := cell_in HH.out 4 _ rfl; have z5 := cell_in HH.out 5 _ rfl; have y0 := free_in HH.out 0; have y1 := free_in HH.out 1; have y2 := free_in HH.out 2; have y3 := free_in HH.out 3; have y4 := free_in HH.out 4; have y5 := free_in HH.out 5))
                all_goals go_wp2_with fail
                all_goals go_meet
                · exact ⟨_, rfl, by rw [HT.out]; rfl, ⟨by unfold Stepped; rw [HT.out]; exact HBg.out.later (below_alloc KB.out _)⟩⟩
                · exact ⟨_, rfl, by rw [HT.out]; rfl, ⟨by unfold Stepped; rw [HT.out]; exact HBg.out.later (below_setCell (below_setCell (below_setCell (below_setCell (below_setCell (below_setCell KB.out (Nat.le_refl _) (Nat.le_refl _)) (Nat.le_refl _) (Nat.le_refl _)) (Nat.le_refl _) (Nat.le_refl _)) (Nat.le_refl _) (Nat.le_refl _)) (Nat.le_refl _) (Nat.le_refl _)) (Nat.le_refl _) (Nat.le_refl _))⟩⟩
              | some t =>
                have HT := Aside0.mk hT
                clear hT
                go_region_held3 (fun w' : World => w'.cell? ⟨w.heap.size, 0, none⟩ = some (.slice A0 p.th.length c0) ∧ w'.cell? ⟨w.heap.size, 1, none⟩ = some (.slice A1 p.rg.length c1) ∧ w'.cell? ⟨w.heap.size, 2, none⟩ = some (.slice A2 p.lo.length c2) ∧ w'.cell? ⟨w.heap.size, 3, none⟩ = some (.slice A3 p.r0.length c3) ∧ w'.cell? ⟨w.heap.size, 4, none⟩ = some (.slice A4 p.m0.length c4) ∧                 w'.cell? ⟨gs, 0, none⟩ = some (.slice B0 s.p.length d0) ∧ w'.cell? ⟨gs, 1, none⟩ = some (.slice B1 s.q.length d1) ∧ w'.cell? ⟨gs, 2, none⟩ = some (.slice B2 s.rg.length d2) ∧ w'.cell? ⟨gs, 3, none⟩ = some (.slice B3 s.me.length d3) ∧ w'.cell? ⟨gs, 4, none⟩ = some (.slice B4 s.bf.length d4) ∧ w'.cell? ⟨gs, 5, none⟩ = some (.int .i64 s.lk) ∧ w'.cell? (ad.add j) = some (.int .i64 x)) (first | with_reducible exact KP.out _ (below_drew (Below.refl wr.heap.size wr)) | with_reducible exact KP.out _ (below_drew (below_alloc (Below.refl wr.heap.size wr) _)) | with_reducible exact KP.out _ KB.out | with_reducible exact KP.out _ (below_alloc KB.out _) | with_reducible exact KP.out _ (by repeat (first | with_reducible exact KB.out | with_reducible refine below_setCell ?_ (Nat.le_refl _) (Nat.le_refl _))))
                  (first | (go_at_call 35; (with_reducible refine (ref_Step.calls (w := wr.drew) (p := p) (s := s) (i := x) (HP.out.below (below_drew HBg.out.below)) (HSt.out.below (below_drew (Below.refl wr.heap.size wr))) HRP.out hSP HG.out.ok (HG.out.small hSP) HG.out.pl).mono ?_); rintro e w6 hres; unfold StepRes at hres; rw [HT.out] at hres; obtain ⟨⟨tv, ⟨E0, E1, E2, E3, E4, f0, f1, f2, f3, f4, rfl⟩, rfl, hO⟩, hb⟩ := hres; have HB6 := Aside0.mk hb; have HO6 := Aside0.mk hO; clear hb hO; have KB := Aside0.mk (below_then (below_drew (Below.refl wr.heap.size wr)) (below_drew (Below.refl wr.heap.size wr)).size HB6.out)) | (go_at_call 35; (with_reducible refine (ref_Step.calls (w := (wr.alloc (.cells #[.slice none 0 0, .slice none 0 0, .slice none 0 0, .slice none 0 0, .slice none 0 0, .int .i64 0] 42)).drew) (p := p) (s := s) (i := x) (HP.out.below (below_drew (below_alloc HBg.out.below _))) (HSt.out.below (below_drew (below_alloc (Below.refl wr.heap.size wr) _))) HRP.out hSP HG.out.ok (HG.out.small hSP) HG.out.pl).mono ?_); rintro e w6 hres; unfold StepRes at hres; rw [HT.out] at hres; obtain ⟨⟨tv, ⟨E0, E1, E2, E3, E4, f0, f1, f2, f3, f4, rfl⟩, rfl, hO⟩, hb⟩ := hres; have HB6 := Aside0.mk hb; have HO6 := Aside0.mk hO; clear hb hO; have KB := Aside0.mk (below_then (below_drew (below_alloc (Below.refl wr.heap.size wr) _)) (below_drew (below_alloc (Below.refl wr.heap.size wr) _)).size HB6.out); have HH := Aside0.mk ((HB6.out.block wr.heap.size (lt_alloc wr _)).trans (heap_alloc_new wr (.cells #[.slice none 0 0, .slice none 0 0, .slice none 0 0, .slice none 0 0, .slice none 0 0, .int .i64 0] 42))); have z0 := cell_in HH.out 0 _ rfl; have z1 := cell_in HH.out 1 _ rfl; have z2 := cell_in HH.out 2 _ rfl; have z3 := cell_in HH.out 3 _ rfl; have z4 := cell_in HH.out 4 _ rfl; have z5 := cell_in HH.out 5 _ rfl; have y0 := free_in HH.out 0; have y1 := free_in HH.out 1; have y2 := free_in HH.out 2; have y3 := free_in HH.out 3; have y4 := free_in HH.out 4; have y5 := free_in HH.out 5))
                all_goals go_wp2_with fail
                all_goals go_meet
                · exact ⟨_, rfl, by rw [HT.out]; rfl, ⟨by unfold Stepped; rw [HT.out]; exact ⟨_, ⟨E0, E1, E2, E3, E4, f0, f1, f2, f3, f4, rfl⟩, (HO6.out.joins HBg.out.drew).fresh 42 _⟩⟩⟩
                · exact ⟨_, rfl, by rw [HT.out]; rfl, ⟨by
                    unfold Stepped
                    rw [HT.out]
                    have hne : ∀ c ∈ [(gs, 42, #[.slice B0 s.p.length d0, .slice B1 s.q.length d1, .slice B2 s.rg.length d2, .slice B3 s.me.length d3, .slice B4 s.bf.length d4, .int .i64 s.lk]), (w.heap.size + 1, 32, (finV []).toArray), (w.heap.size, 28, px)], c.1 ≠ wr.heap.size := fun c hc => Nat.ne_of_lt (HBg.out.cell_lt hc)
                    have h1 := ((((((HO6.out.joins (HBg.out.fresh 42 #[.slice none 0 0, .slice none 0 0, .slice none 0 0, .slice none 0 0, .slice none 0 0, .int .i64 0]).drew).setHead (i := 0) hne (.slice E0 t.p.length f0)).setHead (i := 1) hne (.slice E1 t.q.length f1)).setHead (i := 2) hne (.slice E2 t.rg.length f2)).setHead (i := 3) hne (.slice E3 t.me.length f3)).setHead (i := 4) hne (.slice E4 t.bf.length f4)).setHead (i := 5) hne (.int .i64 t.lk)
                    exact ⟨_, ⟨E0, E1, E2, E3, E4, f0, f1, f2, f3, f4, rfl⟩, h1⟩⟩⟩
            case rest =>
              obtain ⟨gc, rfl, hu, HST⟩ := hcut
              cases hT : turnM p s x with
              | none =>
                have HT := Aside0.mk hT
                rw [hT, Option.isSome_none] at hu
                subst hu
                have hst := HST.out
                unfold Stepped at hst
                rw [hT] at hst
                have HBB := Aside0.mk hst
                have h6 := (HBB.out.cell _ (List.mem_cons_of_mem _ List.mem_cons_self)).2
                have hB2 := (fin_back (l' := []) (HBB.out.perm (cells' := [(w.heap.size + 1, (32 : TypeId), (finV []).toArray)]) (fun c hc => by rw [List.mem_singleton.1 hc]; exact List.mem_cons_of_mem _ List.mem_cons_self)))
                clear hT hst HST KP p0 p1 p2 p3 p4 s0 s1 s2 s3 s4 s5 hx1
                have hpm : playM p 0 order = ([], 150) := by unfold playM; rw [if_pos rfl, ← HRun.out, HDR.out]; simp only [runM, HT.out]
                go_wp2_with (refine wpList_store_row rfl 32 (.tmp 4) (.tmp 38) rfl (w.heap.size + 1) (finV []).toArray rfl rfl 32 _ h6 finV_nil_size rfl finV_nil_one ?_)
                try rw [hpm]
                refine bodyPost_ret (results_row_tmp rfl _ _ (w.heap.size + 1) 32 _ (0, 0) _ rfl (hB2.cell _ List.mem_cons_self).2 hu32 rfl finV_nil_size) rfl ⟨rfl, hB2.below⟩
              | some t =>
                have HT := Aside0.mk hT
                rw [hT, Option.isSome_some] at hu
                subst hu
                have hst := HST.out
                unfold Stepped at hst
                rw [hT] at hst
                obtain ⟨tv, hsx, hO⟩ := hst
                have HSX := Aside0.mk hsx
                obtain ⟨E0, E1, E2, E3, E4, f0, f1, f2, f3, f4, rfl⟩ := hsx
                have hcc := hO.cellAt List.mem_cons_self
                have hcs := hO.cellAt (List.mem_cons_of_mem _ List.mem_cons_self)
                have HN := Aside0.mk ((hO.cellsPerm (cells' := [(gs, 42, #[.slice B0 s.p.length d0, .slice B1 s.q.length d1, .slice B2 s.rg.length d2, .slice B3 s.me.length d3, .slice B4 s.bf.length d4, .int .i64 s.lk]), (w.heap.size + 1, 32, (finV []).toArray), (w.heap.size, 28, px)]) (fun c hc => List.mem_cons_of_mem _ hc)).setAllH (us' := #[.slice E0 t.p.length f0, .slice E1 t.q.length f1, .slice E2 t.rg.length f2, .slice E3 t.me.length f3, .slice E4 t.bf.length f4, .int .i64 t.lk]) (ne_boxes HGS.out))
                have hw := wrap_nat HJL.out HML.out
                clear hT HST KP p0 p1 p2 p3 p4 s0 s1 s2 s3 s4 s5 hx1 hO
                go_wp2_with (first
                  | (refine wpList_load_row rfl 42 (.tmp 9) rfl gc rfl 42 _ (0, 0) _ hcc hu42 rfl (by kernel_rfl) ?_)
                  | (refine wpList_store_row rfl 42 (.tmp 7) (.tmp 39) rfl gs _ rfl rfl 42 _ hcs (by kernel_rfl) rfl (all_list [.slice E0 t.p.length f0, .slice E1 t.q.length f1, .slice E2 t.rg.length f2, .slice E3 t.me.length f3, .slice E4 t.bf.length f4, .int .i64 t.lk] rfl) ?_))
                go_roundw
                case rel => exact ⟨j + 1, by rw [hw], HJL.out, ⟨t, _, HG.out.turn HT.out, by rw [← HRun.out, HDR.out, runM, HT.out], HSX.out, HN.out.read, HN.out.boxes⟩⟩
                case measure => rw [hw]; exact sub_succ HJL.out
        · as_aux_lemma =>
            have hfin : runM p (firstM p) order = some s := by rw [← HRun.out, List.drop_eq_nil_of_le (Nat.le_of_not_lt hlt)]; rfl
            have HF := Aside0.mk hfin
            have hc0 := (HBg.out.cell _ (List.mem_cons_of_mem _ (List.mem_cons_of_mem _ List.mem_cons_self))).2
            have hc1 := (HBg.out.cell _ List.mem_cons_self).2
            obtain ⟨b, hb⟩ : ∃ b, overB p s 0 p.th.length = b := ⟨_, rfl⟩
            have hov := done_is HG.out.ok hSP.th
            rw [hb] at hov
            have HOV := Aside0.mk hov
            have HBB := Aside0.mk hb
            clear hfin hov hb
            cases b with
            | false =>
              go_wp2_with (first
                | (refine wpList_load_row rfl 28 (.tmp 2) rfl w.heap.size rfl 28 px (0, 0) _ hc0 hu28 rfl HIP.out ?_)
                | (refine wpList_load_row rfl 42 (.tmp 7) rfl gs rfl 42 _ (0, 0) _ hc1 hu42 rfl (by kernel_rfl) ?_)
                | (rw [HPX.out]; go_at_call 43; (with_reducible refine (done_call (HP.out.below HBg.out.below) HSt.out HOV.out).mono ?_); rintro e w6 ⟨rfl, hb6⟩; have HB6 := Aside0.mk (HBg.out.later hb6); have h6 := (HB6.out.cell _ (List.mem_cons_of_mem _ List.mem_cons_self)).2; clear hb6)
                | (refine wpList_store_row rfl 32 (.tmp 4) (.tmp 44) rfl (w.heap.size + 1) (finV []).toArray rfl rfl 32 _ h6 finV_nil_size rfl finV_nil_one ?_))
              have hB2 := (fin_back (l' := []) (HB6.out.perm (cells' := [(w.heap.size + 1, (32 : TypeId), (finV []).toArray)]) (fun c hc => by rw [List.mem_singleton.1 hc]; exact List.mem_cons_of_mem _ List.mem_cons_self)))
              have hpm : playM p 0 order = ([], 150) := by unfold playM; rw [if_pos rfl, HF.out]; simp only [HBB.out]; rfl
              rw [hpm]
              refine bodyPost_ret (results_row_tmp rfl _ _ (w.heap.size + 1) 32 _ (0, 0) _ rfl (hB2.cell _ List.mem_cons_self).2 hu32 rfl finV_nil_size) rfl ⟨rfl, hB2.below⟩
            | true =>
              go_wp2_with (first
                | (refine wpList_load_row rfl 28 (.tmp 2) rfl w.heap.size rfl 28 px (0, 0) _ hc0 hu28 rfl HIP.out ?_)
                | (refine wpList_load_row rfl 42 (.tmp 7) rfl gs rfl 42 _ (0, 0) _ hc1 hu42 rfl (by kernel_rfl) ?_)
                | (rw [HPX.out]; go_at_call 43; (with_reducible refine (done_call (HP.out.below HBg.out.below) HSt.out HOV.out).mono ?_); rintro e w6 ⟨rfl, hb6⟩; have HS6 := Aside0.mk (HSt.out.below hb6); have HB6 := Aside0.mk (HBg.out.later hb6); have hc01 := hc0; clear hc0 hc1 hc01; have hc0 := (HB6.out.cell _ (List.mem_cons_of_mem _ (List.mem_cons_of_mem _ List.mem_cons_self))).2; have s2 := (HB6.out.cellOf List.mem_cons_self 2 _ rfl).1; have s3 := (HB6.out.cellOf List.mem_cons_self 3 _ rfl).1; clear hb6)
                | (rw [HPX.out]; go_at_call 30; (with_reducible refine (weirref09_End.calls (HP.out.below HB6.out.below) HS6.out.regs.1 HS6.out.regs.2).mono ?_); rintro e w8 ⟨rfl, hb8⟩; have HB8 := Aside0.mk (HB6.out.later hb8); have h8 := (HB8.out.cell _ (List.mem_cons_of_mem _ List.mem_cons_self)).2; clear hb8)
                | (refine wpList_store_row rfl 32 (.tmp 4) (.tmp 50) rfl (w.heap.size + 1) _ rfl rfl 32 _ h8 (finV_size (finM_le _ _ _ _)) (finV_sizes (Nat.zero_le _) (finM_le _ _ _ _)) (finV_one _) ?_))
              have hB2 := (fin_back (l' := finM p.rg p.lo.length s.rg s.me) (HB8.out.perm (cells' := [(w.heap.size + 1, (32 : TypeId), (finV []).toArray)]) (fun c hc => by rw [List.mem_singleton.1 hc]; exact List.mem_cons_of_mem _ List.mem_cons_self)))
              have hpm : playM p 0 order = (finM p.rg p.lo.length s.rg s.me, 0) := by unfold playM; rw [if_pos rfl, HF.out]; simp only [HBB.out]; rfl
              rw [hpm]
              refine bodyPost_ret (results_row_tmp rfl _ _ (w.heap.size + 1) 32 _ (0, 0) _ rfl (hB2.cell _ List.mem_cons_self).2 hu32 rfl (finV_size (finM_le _ _ _ _))) rfl ⟨rfl, hB2.below⟩
  · have hrb : (r == 0) = false := beq_eq_false_iff_ne.2 hr
    as_aux_lemma =>
      go_wp2_with (refine wpList_store_row rfl 32 (.tmp 4) (.tmp 15) rfl (w.heap.size + 1) (finV []).toArray rfl rfl 32 _ h4 finV_nil_size rfl finV_nil_one ?_)
      have hpm : playM p r order = ([], r) := by unfold playM; rw [if_neg hr]
      rw [hpm]
      refine bodyPost_ret (results_row_tmp rfl _ _ (w.heap.size + 1) 32 _ (0, 0) _ rfl ((fin_back HB4.out).cell _ List.mem_cons_self).2 hu32 rfl finV_nil_size) rfl ⟨rfl, (fin_back HB4.out).below⟩
end Go.Proofs.Ytemhpbdlonfikaa.P
