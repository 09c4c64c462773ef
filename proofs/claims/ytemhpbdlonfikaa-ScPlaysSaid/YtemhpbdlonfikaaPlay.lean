/- sc.Play: a run in which the threads take turns in an order. -/
import Derived.Test.YtemhpbdlonfikaaWrp
namespace Go.Proofs.Ytemhpbdlonfikaa.P
open Go Go.RowKit Go.Proofs.YtemhpbdlonfikaaW.PrintWords Go.Proofs.YtemhpbdlonfikaaW.PrintLast Go.Proofs.YtemhpbdlonfikaaW.PrintMore

theorem finV_nil_one : (finV []).toArray.all (·.oneCell') = true := finV_one []
theorem finV_nil_size : (Try.prog.info? 32).map (·.size) = some (finV []).toArray.size := finV_size (Nat.zero_le _)
/-- A final state is stored over one, and handed back. -/
theorem fin_back {w W : World} {cells : List (Nat × TypeId × Array Value)} {g : Nat} {l l' : List Int} (h : Bag w [] ((g, 32, (finV l).toArray) :: cells) W) : Bag w [] [(g, 32, (finV l').toArray)] (W.setRow g (finV l').toArray) :=
  (h.perm (cells' := [(g, (32 : TypeId), (finV l).toArray)]) (fun c hc => by rw [List.mem_singleton.1 hc]; exact List.mem_cons_self)).setAll (fun c hc => by cases hc)

theorem drop_rd {l : List Int} {j : Nat} (h : j < l.length) : l.drop j = rd l (j : Int) :: l.drop (j + 1) := by
  rw [List.drop_eq_getElem_cons h]
  congr 1
  simp [rd, List.getD_eq_getElem?_getD, List.getElem?_eq_getElem h]

set_option maxHeartbeats 8000000 in
set_option maxRecDepth 100000 in
theorem sc_Play.calls {w : World} {p : Pg} {pv : List Value} {r : Int} {Ao : Option Addr} {co : Nat} {order : List Int} (hp : PgV w pv p) (hv : Ev (fun k => prog_Valid.f k p.th p.rg p.lo p.r0 p.m0) r) (hR : r = 0 → RightPg p ∧ SmallPg p)
    (ho : Kd.C (Kd.int .i64) w Ao order.length order) :
    Calls Try.prog 9 #[.agg pv.toArray, .slice Ao order.length co] w fun e W' => e = .returned (.tuple #[.agg (finV (playM p r order).1).toArray, .int .i64 (playM p r order).2]) ∧ Below w.heap.size w W' := by
  have HP := Aside0.mk hp
  have HV := Aside0.mk hv
  have HO := Aside0.mk ho
  obtain ⟨A0, A1, A2, A3, A4, c0, c1, c2, c3, c4, rfl, _⟩ := hp
  clear hv ho
  have hu28 := Try.underlying28
  have hu42 := Try.underlying42
  have hu32 := Try.underlying32
  obtain ⟨px, hpx⟩ : ∃ px : Array Value, px = #[.slice A0 p.th.length c0, .slice A1 p.rg.length c1, .slice A2 p.lo.length c2, .slice A3 p.r0.length c3, .slice A4 p.m0.length c4] := ⟨_, rfl⟩
  have hb0 := ((Bag.nil w).fresh 28 #[.slice A0 p.th.length c0, .slice A1 p.rg.length c1, .slice A2 p.lo.length c2, .slice A3 p.r0.length c3, .slice A4 p.m0.length c4]).fresh 32 (finV []).toArray
  simp only [heap_size_alloc] at hb0
  have HB0 := Aside0.mk hb0
  have HIP := Aside0.mk (show (Try.prog.info? 28).map (·.size) = some px.size by rw [hpx]; kernel_rfl)
  have HPX := Aside0.mk hpx
  clear hb0
  go_enter Try.func9, Try.ntmps9
  go_upto_region 1 with fail
  generalize hW : World.alloc (World.alloc w _) _ = W3
  have HB : Aside0 (Bag w [] [(w.heap.size + 1, 32, (finV []).toArray), (w.heap.size, 28, px)] W3) := ⟨by rw [← hW, hpx]; exact HB0.out⟩
  clear hW HB0 hpx
  have hc0 := (HB.out.cell _ (List.mem_cons_of_mem _ List.mem_cons_self)).2
  by_cases hr : r = 0
  · subst hr
    obtain ⟨hRP, hSP⟩ := hR rfl
    as_aux_lemma =>
      go_upto_region 2 with (first
        | (refine wpList_load_row rfl 28 (.tmp 2) rfl w.heap.size rfl 28 px (0, 0) _ hc0 hu28 rfl HIP.out ?_)
        | (rw [HPX.out]; go_at_call 18; (with_reducible refine (start_ok (HP.out.below HB.out.below) hSP HV.out).mono ?_); rintro e w4 ⟨sv, ⟨E0, E1, E2, E3, E4, f0, f1, f2, f3, f4, rfl⟩, rfl, hO4⟩; have HO4 := Aside0.mk hO4; have HB4 := Aside0.mk (HB.out.later hO4.below); clear hO4))
      generalize hW5 : World.alloc w4 _ = W5
      have HO5 : Aside0 (StO W3 [(w4.heap.size, 42, #[.slice E0 (firstM p).p.length f0, .slice E1 (firstM p).q.length f1, .slice E2 (firstM p).rg.length f2, .slice E3 (firstM p).me.length f3, .slice E4 (firstM p).bf.length f4, .int .i64 (firstM p).lk])] W5 [.slice E0 (firstM p).p.length f0, .slice E1 (firstM p).q.length f1, .slice E2 (firstM p).rg.length f2, .slice E3 (firstM p).me.length f3, .slice E4 (firstM p).bf.length f4, .int .i64 (firstM p).lk] (firstM p)) := ⟨by rw [← hW5]; exact HO4.out.fresh 42 _⟩
      clear hW5 HO4 HB4 hc0
      have HRP := Aside0.mk hRP
      have HGF := Aside0.mk (good_first hSP)
      generalize w4.heap.size = gs at HO5 ⊢
      go_wp2
      go_loopw [21] (fun v W => ∃ j : Nat, v = .int .i64 j ∧ j ≤ order.length ∧ Aside0 (∃ s, Good p s ∧ runM p s (order.drop j) = runM p (firstM p) order ∧ StO W3 [(gs, 42, #[.slice E0 (firstM p).p.length f0, .slice E1 (firstM p).q.length f1, .slice E2 (firstM p).rg.length f2, .slice E3 (firstM p).me.length f3, .slice E4 (firstM p).bf.length f4, .int .i64 (firstM p).lk])] W [.slice E0 (firstM p).p.length f0, .slice E1 (firstM p).q.length f1, .slice E2 (firstM p).rg.length f2, .slice E3 (firstM p).me.length f3, .slice E4 (firstM p).bf.length f4, .int .i64 (firstM p).lk] s)) (fun v _ => order.length - (intOf v).toNat)
      case atStart => exact ⟨0, rfl, Nat.zero_le _, ⟨firstM p, HGF.out, rfl, HO5.out⟩⟩
      case round =>
        clear HO5
        obtain ⟨j, rfl, hj, HS⟩ := hrel
        obtain ⟨s, hG, hRun, hSt⟩ := HS.out
        have HG := Aside0.mk hG
        have HRun := Aside0.mk hRun
        have HSt := Aside0.mk hSt
        have HBW := Aside0.mk (HB.out.later hSt.below)
        have hc0 := (HBW.out.cell _ (List.mem_cons_of_mem _ List.mem_cons_self)).2
        clear HS hG hRun hSt
        by_cases hlt : j < order.length
        · obtain ⟨ad, e0, hx0⟩ := Kd.at_int HO.out (j : Int) (Int.natCast_nonneg j) (Int.ofNat_lt.2 hlt)
          subst e0
          rw [Int.toNat_natCast] at hx0
          have hx1 := pw_cell_below HBW.out.below hx0
          have hdr := drop_rd hlt
          obtain ⟨x, hx⟩ : ∃ x, rd order (j : Int) = x := ⟨_, rfl⟩
          rw [hx] at hx1 hdr
          have HDR := Aside0.mk hdr
          have HJL := Aside0.mk hlt
          have HML := Aside0.mk (show order.length ≤ 9223372036854775807 from Kd.C_max HO.out)
          clear hdr hx hx0
          cases hT : turnM p s x with
          | none =>
            have HT := Aside0.mk hT
            clear hT
            as_aux_lemma =>
              go_wp2_with (first
                | (refine wpList_load_row rfl 28 (.tmp 2) rfl w.heap.size rfl 28 px (0, 0) _ hc0 hu28 rfl HIP.out ?_)
                | (rw [HPX.out]; go_at_call 40; (with_reducible refine (sc_turn.calls (i := x) (HP.out.below HB.out.below) HRP.out HG.out.ok HSt.out List.mem_cons_self).mono ?_); rintro e w6 ⟨rfl, hO6⟩; rw [HT.out] at hO6 ⊢; have HB6 := Aside0.mk (HB.out.later hO6.below); have h6 := (HB6.out.cell _ List.mem_cons_self).2; clear hO6)
                | (refine wpList_store_row rfl 32 (.tmp 4) (.tmp 29) rfl (w.heap.size + 1) (finV []).toArray rfl rfl 32 _ h6 finV_nil_size rfl finV_nil_one ?_))
              have hpm : playM p 0 order = ([], 150) := by unfold playM; rw [if_pos rfl, ← HRun.out, HDR.out]; simp only [runM, HT.out]
              rw [hpm]
              refine bodyPost_ret (results_row_tmp rfl _ _ (w.heap.size + 1) 32 _ (0, 0) _ rfl ((fin_back HB6.out).cell _ List.mem_cons_self).2 hu32 rfl finV_nil_size) rfl ⟨rfl, (fin_back HB6.out).below⟩
          | some s2 =>
            have HT := Aside0.mk hT
            clear hT
            have hw := wrap_nat HJL.out HML.out
            as_aux_lemma =>
              go_wp2_with (first
                | (refine wpList_load_row rfl 28 (.tmp 2) rfl w.heap.size rfl 28 px (0, 0) _ hc0 hu28 rfl HIP.out ?_)
                | (rw [HPX.out]; go_at_call 40; (with_reducible refine (sc_turn.calls (i := x) (HP.out.below HB.out.below) HRP.out HG.out.ok HSt.out List.mem_cons_self).mono ?_); rintro e w6 ⟨rfl, hO6⟩; rw [HT.out] at hO6 ⊢; have HO6 := Aside0.mk hO6; clear hO6))
              go_roundw
              case rel => exact ⟨j + 1, by rw [hw], HJL.out, ⟨s2, HG.out.turn HT.out, by rw [← HRun.out, HDR.out, runM, HT.out], HO6.out⟩⟩
              case measure => rw [hw]; exact sub_succ HJL.out
        · have hfin : runM p (firstM p) order = some s := by rw [← HRun.out, List.drop_eq_nil_of_le (Nat.le_of_not_lt hlt)]; rfl
          have HF := Aside0.mk hfin
          have hc1 := HSt.out.cellAt List.mem_cons_self
          obtain ⟨b, hb⟩ : ∃ b, overB p s 0 p.th.length = b := ⟨_, rfl⟩
          have hov := over_is HG.out.ok hSP.th
          rw [hb] at hov
          have HOV := Aside0.mk hov
          have HBB := Aside0.mk hb
          clear hfin hov hb
          cases b with
          | false =>
            as_aux_lemma =>
              go_wp2_with (first
                | (refine wpList_load_row rfl 28 (.tmp 2) rfl w.heap.size rfl 28 px (0, 0) _ hc0 hu28 rfl HIP.out ?_)
                | (refine wpList_load_row rfl 42 (.tmp 6) rfl gs rfl 42 _ (0, 0) _ hc1 hu42 rfl (by kernel_rfl) ?_)
                | (rw [HPX.out]; go_at_call 41; (with_reducible refine (over_call (HP.out.below HBW.out.below) HSt.out.read HOV.out).mono ?_); rintro e w6 ⟨rfl, hb6⟩; have HB6 := Aside0.mk (HBW.out.later hb6); have h6 := (HB6.out.cell _ List.mem_cons_self).2; clear hb6)
                | (refine wpList_store_row rfl 32 (.tmp 4) (.tmp 35) rfl (w.heap.size + 1) (finV []).toArray rfl rfl 32 _ h6 finV_nil_size rfl finV_nil_one ?_))
              have hpm : playM p 0 order = ([], 150) := by unfold playM; rw [if_pos rfl, HF.out]; simp only [HBB.out]; rfl
              rw [hpm]
              refine bodyPost_ret (results_row_tmp rfl _ _ (w.heap.size + 1) 32 _ (0, 0) _ rfl ((fin_back HB6.out).cell _ List.mem_cons_self).2 hu32 rfl finV_nil_size) rfl ⟨rfl, (fin_back HB6.out).below⟩
          | true =>
            as_aux_lemma =>
              go_wp2_with (first
                | (refine wpList_load_row rfl 28 (.tmp 2) rfl w.heap.size rfl 28 px (0, 0) _ hc0 hu28 rfl HIP.out ?_)
                | (refine wpList_load_row rfl 42 (.tmp 6) rfl gs rfl 42 _ (0, 0) _ hc1 hu42 rfl (by kernel_rfl) ?_)
                | (rw [HPX.out]; go_at_call 41; (with_reducible refine (over_call (HP.out.below HBW.out.below) HSt.out.read HOV.out).mono ?_); rintro e w6 ⟨rfl, hb6⟩; have HS6 := Aside0.mk (HSt.out.later hb6); have HB6 := Aside0.mk (HBW.out.later hb6); have hc01 := hc0; clear hc0 hc1 hc01; have hc0 := (HB6.out.cell _ (List.mem_cons_of_mem _ List.mem_cons_self)).2; have hc1 := HS6.out.cellAt List.mem_cons_self; clear hb6)
                | (rw [HPX.out]; go_at_call 42; (with_reducible refine (sc_final.calls (HP.out.below HB6.out.below) HS6.out.read).mono ?_); rintro e w8 ⟨rfl, hb8⟩; have HB8 := Aside0.mk (HB6.out.later hb8); have h8 := (HB8.out.cell _ List.mem_cons_self).2; clear hb8)
                | (refine wpList_store_row rfl 32 (.tmp 4) (.tmp 38) rfl (w.heap.size + 1) _ rfl rfl 32 _ h8 (finV_size (finM_le _ _ _ _)) (finV_sizes (Nat.zero_le _) (finM_le _ _ _ _)) (finV_one _) ?_))
              have hpm : playM p 0 order = (finM p.rg p.lo.length s.rg s.me, 0) := by unfold playM; rw [if_pos rfl, HF.out]; simp only [HBB.out]; rfl
              rw [hpm]
              refine bodyPost_ret (results_row_tmp rfl _ _ (w.heap.size + 1) 32 _ (0, 0) _ rfl ((fin_back HB8.out).cell _ List.mem_cons_self).2 hu32 rfl (finV_size (finM_le _ _ _ _))) rfl ⟨rfl, (fin_back HB8.out).below⟩
  · as_aux_lemma =>
      go_upto_region 2 with (first
        | (refine wpList_load_row rfl 28 (.tmp 2) rfl w.heap.size rfl 28 px (0, 0) _ hc0 hu28 rfl HIP.out ?_)
        | (rw [HPX.out]; go_at_call 18; (with_reducible refine (start_bad (HP.out.below HB.out.below) hr HV.out).mono ?_); rintro e w4 ⟨sv, ⟨E0, E1, E2, E3, E4, f0, f1, f2, f3, f4, rfl⟩, rfl, hb4⟩; have HB4 := Aside0.mk (HB.out.later hb4); clear hb4))
      have HB5 := Aside0.mk (HB4.out.later (below_alloc (Below.refl _ _) (.cells #[.slice E0 0 f0, .slice E1 0 f1, .slice E2 0 f2, .slice E3 0 f3, .slice E4 0 f4, .int .i64 0] 42)))
      have hrb : (r == 0) = false := beq_eq_false_iff_ne.2 hr
      have h5 := (HB5.out.cell _ List.mem_cons_self).2
      clear hc0 HB4
      go_wp2_with (refine wpList_store_row rfl 32 (.tmp 4) (.tmp 17) rfl (w.heap.size + 1) (finV []).toArray rfl rfl 32 _ h5 finV_nil_size rfl finV_nil_one ?_)
      have hpm : playM p r order = ([], r) := by unfold playM; rw [if_neg hr]
      rw [hpm]
      refine bodyPost_ret (results_row_tmp rfl _ _ (w.heap.size + 1) 32 _ (0, 0) _ rfl ((fin_back HB5.out).cell _ List.mem_cons_self).2 hu32 rfl finV_nil_size) rfl ⟨rfl, (fin_back HB5.out).below⟩
end Go.Proofs.Ytemhpbdlonfikaa.P
