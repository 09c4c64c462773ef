/- prog.First and sc.final: the final state of a program's own values, and of a state. -/
import Derived.Test.YtemhpbdlonfikaaFin2
namespace Go.Proofs.Ytemhpbdlonfikaa.P
open Go Go.RowKit Go.Proofs.YtemhpbdlonfikaaW.PrintWords Go.Proofs.YtemhpbdlonfikaaW.PrintLast Go.Proofs.YtemhpbdlonfikaaW.PrintMore

theorem finM_le (names : List (List ByteArray)) (nl : Nat) (rg : List (List Int)) (me : List Int) : (finM names nl rg me).length ≤ 48 := putAll_le _ (regsL_le _ _ _)
theorem finV_sizes {l l' : List Int} (h : l.length ≤ 48) (h' : l'.length ≤ 48) : (finV l).toArray.size = (finV l').toArray.size := by rw [List.size_toArray, List.size_toArray, finV_length h, finV_length h']

set_option maxHeartbeats 4000000 in
set_option maxRecDepth 100000 in
theorem prog_First.calls {w : World} {p : Pg} {pv : List Value} (hp : PgV w pv p) :
    Calls Try.prog 86 #[.agg pv.toArray] w fun e W' => e = .returned (.agg (finV (finM p.rg p.lo.length p.r0 p.m0)).toArray) ∧ Below w.heap.size w W' := by
  have HP := Aside0.mk hp
  obtain ⟨A0, A1, A2, A3, A4, c0, c1, c2, c3, c4, rfl, _, _, _, _, _, _, h3, _, h4, _⟩ := hp
  have hu28 := Try.underlying28
  have hu32 := Try.underlying32
  have H3 := Aside0.mk h3
  have H4 := Aside0.mk h4
  obtain ⟨px, hpx⟩ : ∃ px : Array Value, px = #[.slice A0 p.th.length c0, .slice A1 p.rg.length c1, .slice A2 p.lo.length c2, .slice A3 p.r0.length c3, .slice A4 p.m0.length c4] := ⟨_, rfl⟩
  have hb0 := ((Bag.nil w).fresh 28 #[.slice A0 p.th.length c0, .slice A1 p.rg.length c1, .slice A2 p.lo.length c2, .slice A3 p.r0.length c3, .slice A4 p.m0.length c4]).fresh 32 (finV []).toArray
  have z1 : (w.alloc (.cells #[.slice A0 p.th.length c0, .slice A1 p.rg.length c1, .slice A2 p.lo.length c2, .slice A3 p.r0.length c3, .slice A4 p.m0.length c4] 28)).heap.size = w.heap.size + 1 := by simp
  rw [z1] at hb0
  have HB0 := Aside0.mk hb0
  clear h3 h4 z1 hb0
  go_enter Try.func86, Try.ntmps86
  go_upto_region 1 with fail
  generalize hW : World.alloc (World.alloc w _) _ = W3
  have HB : Aside0 (Bag w [] [(w.heap.size + 1, 32, (finV []).toArray), (w.heap.size, 28, px)] W3) := ⟨by rw [← hW, hpx]; exact HB0.out⟩
  have hm : (w.heap.size, (28 : TypeId), px) ∈ [(w.heap.size + 1, (32 : TypeId), (finV []).toArray), (w.heap.size, 28, px)] := List.mem_cons_of_mem _ List.mem_cons_self
  obtain ⟨b0, _⟩ := HB.out.cellOf hm 0 (.slice A0 p.th.length c0) (by rw [hpx]; rfl)
  obtain ⟨b1, _⟩ := HB.out.cellOf hm 1 (.slice A1 p.rg.length c1) (by rw [hpx]; rfl)
  obtain ⟨b2, _⟩ := HB.out.cellOf hm 2 (.slice A2 p.lo.length c2) (by rw [hpx]; rfl)
  obtain ⟨b3, _⟩ := HB.out.cellOf hm 3 (.slice A3 p.r0.length c3) (by rw [hpx]; rfl)
  obtain ⟨b4, _⟩ := HB.out.cellOf hm 4 (.slice A4 p.m0.length c4) (by rw [hpx]; rfl)
  clear hW HB0 hm hpx
  have hL := Aside0.mk (finM_le p.rg p.lo.length p.r0 p.m0)
  go_wp2_with (first
    | (go_at_call 84; (with_reducible refine (prog_final.calls (HP.out.below HB.out.below) (Kd.C_below H3.out HB.out.below) (Kd.C_below H4.out HB.out.below)).mono ?_); rintro e w5 ⟨rfl, hb5⟩; have HB5 := Aside0.mk (HB.out.later hb5); have h5 := (HB5.out.cell _ List.mem_cons_self).2; clear hb5)
    | (refine wpList_store_row rfl 32 (.tmp 2) (.tmp 8) rfl (w.heap.size + 1) _ rfl rfl 32 _ h5 (finV_size hL.out) (finV_sizes (Nat.zero_le _) hL.out) (finV_one _) ?_))
  have hB6 := (HB5.out.perm (cells' := [(w.heap.size + 1, (32 : TypeId), (finV []).toArray)]) (fun c hc => by rw [List.mem_singleton.1 hc]; exact List.mem_cons_self)).setAll (vs' := (finV (finM p.rg p.lo.length p.r0 p.m0)).toArray) (fun c hc => by cases hc)
  refine bodyPost_ret (results_cell_row rfl _ _ (w.heap.size + 1) 32 _ (0, 0) _ rfl (hB6.cell _ List.mem_cons_self).2 hu32 rfl (finV_size hL.out)) rfl ⟨rfl, hB6.below⟩

set_option maxHeartbeats 4000000 in
set_option maxRecDepth 100000 in
theorem sc_final.calls {w : World} {p : Pg} {s : St} {pv sv : List Value} (hp : PgV w pv p) (hs : StV w sv s) :
    Calls Try.prog 42 #[.agg pv.toArray, .agg sv.toArray] w fun e W' => e = .returned (.agg (finV (finM p.rg p.lo.length s.rg s.me)).toArray) ∧ Below w.heap.size w W' := by
  obtain ⟨A0, A1, A2, A3, A4, c0, c1, c2, c3, c4, rfl, _, _, h1, l1, h2, l2, h3, _, h4, _⟩ := hp
  obtain ⟨B0, B1, B2, B3, B4, d0, d1, d2, d3, d4, rfl, _, _, _, _, k2, m2, k3, m3, _, _⟩ := hs
  have hu28 := Try.underlying28
  have hu42 := Try.underlying42
  have hu32 := Try.underlying32
  have HP : Aside0 (PgV w [.slice none 0 0, .slice A1 p.rg.length c1, .slice A2 p.lo.length c2, .slice B2 s.rg.length d2, .slice B3 s.me.length d3] ⟨[], p.rg, p.lo, s.rg, s.me⟩) := ⟨⟨none, A1, A2, B2, B3, 0, c1, c2, d2, d3, rfl, Kd.C_nil _ _, Nat.le_refl _, h1, l1, h2, l2, k2, m2, k3, m3⟩⟩
  obtain ⟨px, hpx⟩ : ∃ px : Array Value, px = #[.slice A0 p.th.length c0, .slice A1 p.rg.length c1, .slice A2 p.lo.length c2, .slice A3 p.r0.length c3, .slice A4 p.m0.length c4] := ⟨_, rfl⟩
  obtain ⟨sx, hsx⟩ : ∃ sx : Array Value, sx = #[.slice B0 s.p.length d0, .slice B1 s.q.length d1, .slice B2 s.rg.length d2, .slice B3 s.me.length d3, .slice B4 s.bf.length d4, .int .i64 s.lk] := ⟨_, rfl⟩
  have hb0 := (((Bag.nil w).fresh 28 #[.slice A0 p.th.length c0, .slice A1 p.rg.length c1, .slice A2 p.lo.length c2, .slice A3 p.r0.length c3, .slice A4 p.m0.length c4]).fresh 42 #[.slice B0 s.p.length d0, .slice B1 s.q.length d1, .slice B2 s.rg.length d2, .slice B3 s.me.length d3, .slice B4 s.bf.length d4, .int .i64 s.lk]).fresh 32 (finV []).toArray
  have z1 : (w.alloc (.cells #[.slice A0 p.th.length c0, .slice A1 p.rg.length c1, .slice A2 p.lo.length c2, .slice A3 p.r0.length c3, .slice A4 p.m0.length c4] 28)).heap.size = w.heap.size + 1 := by simp
  have z2 : ((w.alloc (.cells #[.slice A0 p.th.length c0, .slice A1 p.rg.length c1, .slice A2 p.lo.length c2, .slice A3 p.r0.length c3, .slice A4 p.m0.length c4] 28)).alloc (.cells #[.slice B0 s.p.length d0, .slice B1 s.q.length d1, .slice B2 s.rg.length d2, .slice B3 s.me.length d3, .slice B4 s.bf.length d4, .int .i64 s.lk] 42)).heap.size = w.heap.size + 1 + 1 := by simp
  rw [z1, z2] at hb0
  have HB0 := Aside0.mk hb0
  clear h1 h2 h3 h4 z1 z2 hb0 k2 k3
  go_enter Try.func42, Try.ntmps42
  go_upto_region 1 with fail
  generalize hW : World.alloc (World.alloc (World.alloc w _) _) _ = W3
  have HB : Aside0 (Bag w [] [(w.heap.size + 1 + 1, 32, (finV []).toArray), (w.heap.size + 1, 42, sx), (w.heap.size, 28, px)] W3) := ⟨by rw [← hW, hpx, hsx]; exact HB0.out⟩
  have hm : (w.heap.size, (28 : TypeId), px) ∈ [(w.heap.size + 1 + 1, (32 : TypeId), (finV []).toArray), (w.heap.size + 1, 42, sx), (w.heap.size, 28, px)] := List.mem_cons_of_mem _ (List.mem_cons_of_mem _ List.mem_cons_self)
  have hm2 : (w.heap.size + 1, (42 : TypeId), sx) ∈ [(w.heap.size + 1 + 1, (32 : TypeId), (finV []).toArray), (w.heap.size + 1, 42, sx), (w.heap.size, 28, px)] := List.mem_cons_of_mem _ List.mem_cons_self
  obtain ⟨b1, _⟩ := HB.out.cellOf hm 1 (.slice A1 p.rg.length c1) (by rw [hpx]; rfl)
  obtain ⟨b2, _⟩ := HB.out.cellOf hm 2 (.slice A2 p.lo.length c2) (by rw [hpx]; rfl)
  obtain ⟨b3, _⟩ := HB.out.cellOf hm2 2 (.slice B2 s.rg.length d2) (by rw [hsx]; rfl)
  obtain ⟨b4, _⟩ := HB.out.cellOf hm2 3 (.slice B3 s.me.length d3) (by rw [hsx]; rfl)
  clear hW HB0 hm hm2 hpx hsx
  have hL := Aside0.mk (finM_le p.rg p.lo.length s.rg s.me)
  go_wp2_with (first
    | (go_at_call 86; (with_reducible refine (prog_First.calls (HP.out.below HB.out.below)).mono ?_); rintro e w5 ⟨rfl, hb5⟩; have HB5 := Aside0.mk (HB.out.later hb5); have h5 := (HB5.out.cell _ List.mem_cons_self).2; clear hb5)
    | (refine wpList_store_row rfl 32 (.tmp 4) (.tmp 14) rfl (w.heap.size + 1 + 1) _ rfl rfl 32 _ h5 (finV_size hL.out) (finV_sizes (Nat.zero_le _) hL.out) (finV_one _) ?_))
  have hB6 := (HB5.out.perm (cells' := [(w.heap.size + 1 + 1, (32 : TypeId), (finV []).toArray)]) (fun c hc => by rw [List.mem_singleton.1 hc]; exact List.mem_cons_self)).setAll (vs' := (finV (finM p.rg p.lo.length s.rg s.me)).toArray) (fun c hc => by cases hc)
  refine bodyPost_ret (results_cell_row rfl _ _ (w.heap.size + 1 + 1) 32 _ (0, 0) _ rfl (hB6.cell _ List.mem_cons_self).2 hu32 rfl (finV_size hL.out)) rfl ⟨rfl, hB6.below⟩
end Go.Proofs.Ytemhpbdlonfikaa.P
