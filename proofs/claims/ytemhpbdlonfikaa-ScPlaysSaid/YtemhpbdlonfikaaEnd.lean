/- weirref09.End: the document's final state. -/
import Derived.Test.YtemhpbdlonfikaaFin3
namespace Go.Proofs.Ytemhpbdlonfikaa.P
open Go Go.RowKit Go.Proofs.YtemhpbdlonfikaaW.PrintWords Go.Proofs.YtemhpbdlonfikaaW.PrintLast Go.Proofs.YtemhpbdlonfikaaW.PrintMore

section
variable {w W : World} {rows : List Rw} {cells : List (Nat × TypeId × Array Value)} {g : Nat} {l : List Int}
theorem putL_full {l : List Int} {x : Int} (h : l.length = 48) : putL l x = l := if_pos h
theorem putL_more {l : List Int} {x : Int} (h : l.length < 48) : putL l x = l ++ [x] := if_neg (by omega)
theorem wrap_48 {n : Nat} (h : n < 48) : wrap64 ((n : Int) + 1) = (n : Int) + 1 := by unfold wrap64; omega
theorem rd_out {r : List Int} {k : Nat} (h : ¬ k < r.length) : rd r (k : Int) = 0 := by unfold rd; rw [List.getD_eq_getElem?_getD, Int.toNat_natCast, List.getElem?_eq_none (by omega)]; rfl
theorem row_out {rg : List (List Int)} {r : List Int} {i : Nat} (h : ¬ i < rg.length) (hr : rd_L5 rg (i : Int) = r) (k : Nat) : rd r (k : Int) = 0 := by
  have e : rd_L5 rg (i : Int) = [] := by unfold rd_L5; rw [List.getD_eq_getElem?_getD, Int.toNat_natCast, List.getElem?_eq_none (by omega)]; rfl
  rw [← hr, e]; rfl
theorem Bag.put (h : Bag w rows ((g, 32, (finV l).toArray) :: cells) W) (hne : ∀ c ∈ cells, c.1 ≠ g) (hl : l.length < 48) (x : Int) :
    Bag w rows ((g, 32, (finV (putL l x)).toArray) :: cells) ((W.setCell ⟨g, 1 + l.length, none⟩ (.int .i64 x)).setCell ⟨g, 0, none⟩ (.int .i64 ((l.length : Int) + 1))) := by
  have h1 := (h.setCell (i := 1 + l.length) hne (.int .i64 x)).setCell (i := 0) hne (.int .i64 ((l.length : Int) + 1))
  rw [finV_put hl, ← putL_more hl] at h1
  exact h1
theorem Bag.put0 (h : Bag w rows ((g, 32, (finV l).toArray) :: cells) W) (hne : ∀ c ∈ cells, c.1 ≠ g) (hl : l.length < 48) :
    Bag w rows ((g, 32, (finV (putL l 0)).toArray) :: cells) (W.setCell ⟨g, 0, none⟩ (.int .i64 ((l.length : Int) + 1))) := by
  have h1 := h.setCell (i := 0) hne (.int .i64 ((l.length : Int) + 1))
  rw [finV_put0 hl, ← putL_more hl] at h1
  exact h1
theorem Bag.next (h : Bag w rows ((g, 32, (finV l).toArray) :: cells) W) (hl : l.length < 48) : W.cell? ⟨g, 1 + l.length, none⟩ = some (.int .i64 0) ∧ W.frozen? ⟨g, 1 + l.length, none⟩ = false := by
  refine h.cellOf (c := (g, 32, (finV l).toArray)) (List.mem_cons_self) (1 + l.length) _ ?_
  simp only [finV, List.getElem?_toArray, Nat.add_comm 1, List.getElem?_cons_succ, nums, List.getElem?_map]
  rw [List.getElem?_append_right (Nat.le_refl _), Nat.sub_self, List.getElem?_replicate, if_pos (by omega)]
  rfl
end

set_option maxHeartbeats 4000000 in
set_option maxRecDepth 100000 in
theorem weirref09_End.calls {w : World} {p : Pg} {pv : List Value} (hp : PgV w pv p) {Ar Am : Option Addr} {cr cm : Nat} {rg : List (List Int)} {me : List Int} (hr : Kd.C (Kd.slice 2 (Kd.int .i64)) w Ar rg.length rg) (hm : Kd.C (Kd.int .i64) w Am me.length me) :
    Calls Try.prog 30 #[.agg pv.toArray, .slice Ar rg.length cr, .slice Am me.length cm] w fun e W' => e = .returned (.agg (finV (finM p.rg p.lo.length rg me)).toArray) ∧ Below w.heap.size w W' := by
  obtain ⟨A0, A1, A2, A3, A4, c0, c1, c2, c3, c4, rfl, _, _, h1, _, h2, _, _, _, _, _⟩ := hp
  have hu28 := Try.underlying28
  have hu32 := Try.underlying32
  have hu30 := Try.underlying30
  have H1 := Aside0.mk h1
  have H2 := Aside0.mk h2
  have HR := Aside0.mk hr
  have HM := Aside0.mk hm
  obtain ⟨px, hpx⟩ : ∃ px : Array Value, px = #[.slice A0 p.th.length c0, .slice A1 p.rg.length c1, .slice A2 p.lo.length c2, .slice A3 p.r0.length c3, .slice A4 p.m0.length c4] := ⟨_, rfl⟩
  have hb0 := (((Bag.nil w).fresh 28 #[.slice A0 p.th.length c0, .slice A1 p.rg.length c1, .slice A2 p.lo.length c2, .slice A3 p.r0.length c3, .slice A4 p.m0.length c4]).fresh 32 (finV []).toArray).fresh 32 (finV []).toArray
  have z1 : (w.alloc (.cells #[.slice A0 p.th.length c0, .slice A1 p.rg.length c1, .slice A2 p.lo.length c2, .slice A3 p.r0.length c3, .slice A4 p.m0.length c4] 28)).heap.size = w.heap.size + 1 := by simp
  have z2 : ((w.alloc (.cells #[.slice A0 p.th.length c0, .slice A1 p.rg.length c1, .slice A2 p.lo.length c2, .slice A3 p.r0.length c3, .slice A4 p.m0.length c4] 28)).alloc (.cells (finV []).toArray 32)).heap.size = w.heap.size + 1 + 1 := by simp
  rw [z1, z2] at hb0
  have HB0 := Aside0.mk hb0
  clear h1 h2 hr hm z1 z2 hb0
  go_enter Try.func30, Try.ntmps30
  go_upto_region 2 with fail
  generalize hW : World.alloc (World.alloc (World.alloc w _) _) _ = W3
  have HB : Aside0 (Bag w [] [(w.heap.size + 1 + 1, 32, (finV (regsL p.rg rg 0)).toArray), (w.heap.size + 1, 32, (finV []).toArray), (w.heap.size, 28, px)] W3) := ⟨by rw [← hW, hpx]; exact HB0.out⟩
  clear hW HB0
  have HNE := Aside0.mk (apart2 w.heap.size 32 28 (finV []).toArray px)
  generalize w.heap.size + 1 + 1 = g2 at HB HNE ⊢
  have hx1 : px[1]? = some (.slice A1 p.rg.length c1) := by rw [hpx]; rfl
  have hx2 : px[2]? = some (.slice A2 p.lo.length c2) := by rw [hpx]; rfl
  have HX1 := Aside0.mk hx1
  have HX2 := Aside0.mk hx2
  clear hpx hx1 hx2
  go_wp2
  go_loopw [8] (fun v W => ∃ i : Nat, v = .int .i64 i ∧ i ≤ p.rg.length ∧ Aside0 (Bag w [] [(g2, 32, (finV (regsL p.rg rg i)).toArray), (w.heap.size + 1, 32, (finV []).toArray), (w.heap.size, 28, px)] W)) (fun v _ => p.rg.length - (intOf v).toNat)
  case atStart => exact ⟨0, rfl, Nat.zero_le _, HB⟩
  case round =>
    clear HB
    obtain ⟨i, rfl, hi, HB⟩ := hrel
    obtain ⟨b1, _⟩ := HB.out.cellOf (c := (w.heap.size, 28, px)) (List.mem_cons_of_mem _ (List.mem_cons_of_mem _ List.mem_cons_self)) 1 _ HX1.out
    by_cases hlt : i < p.rg.length
    · have HMX1 := Aside0.mk (Kd.C_max H1.out)
      obtain ⟨ad, An, cn, rfl, n0, _, nC⟩ := at_L4 H1.out (i : Int) (Int.natCast_nonneg i) (Int.ofNat_lt.2 hlt)
      rw [Int.toNat_natCast] at n0
      obtain ⟨r, hr⟩ : ∃ r, rd_L5 rg i = r := ⟨_, rfl⟩
      obtain ⟨m, hm⟩ : ∃ m, (rd_L4 p.rg i).length = m := ⟨_, rfl⟩
      rw [hm] at n0
      have hmx := Kd.C_max nC
      rw [hm] at hmx
      have HMX := Aside0.mk hmx
      have HRI := Aside0.mk hr
      have HMI := Aside0.mk hm
      have HIL := Aside0.mk hlt
      clear hr hm nC hmx
      go_wp2
      clear b1
      go_loopw [9] (fun v W => ∃ k : Nat, v = .int .i64 k ∧ k ≤ m ∧ Aside0 (Bag w [] [(g2, 32, (finV (putAll (regsL p.rg rg i) (rowL r k))).toArray), (w.heap.size + 1, 32, (finV []).toArray), (w.heap.size, 28, px)] W)) (fun v _ => m - (intOf v).toNat)
      case atStart => exact ⟨0, rfl, Nat.zero_le _, HB⟩
      case round =>
        clear HB
        obtain ⟨k, rfl, hk, HB⟩ := hrel
        obtain ⟨b1, _⟩ := HB.out.cellOf (c := (w.heap.size, 28, px)) (List.mem_cons_of_mem _ (List.mem_cons_of_mem _ List.mem_cons_self)) 1 _ HX1.out
        have n1 := pw_cell_below HB.out.below n0
        by_cases hkm : k < m
        · have hL := putAll_le (rowL r k) (regsL_le p.rg rg i)
          have hS := putAll_row (regsL p.rg rg i) r k
          obtain ⟨l, hl⟩ : ∃ l, putAll (regsL p.rg rg i) (rowL r k) = l := ⟨_, rfl⟩
          rw [hl] at HB hL hS
          obtain ⟨n, hn⟩ : ∃ n : Nat, l.length = n := ⟨_, rfl⟩
          obtain ⟨e0, f0⟩ := HB.out.cellOf (c := (g2, 32, (finV l).toArray)) List.mem_cons_self 0 _ (finV_at0 l)
          rw [hn] at e0 hL
          have HS := Aside0.mk hS
          have HN := Aside0.mk hn
          have HK := Aside0.mk hkm
          have hw := wrap_succ HK.out HMX.out
          clear hS hn hl
          by_cases h48 : n < 48
          · have hd48 : (n : Int) < 48 := Int.ofNat_lt.2 h48
            have hd48d : decide ((n : Int) < 48) = true := decide_eq_true hd48
            have hL48 := Aside0.mk (show l.length < 48 by rw [HN.out]; exact h48)
            by_cases hir : i < rg.length
            · have hdi : decide (i < rg.length) = true := decide_eq_true hir
              obtain ⟨br, Ai, ci, e1, e2, _, e4⟩ := at_L5 HR.out (i : Int) (Int.natCast_nonneg i) (Int.ofNat_lt.2 hir)
              rw [HRI.out] at e2 e4
              rw [Int.toNat_natCast] at e2
              subst e1
              have e3 := pw_cell_below HB.out.below e2
              by_cases hkr : k < r.length
              · have hdk : decide (k < r.length) = true := decide_eq_true hkr
                obtain ⟨bi, e5, e6⟩ := Kd.at_int e4 (k : Int) (Int.natCast_nonneg k) (Int.ofNat_lt.2 hkr)
                subst e5
                rw [Int.toNat_natCast] at e6
                have e7 := pw_cell_below HB.out.below e6
                have HB5 := Aside0.mk (HB.out.put HNE.out hL48.out (rd r k))
                obtain ⟨hv, fv⟩ := HB.out.next hL48.out
                rw [HN.out] at HB5 hv fv
                rw [← HS.out] at HB5
                clear e2 e4 e6
                go_wp2
                go_region
                all_goals go_wp2
                all_goals go_roundw
                case rel => exact ⟨k + 1, by rw [hw], HK.out, ⟨HB5.out.drew⟩⟩
                case measure => rw [hw]; exact sub_succ HK.out
              · have hdk : decide (k < r.length) = false := decide_eq_false hkr
                have hz := rd_out hkr
                have HB5 := Aside0.mk (HB.out.put0 HNE.out hL48.out)
                rw [HN.out] at HB5
                rw [hz] at HS
                rw [← HS.out] at HB5
                clear e2 e4
                go_wp2
                go_roundw
                case rel => exact ⟨k + 1, by rw [hw], HK.out, HB5⟩
                case measure => rw [hw]; exact sub_succ HK.out
            · have hdi : decide (i < rg.length) = false := decide_eq_false hir
              have hz := row_out hir HRI.out k
              have HB5 := Aside0.mk (HB.out.put0 HNE.out hL48.out)
              rw [HN.out] at HB5
              rw [hz] at HS
              rw [← HS.out] at HB5
              go_wp2
              go_roundw
              case rel => exact ⟨k + 1, by rw [hw], HK.out, HB5⟩
              case measure => rw [hw]; exact sub_succ HK.out
          · have hd48d : decide ((n : Int) < 48) = false := decide_eq_false (fun h => h48 (Int.ofNat_lt.1 h))
            have HB5 := HB
            rw [show l = putL l (rd r k) from (putL_full (HN.out.trans (Nat.le_antisymm hL (Nat.le_of_not_lt h48)))).symm, ← HS.out] at HB5
            go_wp2
            go_roundw
            case rel => exact ⟨k + 1, by rw [hw], HK.out, HB5⟩
            case measure => rw [hw]; exact sub_succ HK.out
        · have hkE : k = m := Nat.le_antisymm hk (Nat.le_of_not_lt hkm)
          subst hkE
          have hE := Aside0.mk (regsL_succ p.rg rg i)
          rw [HRI.out, HMI.out] at hE
          rw [← hE.out] at HB
          have hw := wrap_succ HIL.out HMX1.out
          go_wp2
          go_roundw
          case rel => exact ⟨i + 1, by rw [hw], HIL.out, HB⟩
          case measure => rw [hw]; exact sub_succ HIL.out
    · have hiE : i = p.rg.length := Nat.le_antisymm hi (Nat.le_of_not_lt hlt)
      subst hiE
      clear hlt
      go_upto_region 12 with fail
      repeat go_step
      go_loopw [10] (fun v W => ∃ k : Nat, v = .int .i64 k ∧ k ≤ p.lo.length ∧ Aside0 (Bag w [] [(g2, 32, (finV (putAll (regsL p.rg rg p.rg.length) (rowL me k))).toArray), (w.heap.size + 1, 32, (finV []).toArray), (w.heap.size, 28, px)] W)) (fun v _ => p.lo.length - (intOf v).toNat)
      case atStart => exact ⟨0, rfl, Nat.zero_le _, HB⟩
      case round =>
        clear HB b1
        obtain ⟨k, rfl, hk, HB⟩ := hrel
        obtain ⟨b2, _⟩ := HB.out.cellOf (c := (w.heap.size, 28, px)) (List.mem_cons_of_mem _ (List.mem_cons_of_mem _ List.mem_cons_self)) 2 _ HX2.out
        by_cases hkm : k < p.lo.length
        · have hL := putAll_le (rowL me k) (regsL_le p.rg rg p.rg.length)
          have hS := putAll_row (regsL p.rg rg p.rg.length) me k
          obtain ⟨l, hl⟩ : ∃ l, putAll (regsL p.rg rg p.rg.length) (rowL me k) = l := ⟨_, rfl⟩
          rw [hl] at HB hL hS
          obtain ⟨n, hn⟩ : ∃ n : Nat, l.length = n := ⟨_, rfl⟩
          obtain ⟨e0, f0⟩ := HB.out.cellOf (c := (g2, 32, (finV l).toArray)) List.mem_cons_self 0 _ (finV_at0 l)
          rw [hn] at e0 hL
          have HS := Aside0.mk hS
          have HN := Aside0.mk hn
          have HK := Aside0.mk hkm
          have hw := wrap_succ HK.out (Kd.C_max H2.out)
          clear hS hn hl
          by_cases h48 : n < 48
          · have hd48 : (n : Int) < 48 := Int.ofNat_lt.2 h48
            have hd48d : decide ((n : Int) < 48) = true := decide_eq_true hd48
            have hL48 := Aside0.mk (show l.length < 48 by rw [HN.out]; exact h48)
            by_cases hkr : k < me.length
            · have hdk : decide (k < me.length) = true := decide_eq_true hkr
              obtain ⟨bi, e5, e6⟩ := Kd.at_int HM.out (k : Int) (Int.natCast_nonneg k) (Int.ofNat_lt.2 hkr)
              subst e5
              rw [Int.toNat_natCast] at e6
              have e7 := pw_cell_below HB.out.below e6
              have HB5 := Aside0.mk (HB.out.put HNE.out hL48.out (rd me k))
              obtain ⟨hv, fv⟩ := HB.out.next hL48.out
              rw [HN.out] at HB5 hv fv
              rw [← HS.out] at HB5
              clear e6
              go_wp2
              go_region
              all_goals go_wp2
              all_goals go_roundw
              case rel => exact ⟨k + 1, by rw [hw], HK.out, ⟨HB5.out.drew⟩⟩
              case measure => rw [hw]; exact sub_succ HK.out
            · have hdk : decide (k < me.length) = false := decide_eq_false hkr
              have hz := rd_out hkr
              have HB5 := Aside0.mk (HB.out.put0 HNE.out hL48.out)
              rw [HN.out] at HB5
              rw [hz] at HS
              rw [← HS.out] at HB5
              go_wp2
              go_roundw
              case rel => exact ⟨k + 1, by rw [hw], HK.out, HB5⟩
              case measure => rw [hw]; exact sub_succ HK.out
          · have hd48d : decide ((n : Int) < 48) = false := decide_eq_false (fun h => h48 (Int.ofNat_lt.1 h))
            have HB5 := HB
            rw [show l = putL l (rd me k) from (putL_full (HN.out.trans (Nat.le_antisymm hL (Nat.le_of_not_lt h48)))).symm, ← HS.out] at HB5
            go_wp2
            go_roundw
            case rel => exact ⟨k + 1, by rw [hw], HK.out, HB5⟩
            case measure => rw [hw]; exact sub_succ HK.out
        · have hkE : k = p.lo.length := Nat.le_antisymm hk (Nat.le_of_not_lt hkm)
          subst hkE
          clear hkm
          go_upto_region 19 with fail
          have hL := finM_le p.rg p.lo.length rg me
          have hfin : putAll (regsL p.rg rg p.rg.length) (rowL me p.lo.length) = finM p.rg p.lo.length rg me := rfl
          rw [hfin] at HB
          have h2c := (HB.out.cell _ List.mem_cons_self).2
          have h1c := (HB.out.cell _ (List.mem_cons_of_mem _ List.mem_cons_self)).2
          have hB2 := (HB.out.perm (cells' := [(w.heap.size + 1, (32 : TypeId), (finV []).toArray)]) (fun c hc => by rw [List.mem_singleton.1 hc]; exact List.mem_cons_of_mem _ List.mem_cons_self)).setAll (vs' := (finV (finM p.rg p.lo.length rg me)).toArray) (fun c hc => by cases hc)
          apply wp_region_lit
          refine wpList_load_row rfl 32 (.tmp 7) rfl g2 rfl 32 _ (0, 0) _ h2c hu32 rfl (finV_size hL) ?_
          refine wpList_store_row rfl 32 (.tmp 6) (.tmp 85) rfl (w.heap.size + 1) _ rfl rfl 32 _ h1c (finV_size hL) (finV_sizes (Nat.zero_le _) hL) (finV_one _) ?_
          apply wpList_nil
          go_wp2
          refine bodyPost_ret (results_cell_row rfl _ _ (w.heap.size + 1) 32 _ (0, 0) _ rfl (hB2.cell _ List.mem_cons_self).2 hu32 rfl (finV_size hL)) rfl ⟨rfl, hB2.below⟩
end Go.Proofs.Ytemhpbdlonfikaa.P
