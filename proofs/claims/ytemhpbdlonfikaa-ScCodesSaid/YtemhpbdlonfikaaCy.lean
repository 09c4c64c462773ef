/- Is it a state of the program: both sides, walked by hand. -/
import Derived.Test.YtemhpbdlonfikaaEa
import Derived.Test.YtemhpbdlonfikaaCt
import Derived.Test.YtemhpbdlonfikaaHtext
import Derived.Test.YtemhpbdlonfikaaP26
namespace Go.Proofs.Ytemhpbdlonfikaa.P
open Go Go.RowKit Go.Proofs.YtemhpbdlonfikaaW.PrintWords Go.Proofs.YtemhpbdlonfikaaW.PrintLast Go.Proofs.YtemhpbdlonfikaaW.PrintMore
set_option maxHeartbeats 16000000 in
set_option maxRecDepth 100000 in
theorem is_c {w : World} {pv sv : List Value} {p : Pg} {u : St} (hp : PgV w pv p) (hs : StV w sv u) (hg : p.rg.length = p.th.length) : Calls Try.prog 45 #[.agg pv.toArray, .agg sv.toArray] w fun e W' => e = .returned (.bool (isM p u.p u.q u.rg u.me u.bf u.lk)) ∧ Below w.heap.size w W' := by
  obtain ⟨A0, A1, A2, A3, A4, c0, c1, c2, c3, c4, rfl, x0, _, x1, _, x2, _, x3, _, x4, _⟩ := hp
  obtain ⟨B0, B1, B2, B3, B4, d0, d1, d2, d3, d4, rfl, y0, _, y1, _, y2, _, y3, _, y4, _⟩ := hs
  have G := Aside0.mk hg
  have X0 := Aside0.mk x0
  have X1 := Aside0.mk x1
  have Y0 := Aside0.mk y0
  have Y1 := Aside0.mk y1
  have Y2 := Aside0.mk y2
  have Y4 := Aside0.mk y4
  have M0 := Aside0.mk (Kd.C_max x0)
  clear x0 x1 x2 x3 x4 y0 y1 y2 y3 y4 hg
  obtain ⟨r, hr⟩ : ∃ r, isM p u.p u.q u.rg u.me u.bf u.lk = r := ⟨_, rfl⟩
  rw [hr]
  have R := Aside0.mk hr
  clear hr
  go_enter Try.func45, Try.ntmps45
  go_upto_region 1 with fail
  have h1 := blk_alloc (heap_alloc_new w (.cells #[.slice A0 p.th.length c0, .slice A1 p.rg.length c1, .slice A2 p.lo.length c2, .slice A3 p.r0.length c3, .slice A4 p.m0.length c4] 28)) (.cells #[.slice B0 u.p.length d0, .slice B1 u.q.length d1, .slice B2 u.rg.length d2, .slice B3 u.me.length d3, .slice B4 u.bf.length d4, .int .i64 u.lk] 42)
  have h2 := heap_alloc_new (w.alloc (.cells #[.slice A0 p.th.length c0, .slice A1 p.rg.length c1, .slice A2 p.lo.length c2, .slice A3 p.r0.length c3, .slice A4 p.m0.length c4] 28)) (.cells #[.slice B0 u.p.length d0, .slice B1 u.q.length d1, .slice B2 u.rg.length d2, .slice B3 u.me.length d3, .slice B4 u.bf.length d4, .int .i64 u.lk] 42)
  rw [show (w.alloc (.cells #[.slice A0 p.th.length c0, .slice A1 p.rg.length c1, .slice A2 p.lo.length c2, .slice A3 p.r0.length c3, .slice A4 p.m0.length c4] 28)).heap.size = w.heap.size + 1 by simp] at h2
  have hb0 : Below w.heap.size w ((w.alloc (.cells #[.slice A0 p.th.length c0, .slice A1 p.rg.length c1, .slice A2 p.lo.length c2, .slice A3 p.r0.length c3, .slice A4 p.m0.length c4] 28)).alloc (.cells #[.slice B0 u.p.length d0, .slice B1 u.q.length d1, .slice B2 u.rg.length d2, .slice B3 u.me.length d3, .slice B4 u.bf.length d4, .int .i64 u.lk] 42)) := below_alloc (below_alloc (Below.refl _ _) _) _
  generalize World.alloc (World.alloc w _) _ = W0 at h1 h2 hb0 ⊢
  have KP : Aside0 (∀ W', Below W0.heap.size W0 W' → W'.cell? ⟨w.heap.size, 0, none⟩ = some (.slice A0 p.th.length c0) ∧ W'.cell? ⟨w.heap.size, 1, none⟩ = some (.slice A1 p.rg.length c1) ∧ W'.cell? ⟨w.heap.size, 2, none⟩ = some (.slice A2 p.lo.length c2) ∧ W'.cell? ⟨w.heap.size, 3, none⟩ = some (.slice A3 p.r0.length c3) ∧ W'.cell? ⟨w.heap.size, 4, none⟩ = some (.slice A4 p.m0.length c4) ∧ W'.cell? ⟨w.heap.size + 1, 0, none⟩ = some (.slice B0 u.p.length d0) ∧ W'.cell? ⟨w.heap.size + 1, 1, none⟩ = some (.slice B1 u.q.length d1) ∧ W'.cell? ⟨w.heap.size + 1, 2, none⟩ = some (.slice B2 u.rg.length d2) ∧ W'.cell? ⟨w.heap.size + 1, 3, none⟩ = some (.slice B3 u.me.length d3) ∧ W'.cell? ⟨w.heap.size + 1, 4, none⟩ = some (.slice B4 u.bf.length d4) ∧ W'.cell? ⟨w.heap.size + 1, 5, none⟩ = some (.int .i64 u.lk)) := ⟨fun W' hb => by
    have q1 := (hb.block _ (blk_lt h1)).trans h1
    have q2 := (hb.block _ (blk_lt h2)).trans h2
    exact ⟨(blk_cell q1 0).trans rfl, (blk_cell q1 1).trans rfl, (blk_cell q1 2).trans rfl, (blk_cell q1 3).trans rfl, (blk_cell q1 4).trans rfl, (blk_cell q2 0).trans rfl, (blk_cell q2 1).trans rfl, (blk_cell q2 2).trans rfl, (blk_cell q2 3).trans rfl, (blk_cell q2 4).trans rfl, (blk_cell q2 5).trans rfl⟩⟩
  have B := Aside0.mk hb0
  have KB := Aside0.mk (Below.refl W0.heap.size W0)
  clear h1 h2 hb0
  obtain ⟨a0_, a1_, a2_, a3_, a4_, b0_, b1_, b2_, b3_, b4_, b5_⟩ := KP.out _ KB.out
  go_wp2_with fail
  all_goals first
    | (rename_i hb; go_ret; exact ⟨by rw [← R.out, isM_l (by first | exact lenN1 hb | exact lenN2 hb | exact lenN3 hb | exact lenN4 hb | exact lenN5 hb | exact lenN6 hb | exact lenN7 hb)]; rfl, belW B.out KB.out⟩)
    | skip
  rename_i h1 h2 h3 h4 h5 h6 h7 k1_ k2_
  have L : Aside0 (lenP p u.p u.q u.rg u.me u.bf u.lk) := ⟨lenP_of h1 h2 h3 h4 h5 h7⟩
  clear h1 h2 h3 h4 h5 h6 h7
  have Le1 := Aside0.mk L.out.1
  have Le2 := Aside0.mk L.out.2.1
  have Le3 := Aside0.mk L.out.2.2.1
  have Le4 := Aside0.mk L.out.2.2.2.1
  clear a0_ a1_ a2_ a3_ a4_ b0_ b1_ b2_ b3_ b4_ b5_
  go_loopw [62] (fun v W => ∃ j : Nat, v = .int .i64 j ∧ j ≤ p.th.length ∧ Aside0 (Below W0.heap.size W0 W) ∧ Aside0 (∀ k, k < j → thB p u.p u.q u.rg u.bf k = true)) (fun v _ => p.th.length - (intOf v).toNat)
  case atStart => exact ⟨0, rfl, Nat.zero_le _, KB, ⟨fun k hk => absurd hk (Nat.not_lt_zero k)⟩⟩
  case round =>
    clear KB
    obtain ⟨j, rfl, hj, KB, HT⟩ := hrel
    obtain ⟨a0_, a1_, a2_, a3_, a4_, b0_, b1_, b2_, b3_, b4_, b5_⟩ := KP.out _ KB.out
    by_cases hlt : j < p.th.length
    rotate_left
    · go_wp2_with fail
      go_ret
      exact ⟨by rw [← R.out, isM_t L.out (fun k hk => HT.out k (Nat.lt_of_lt_of_le hk (Nat.le_of_not_lt hlt)))]; rfl, belW B.out KB.out⟩
    obtain ⟨ap, rfl, xp⟩ := Kd.at_int Y0.out (j : Int) (Int.natCast_nonneg j) (Int.ofNat_lt.2 (by rw [Le1.out]; exact hlt))
    obtain ⟨aq, rfl, xq⟩ := Kd.at_int Y1.out (j : Int) (Int.natCast_nonneg j) (Int.ofNat_lt.2 (by rw [Le2.out]; exact hlt))
    obtain ⟨at_, At, ct, rfl, xt, _, _⟩ := at_L3 X0.out (j : Int) (Int.natCast_nonneg j) (Int.ofNat_lt.2 hlt)
    obtain ⟨ag, Ag, cg, rfl, xg, _, _⟩ := at_L4 X1.out (j : Int) (Int.natCast_nonneg j) (Int.ofNat_lt.2 (by rw [G.out]; exact hlt))
    obtain ⟨ar, Ar, cr, rfl, xr, _, _⟩ := at_L5 Y2.out (j : Int) (Int.natCast_nonneg j) (Int.ofNat_lt.2 (by rw [Le3.out]; exact hlt))
    obtain ⟨ab, Ab, cb, rfl, xb, _, hb⟩ := at_L7 Y4.out (j : Int) (Int.natCast_nonneg j) (Int.ofNat_lt.2 (by rw [Le4.out]; exact hlt))
    rw [Int.toNat_natCast] at xp xq xt xg xr xb
    have HB := Aside0.mk hb
    clear hb
    have HJ := Aside0.mk hlt
    have hj1 : (j : Int) < (u.p.length : Int) := (Int.ofNat_lt.2 (by rw [Le1.out]; exact hlt))
    have hj2 : (j : Int) < (u.q.length : Int) := (Int.ofNat_lt.2 (by rw [Le2.out]; exact hlt))
    have hj3 : (j : Int) < (u.rg.length : Int) := (Int.ofNat_lt.2 (by rw [Le3.out]; exact hlt))
    have hj4 : (j : Int) < (u.bf.length : Int) := (Int.ofNat_lt.2 (by rw [Le4.out]; exact hlt))
    have hj5 : (j : Int) < (p.rg.length : Int) := (Int.ofNat_lt.2 (by rw [G.out]; exact hlt))
    have hw := wrapN hlt M0.out
    have KS : Aside0 (∀ W', Below W0.heap.size W0 W' → W'.cell? (ap.add j) = some (.int .i64 (rd u.p (j : Int))) ∧ W'.cell? (aq.add j) = some (.int .i64 (rd u.q (j : Int))) ∧ W'.cell? (at_.add j) = some (.slice At (rd_L3 p.th (j : Int)).length ct) ∧ W'.cell? (ag.add j) = some (.slice Ag (rd_L4 p.rg (j : Int)).length cg) ∧ W'.cell? (ar.add j) = some (.slice Ar (rd_L5 u.rg (j : Int)).length cr) ∧ W'.cell? (ab.add j) = some (.slice Ab (rd_L7 u.bf (j : Int)).length cb)) := ⟨fun W' hb => by
      have hc := belW B.out hb
      exact ⟨pw_cell_below hc xp, pw_cell_below hc xq, pw_cell_below hc xt, pw_cell_below hc xg, pw_cell_below hc xr, pw_cell_below hc xb⟩⟩
    clear xp xq xt xg xr xb
    obtain ⟨xp, xq, xt, xg, xr, xb⟩ := KS.out _ KB.out
    go_upto_region 7 with fail
    by_cases g1 : rd u.p (j : Int) < 0
    · have f1 : decide (rd u.p (j : Int) < 0) = true := decide_eq_true g1
      go_quiet (fail)
      go_wp2_with fail
      go_ret
      exact ⟨by rw [← R.out, isM_f HJ.out (thB_n (fun h => absurd h.1 (Int.not_le.2 g1)))]; rfl, belW B.out (pw_below_drewN KB.out _)⟩
    have t1 : decide (rd u.p (j : Int) < 0) = false := decide_eq_false g1
    by_cases g2 : ((rd_L3 p.th (j : Int)).length : Int) < rd u.p (j : Int)
    · have f1 : decide (((rd_L3 p.th (j : Int)).length : Int) < rd u.p (j : Int)) = true := decide_eq_true g2
      go_quiet (fail)
      go_wp2_with fail
      go_ret
      exact ⟨by rw [← R.out, isM_f HJ.out (thB_n (fun h => absurd h.2.1 (Int.not_le.2 g2)))]; rfl, belW B.out (pw_below_drewN KB.out _)⟩
    have t2 : decide (((rd_L3 p.th (j : Int)).length : Int) < rd u.p (j : Int)) = false := decide_eq_false g2
    by_cases g3 : rd u.q (j : Int) < 0
    · have f1 : decide (rd u.q (j : Int) < 0) = true := decide_eq_true g3
      go_quiet (fail)
      go_wp2_with fail
      go_ret
      exact ⟨by rw [← R.out, isM_f HJ.out (thB_n (fun h => absurd h.2.2.1 (Int.not_le.2 g3)))]; rfl, belW B.out (pw_below_drewN KB.out _)⟩
    have t3 : decide (rd u.q (j : Int) < 0) = false := decide_eq_false g3
    by_cases g4 : 2 < rd u.q (j : Int)
    · have f1 : decide (2 < rd u.q (j : Int)) = true := decide_eq_true g4
      go_quiet (fail)
      go_wp2_with fail
      go_ret
      exact ⟨by rw [← R.out, isM_f HJ.out (thB_n (fun h => absurd h.2.2.2.1 (Int.not_le.2 g4)))]; rfl, belW B.out (pw_below_drewN KB.out _)⟩
    have t4 : decide (2 < rd u.q (j : Int)) = false := decide_eq_false g4
    by_cases g5 : (rd_L5 u.rg (j : Int)).length = (rd_L4 p.rg (j : Int)).length
    rotate_left
    · have f1 := leq_f g5
      have f2 := leq_g g5
      go_quiet (fail)
      go_wp2_with fail
      go_ret
      exact ⟨by rw [← R.out, isM_f HJ.out (thB_n (fun h => g5 h.2.2.2.2.1))]; rfl, belW B.out (pw_below_drewN KB.out _)⟩
    have t5 := leq_t g5
    have v5 := leq_u g5
    by_cases g6 : 64 < ((rd_L7 u.bf (j : Int)).length : Int)
    · have f1 : decide (64 < ((rd_L7 u.bf (j : Int)).length : Int)) = true := decide_eq_true g6
      go_quiet (fail)
      go_wp2_with fail
      go_ret
      exact ⟨by rw [← R.out, isM_f HJ.out (thB_n (fun h => absurd h.2.2.2.2.2 (Nat.not_le.2 (Int.ofNat_lt.1 g6))))]; rfl, belW B.out (pw_below_drewN KB.out _)⟩
    have t6 : decide (64 < ((rd_L7 u.bf (j : Int)).length : Int)) = false := decide_eq_false g6
    have TH : Aside0 (thOK p u.p u.q u.rg u.bf j) := ⟨⟨Int.not_lt.1 g1, Int.not_lt.1 g2, Int.not_lt.1 g3, Int.not_lt.1 g4, g5, Nat.le_of_not_lt (fun h => g6 (Int.ofNat_lt.2 h))⟩⟩
    go_quiet (fail)
    replace KB := Aside0.mk (pw_below_drewN KB.out nq)
    generalize wr.drewN nq = wr1 at KB ⊢
    clear a0_ a1_ a2_ a3_ a4_ b0_ b1_ b2_ b3_ b4_ b5_ xp xq xt xg xr xb g1 g2 g3 g4 g5 g6 t1 t2 t3 t4 t5 v5 t6 hlt
    obtain ⟨a0_, a1_, a2_, a3_, a4_, b0_, b1_, b2_, b3_, b4_, b5_⟩ := KP.out _ KB.out
    obtain ⟨xp, xq, xt, xg, xr, xb⟩ := KS.out _ KB.out
    go_wp2_with fail
    clear a0_ a1_ a2_ a3_ a4_ b0_ b1_ b2_ b3_ b4_ b5_ xp xq xt xg xr xb
    go_loopw [129] (fun v W => ∃ m : Nat, v = .int .i64 m ∧ m ≤ (rd_L7 u.bf (j : Int)).length ∧ Aside0 (Below W0.heap.size W0 W) ∧ Aside0 (∀ k, k < m → wrB p.lo.length (rd_L7 u.bf (j : Int)) k = true)) (fun v _ => (rd_L7 u.bf (j : Int)).length - (intOf v).toNat)
    case atStart => exact ⟨0, rfl, Nat.zero_le _, KB, ⟨fun k hk => absurd hk (Nat.not_lt_zero k)⟩⟩
    case round =>
      clear KB
      obtain ⟨m, rfl, hm, KB, HU⟩ := hrel
      obtain ⟨a0_, a1_, a2_, a3_, a4_, b0_, b1_, b2_, b3_, b4_, b5_⟩ := KP.out _ KB.out
      obtain ⟨xp, xq, xt, xg, xr, xb⟩ := KS.out _ KB.out
      have hlt := HJ.out
      by_cases hlm : m < (rd_L7 u.bf (j : Int)).length
      rotate_left
      · go_wp2_with fail
        go_roundw
        case rel => exact ⟨j + 1, by rw [hw]; rfl, HJ.out, KB, ⟨fun k hk => by
          rcases Nat.lt_succ_iff_lt_or_eq.1 hk with h | h
          · exact HT.out k h
          · rw [h]; exact thB_t TH.out (fun m' hm' => HU.out m' (Nat.lt_of_lt_of_le hm' (Nat.le_of_not_lt hlm)))⟩⟩
        case measure => rw [hw]; exact nat_dec HJ.out
      obtain ⟨ae, rfl, xe, xf⟩ := at_T59 HB.out (m : Int) (Int.natCast_nonneg m) (Int.ofNat_lt.2 hlm)
      rw [Int.toNat_natCast] at xe xf
      replace xe := pw_cell_below (belW B.out KB.out) xe
      replace xf := pw_cell_below (belW B.out KB.out) xf
      have HM := Aside0.mk hlm
      have hwm := wrapN hlm (Kd.C_max HB.out)
      go_upto_region 12 with fail
      have hbk := heap_alloc_new wr (.cells #[.int .i64 (rd_T59 (rd_L7 u.bf (j : Int)) (m : Int)).f0, .int .i64 (rd_T59 (rd_L7 u.bf (j : Int)) (m : Int)).f1] 59)
      have KB2 := Aside0.mk (below_alloc KB.out (.cells #[.int .i64 (rd_T59 (rd_L7 u.bf (j : Int)) (m : Int)).f0, .int .i64 (rd_T59 (rd_L7 u.bf (j : Int)) (m : Int)).f1] 59))
      generalize wr.heap.size = gz at hbk ⊢
      generalize World.alloc wr _ = wy at hbk KB2 ⊢
      clear a0_ a1_ a2_ a3_ a4_ b0_ b1_ b2_ b3_ b4_ b5_ xp xq xt xg xr xb xe xf
      obtain ⟨z0, z1, _, _⟩ := blkA2 hbk
      obtain ⟨a0_, a1_, a2_, a3_, a4_, b0_, b1_, b2_, b3_, b4_, b5_⟩ := KP.out _ KB2.out
      by_cases g1 : (rd_T59 (rd_L7 u.bf (j : Int)) (m : Int)).f0 < 0
      · have f1 : decide ((rd_T59 (rd_L7 u.bf (j : Int)) (m : Int)).f0 < 0) = true := decide_eq_true g1
        go_wp2_with fail
        go_ret
        exact ⟨by rw [← R.out, isM_f HJ.out (thB_f HM.out (decide_eq_false (fun h => absurd h.1 (Int.not_le.2 g1))))]; rfl, belW B.out KB2.out⟩
      have tg1 : decide ((rd_T59 (rd_L7 u.bf (j : Int)) (m : Int)).f0 < 0) = false := decide_eq_false g1
      by_cases g2 : (p.lo.length : Int) ≤ (rd_T59 (rd_L7 u.bf (j : Int)) (m : Int)).f0
      · have f1 : decide ((p.lo.length : Int) ≤ (rd_T59 (rd_L7 u.bf (j : Int)) (m : Int)).f0) = true := decide_eq_true g2
        go_wp2_with fail
        go_ret
        exact ⟨by rw [← R.out, isM_f HJ.out (thB_f HM.out (decide_eq_false (fun h => absurd h.2 (Int.not_lt.2 g2))))]; rfl, belW B.out KB2.out⟩
      have tg2 : decide ((p.lo.length : Int) ≤ (rd_T59 (rd_L7 u.bf (j : Int)) (m : Int)).f0) = false := decide_eq_false g2
      have HW : Aside0 (wrB p.lo.length (rd_L7 u.bf (j : Int)) m = true) := ⟨decide_eq_true ⟨Int.not_lt.1 g1, Int.not_le.1 g2⟩⟩
      clear g1 g2
      go_wp2_with fail
      go_roundw
      case rel => exact ⟨m + 1, by rw [hwm]; rfl, HM.out, KB2, ⟨fun k hk => by
        rcases Nat.lt_succ_iff_lt_or_eq.1 hk with h | h
        · exact HU.out k h
        · rw [h]; exact HW.out⟩⟩
      case measure => rw [hwm]; exact nat_dec HM.out
end Go.Proofs.Ytemhpbdlonfikaa.P
/- sc.Code, walked by hand. -/
namespace Go.Proofs.Ytemhpbdlonfikaa.P
open Go Go.RowKit Go.Proofs.YtemhpbdlonfikaaW.PrintWords Go.Proofs.YtemhpbdlonfikaaW.PrintLast Go.Proofs.YtemhpbdlonfikaaW.PrintMore
theorem svalid_o {w W : World} {ps : List Part} {p : Pg} {pv : List Value} (hp : PgV w pv p) (h : Owned w ps W) {v : Int} (hvr : Ev (fun k => prog_Valid.f k p.th p.rg p.lo p.r0 p.m0) v) :
    Calls Try.prog 36 #[.agg pv.toArray] W fun e W' => e = .returned (.int .i64 v) ∧ Owned w ps W' := by
  obtain ⟨A0, A1, A2, A3, A4, c0, c1, c2, c3, c4, rfl, h0, l0, h1, l1, h2, l2, h3, l3, h4, l4⟩ := hp.below h.below
  obtain ⟨K, hK⟩ := hvr.rounds
  refine (prog_Valid.calls K A0 c0 p.th A1 c1 p.rg A2 c2 p.lo A3 c3 p.r0 A4 c4 p.m0 v W h0 l0 h1 l1 h2 l2 h3 l3 h4 l4 hK).mono ?_
  rintro e W' ⟨rfl, hb⟩
  exact ⟨rfl, h.later hb⟩
theorem is_o {w W : World} {ps : List Part} {pv sv : List Value} {p : Pg} {u : St} (hp : PgV w pv p) (hs : StV w sv u) (h : Owned w ps W) (hg : p.rg.length = p.th.length) {b : Bool} (hb : isM p u.p u.q u.rg u.me u.bf u.lk = b) : Calls Try.prog 45 #[.agg pv.toArray, .agg sv.toArray] W fun e W' => e = .returned (.bool b) ∧ Owned w ps W' := by
  refine (is_c (hp.below h.below) (hs.below h.below) hg).mono ?_
  rintro e W' ⟨rfl, hB⟩
  exact ⟨by rw [hb], h.later hB⟩
theorem text_o {w W : World} {ps : List Part} {sv : List Value} {u : St} (hs : StV w sv u) (h : Owned w ps W) (ok : TextOK u.p u.q u.rg u.me u.bf u.lk) : Calls Try.prog 46 #[.agg sv.toArray] W fun e W' => e = .returned (.string (textT u.p u.q u.rg u.me u.bf u.lk)) ∧ Owned w ps W' := by
  obtain ⟨A0, A1, A2, A3, A4, c0, c1, c2, c3, c4, rfl, h0, l0, h1, l1, h2, l2, h3, l3, h4, l4⟩ := hs.below h.below
  refine (sc_text.calls A0 c0 u.p A1 c1 u.q A2 c2 u.rg A3 c3 u.me A4 c4 u.bf u.lk _ W h0 l0 h1 l1 h2 l2 h3 l3 h4 l4 (if_pos ok)).mono ?_
  rintro e W' ⟨rfl, hb⟩
  exact ⟨rfl, h.later hb⟩
set_option maxHeartbeats 8000000 in
set_option maxRecDepth 100000 in
theorem code_o {w : World} {pv sv : List Value} {p : Pg} {u : St} {X : ByteArray × Int} (hp : PgV w pv p) (hs : StV w sv u) (hvr : Ev (fun k => prog_Valid.f k p.th p.rg p.lo p.r0 p.m0) (validM p)) (hL : LenP p)
    (ok : validM p = 0 → isM p u.p u.q u.rg u.me u.bf u.lk = true → TextOK u.p u.q u.rg u.me u.bf u.lk) (hX : (if validM p = 0 then (if isM p u.p u.q u.rg u.me u.bf u.lk = true then (textT u.p u.q u.rg u.me u.bf u.lk, (0 : Int)) else (⟨#[]⟩, 5)) else (⟨#[]⟩, validM p)) = X) :
    Calls Try.prog 14 #[.agg pv.toArray, .agg sv.toArray] w fun e W' => e = .returned (.tuple #[.string X.1, .int .i64 X.2]) ∧ Below w.heap.size w W' := by
  have HP := Aside0.mk hp
  have HS := Aside0.mk hs
  obtain ⟨A0, A1, A2, A3, A4, c0, c1, c2, c3, c4, rfl, _, _, _, _, _, _, _, _, _, _⟩ := hp
  obtain ⟨B0, B1, B2, B3, B4, d0, d1, d2, d3, d4, rfl, _, _, _, _, _, _, _, _, _, _⟩ := hs
  obtain ⟨vv, hvv⟩ : ∃ x, validM p = x := ⟨_, rfl⟩
  obtain ⟨bb, hbb⟩ : ∃ x, isM p u.p u.q u.rg u.me u.bf u.lk = x := ⟨_, rfl⟩
  have HB := Aside0.mk hbb
  have HL := Aside0.mk hL
  have HZ := Aside0.mk hvv
  rw [hvv] at hvr ok hX
  rw [hbb] at ok hX
  have HV := Aside0.mk hvr
  have HT := Aside0.mk ok
  have E := Aside0.mk hX
  clear hvv hbb hL hvr ok hX
  have hu28 := Try.underlying28
  have hu42 := Try.underlying42
  go_enter Try.func14, Try.ntmps14
  go_upto_region 1 with fail
  generalize hW : World.alloc (World.alloc w _) _ = W0
  generalize h4 : w.heap.size + 1 = g
  have HO := Aside0.mk (two_begin w [.slice A0 p.th.length c0, .slice A1 p.rg.length c1, .slice A2 p.lo.length c2, .slice A3 p.r0.length c3, .slice A4 p.m0.length c4] [.slice B0 u.p.length d0, .slice B1 u.q.length d1, .slice B2 u.rg.length d2, .slice B3 u.me.length d3, .slice B4 u.bf.length d4, .int .i64 u.lk] W0 g hW.symm h4.symm)
  clear hW h4
  have hb2 := HO.out.blk (j := 0) rfl
  go_upto_region 2 with (first
    | (refine wpList_load_row rfl 28 (.tmp 2) rfl w.heap.size rfl 28 _ (0, 0) _ hb2 hu28 rfl (by kernel_rfl) ?_)
    | (go_at_call 36; (with_reducible refine (svalid_o HP.out HO.out HV.out).mono ?_); rintro e W1 ⟨rfl, h1⟩; have HO1 := Aside0.mk h1; clear h1))
  clear hb2 HO
  by_cases hv0 : vv = 0
  · subst hv0
    have TK0 := Aside0.mk (HT.out rfl)
    clear HT
    have hb2 := HO1.out.blk (j := 0) rfl
    have hb3 := HO1.out.blk (j := 1) rfl
    have hg := Aside0.mk (HL.out HZ.out).2.2.1
    have hgg := hg
    clear hg
    have hg := hgg
    clear hgg
    cases bb with
    | true =>
      have TK := Aside0.mk (TK0.out rfl)
      clear TK0
      have hX : (textT u.p u.q u.rg u.me u.bf u.lk, (0 : Int)) = X := by rw [← E.out, if_pos rfl, if_pos rfl]
      subst hX
      go_upto_region 6 with (first
        | (refine wpList_load_row rfl 28 (.tmp 2) rfl w.heap.size rfl 28 _ (0, 0) _ hb2 hu28 rfl (by kernel_rfl) ?_)
        | (refine wpList_load_row rfl 42 (.tmp 3) rfl g rfl 42 _ (0, 0) _ hb3 hu42 rfl (by kernel_rfl) ?_)
        | (go_at_call 45; (with_reducible refine (is_o HP.out HS.out HO1.out hg.out HB.out).mono ?_); rintro e W2 ⟨rfl, h2⟩; have HO2 := Aside0.mk h2; clear h2 hb2 hb3; have hb2 := HO2.out.blk (j := 0) rfl; have hb3 := HO2.out.blk (j := 1) rfl))
      clear HO1
      go_wp2_with (first
        | (refine wpList_load_row rfl 28 (.tmp 2) rfl w.heap.size rfl 28 _ (0, 0) _ hb2 hu28 rfl (by kernel_rfl) ?_)
        | (refine wpList_load_row rfl 42 (.tmp 3) rfl g rfl 42 _ (0, 0) _ hb3 hu42 rfl (by kernel_rfl) ?_)
        | (go_at_call 46; (with_reducible refine (text_o HS.out HO2.out TK.out).mono ?_); rintro e W3 ⟨rfl, h3⟩; have HO3 := Aside0.mk h3; clear h3))
      go_ret2
      exact ⟨rfl, HO3.out.below⟩
    | false =>
      have hX : ((⟨#[]⟩ : ByteArray), (5 : Int)) = X := by rw [← E.out, if_pos rfl, if_neg (by decide)]
      subst hX
      go_wp2_with (first
        | (refine wpList_load_row rfl 28 (.tmp 2) rfl w.heap.size rfl 28 _ (0, 0) _ hb2 hu28 rfl (by kernel_rfl) ?_)
        | (refine wpList_load_row rfl 42 (.tmp 3) rfl g rfl 42 _ (0, 0) _ hb3 hu42 rfl (by kernel_rfl) ?_)
        | (go_at_call 45; (with_reducible refine (is_o HP.out HS.out HO1.out hg.out HB.out).mono ?_); rintro e W2 ⟨rfl, h2⟩; have HO2 := Aside0.mk h2; clear h2))
      go_ret2
      exact ⟨rfl, HO2.out.below⟩
  · have hX : ((⟨#[]⟩ : ByteArray), vv) = X := by rw [← E.out, if_neg hv0]
    subst hX
    go_wp2_with fail
    go_ret2
    exact ⟨rfl, HO1.out.below⟩
end Go.Proofs.Ytemhpbdlonfikaa.P
/- sc.Read, walked by hand. -/
namespace Go.Proofs.Ytemhpbdlonfikaa.P
open Go Go.RowKit Go.Proofs.YtemhpbdlonfikaaW.PrintWords Go.Proofs.YtemhpbdlonfikaaW.PrintLast Go.Proofs.YtemhpbdlonfikaaW.PrintMore
def zS : Array Value := boxS (.slice none 0 0) (.slice none 0 0) (.slice none 0 0) (.slice none 0 0) (.slice none 0 0) 0
theorem state_o {w W : World} {ps : List Part} {pv : List Value} {p : Pg} {s : ByteArray} (hp : PgV w pv p) (h : Owned w ps W) (hs : s.size ≤ 4611686018427387904) (hL : p.lo.length ≤ 16 ∧ p.th.length ≤ 4 ∧ p.rg.length = p.th.length ∧ ∀ i : Nat, (rd_L4 p.rg (i : Int)).length ≤ 8) {X : Res} (hX : stateR (stateM (tsP p) p.lo.length s) = X) :
    Calls Try.prog 47 #[.agg pv.toArray, .string s] W fun e W' => ∃ (v0 v1 v2 v3 v4 : Value), e = .returned (.tuple #[.agg (boxS v0 v1 v2 v3 v4 X.2.2.2.2.2.1), .bool X.2.2.2.2.2.2]) ∧
      Owned w (ps ++ [.row (Kd.int .i64) 3 v0 X.1, .row (Kd.int .i64) 3 v1 X.2.1, .rows (Kd.int .i64) 26 v2 X.2.2.1 2, .row (Kd.int .i64) 2 v3 X.2.2.2.1, .rows k59 57 v4 X.2.2.2.2.1 59]) W' := by
  subst hX
  refine (state_c (hp.below h.below) hs hL.1 hL.2.1 hL.2.2.1 hL.2.2.2).mono ?_
  rintro e W' ⟨v0, v1, v2, v3, v4, rfl, hO⟩
  exact ⟨v0, v1, v2, v3, v4, rfl, h.more hO⟩
theorem sr_begin (w : World) (pv : List Value) (W0 : World) (g : Nat) (h : W0 = ((w.alloc (.cells pv.toArray 28)).alloc (.cells (boxS (.slice none 0 0) (.slice none 0 0) (.slice none 0 0) (.slice none 0 0) (.slice none 0 0) 0) 42))) (h4 : g = w.heap.size + 1) :
    Owned w [.box w.heap.size 28 pv.toArray, .box g 42 (boxS (.slice none 0 0) (.slice none 0 0) (.slice none 0 0) (.slice none 0 0) (.slice none 0 0) 0)] W0 := two_begin w pv [.slice none 0 0, .slice none 0 0, .slice none 0 0, .slice none 0 0, .slice none 0 0, .int .i64 0] W0 g h h4
theorem StR.nils {w W : World} (h : Below w.heap.size w W) : StR w.heap.size W [.slice none 0 0, .slice none 0 0, .slice none 0 0, .slice none 0 0, .slice none 0 0, .int .i64 0] ([], [], [], [], [], 0) :=
  ⟨_, _, _, _, _, rfl, Kd.R_nil _ _ _ _ _, Kd.R_nil _ _ _ _ _, Kd.S_nil _ _ _ _ _, Kd.R_nil _ _ _ _ _, Kd.S_nil _ _ _ _ _⟩
theorem readA_ok {p : Pg} {s : ByteArray} {u : StT} (h0 : validM p = 0) (h : stateM (tsP p) p.lo.length s = some u) : readA p s = (u.1, u.2.1, u.2.2.1, u.2.2.2.1, u.2.2.2.2.1, u.2.2.2.2.2, 0) := by unfold readA; rw [if_pos h0, h]; rfl
theorem readA_no {p : Pg} {s : ByteArray} (h0 : validM p = 0) (h : stateM (tsP p) p.lo.length s = none) : readA p s = ([], [], [], [], [], 0, 5) := by unfold readA; rw [if_pos h0, h]; rfl
theorem readA_bad {p : Pg} {s : ByteArray} (h0 : ¬ validM p = 0) : readA p s = ([], [], [], [], [], 0, validM p) := by unfold readA; rw [if_neg h0]; rfl
set_option maxHeartbeats 8000000 in
set_option maxRecDepth 100000 in
theorem read_c {w : World} {p : Pg} {pv : List Value} {s : ByteArray} (hp : PgV w pv p) (hL : LenP p) (hvr : Ev (fun k => prog_Valid.f k p.th p.rg p.lo p.r0 p.m0) (validM p)) (hs : s.size ≤ 4611686018427387904) :
    Calls Try.prog 16 #[.agg pv.toArray, .string s] w fun e W' => ∃ av, e = .returned (.tuple #[.agg av.toArray, .int .i64 (readA p s).2.2.2.2.2.2]) ∧ StR w.heap.size W' av (stOf (readA p s)) ∧ Below w.heap.size w W' := by
  obtain ⟨X, hX⟩ : ∃ X, readA p s = X := ⟨_, rfl⟩
  rw [hX]
  have EX := Aside0.mk hX
  have HP := Aside0.mk hp
  obtain ⟨A0, A1, A2, A3, A4, c0, c1, c2, c3, c4, rfl, _, _, _, _, _, _, _, _, _, _⟩ := hp
  obtain ⟨vv, hvv⟩ : ∃ x, validM p = x := ⟨_, rfl⟩
  have HL := Aside0.mk hL
  have HZ := Aside0.mk hvv
  have HS := Aside0.mk hs
  rw [hvv] at hvr
  have HV := Aside0.mk hvr
  clear hvv hL hvr hX hs
  have hu28 := Try.underlying28
  have hu42 := Try.underlying42
  go_enter Try.func16, Try.ntmps16
  go_upto_region 1 with fail
  generalize hW : World.alloc (World.alloc w _) _ = W0
  generalize h4 : w.heap.size + 1 = g
  have HO := Aside0.mk (sr_begin w [.slice A0 p.th.length c0, .slice A1 p.rg.length c1, .slice A2 p.lo.length c2, .slice A3 p.r0.length c3, .slice A4 p.m0.length c4] W0 g hW.symm h4.symm)
  clear hW h4
  have hb2 := HO.out.blk (j := 0) rfl
  go_upto_region 2 with (first
    | (refine wpList_load_row rfl 28 (.tmp 2) rfl w.heap.size rfl 28 _ (0, 0) _ hb2 hu28 rfl (by kernel_rfl) ?_)
    | (go_at_call 36; (with_reducible refine (svalid_o HP.out HO.out HV.out).mono ?_); rintro e W1 ⟨rfl, h1⟩; have HO1 := Aside0.mk h1; clear h1))
  clear hb2 HO
  by_cases hv0 : vv = 0
  · subst hv0
    have hL := HL.out HZ.out
    have HL2 := Aside0.mk hL
    clear hL
    obtain ⟨Y, hY⟩ : ∃ Y, stateR (stateM (tsP p) p.lo.length s) = Y := ⟨_, rfl⟩
    have HY := Aside0.mk hY
    clear hY
    have hb2 := HO1.out.blk (j := 0) rfl
    go_upto_region 5 with (first
      | (refine wpList_load_row rfl 28 (.tmp 2) rfl w.heap.size rfl 28 _ (0, 0) _ hb2 hu28 rfl (by kernel_rfl) ?_)
      | (go_at_call 47; (with_reducible refine (state_o HP.out HO1.out HS.out HL2.out HY.out).mono ?_); rintro e W2 ⟨v0, v1, v2, v3, v4, rfl, h2⟩; obtain ⟨V0, d0, rfl⟩ := row_slice (h2.get (j := 2) rfl); obtain ⟨V1, d1, rfl⟩ := row_slice (h2.get (j := 3) rfl); obtain ⟨V2, d2, rfl⟩ := rows_slice (h2.get (j := 4) rfl); obtain ⟨V3, d3, rfl⟩ := row_slice (h2.get (j := 5) rfl); obtain ⟨V4, d4, rfl⟩ := rows_slice (h2.get (j := 6) rfl); have HO2 := Aside0.mk (h2.box 42 zS); clear h2)
      | (refine wpList_store_row rfl 42 (.tmp 7) (.tmp 19) rfl W2.heap.size _ rfl rfl 42 _ (heap_alloc_new W2 _) (box_size ..) rfl (box_one ..) ?_))
    have HO3 := Aside0.mk (HO2.out.setAll (j := 7) rfl (boxS (.slice V0 Y.1.length d0) (.slice V1 Y.2.1.length d1) (.slice V2 Y.2.2.1.length d2) (.slice V3 Y.2.2.2.1.length d3) (.slice V4 Y.2.2.2.2.1.length d4) Y.2.2.2.2.2.1))
    clear hb2 HO1 HO2
    revert HO3
    rw [show W2.alloc (.cells #[.slice none 0 0, .slice none 0 0, .slice none 0 0, .slice none 0 0, .slice none 0 0, .int .i64 0] 42 (0, 0)) = W2.alloc (.cells zS 42 (0, 0)) from rfl]
    generalize World.setRow _ _ _ = W3
    generalize W2.heap.size = g7
    intro HO3
    have hb4 := HO3.out.blk (j := 1) rfl
    have hb7 := HO3.out.blk (j := 7) rfl
    have hY := HY.out
    cases hst : stateM (tsP p) p.lo.length s with
    | none =>
      have hX := EX.out
      rw [readA_no HZ.out hst] at hX
      subst hX
      rw [hst] at hY
      subst hY
      clear hb7
      go_wp2_with (refine wpList_store_row rfl 42 (.tmp 4) (.tmp 23) rfl g zS rfl rfl 42 _ hb4 nb_size rfl nb_one ?_)
      have HF := Aside0.mk (HO3.out.setAll (j := 1) rfl zS)
      refine bodyPost_ret (results_ct rfl _ _ g 42 _ (0, 0) _ rfl (HF.out.blk (j := 1) rfl) hu42 rfl (by kernel_rfl)) rfl ⟨_, rfl, StR.nils HF.out.below, HF.out.below⟩
    | some u =>
      have hX := EX.out
      rw [readA_ok HZ.out hst] at hX
      subst hX
      rw [hst] at hY
      subst hY
      go_wp2_with (first
        | (refine wpList_load_row rfl 42 (.tmp 7) rfl g7 rfl 42 _ (0, 0) _ hb7 hu42 rfl (box_size ..) ?_)
        | (refine wpList_store_row rfl 42 (.tmp 4) (.tmp 24) rfl g _ rfl rfl 42 _ hb4 (box_size ..) rfl (box_one ..) ?_))
      have HF := Aside0.mk (HO3.out.setAll (j := 1) rfl (boxS (.slice V0 u.1.length d0) (.slice V1 u.2.1.length d1) (.slice V2 u.2.2.1.length d2) (.slice V3 u.2.2.2.1.length d3) (.slice V4 u.2.2.2.2.1.length d4) u.2.2.2.2.2))
      refine bodyPost_ret (results_ct rfl _ _ g 42 _ (0, 0) _ rfl (HF.out.blk (j := 1) rfl) hu42 rfl (box_size ..)) rfl ⟨[.slice V0 u.1.length d0, .slice V1 u.2.1.length d1, .slice V2 u.2.2.1.length d2, .slice V3 u.2.2.2.1.length d3, .slice V4 u.2.2.2.2.1.length d4, .int .i64 u.2.2.2.2.2], rfl, StR.own ((HF.out.tail 2).cut 5), HF.out.below⟩
  · have hX := EX.out
    rw [readA_bad (by rw [HZ.out]; exact hv0), HZ.out] at hX
    subst hX
    have hb4 := HO1.out.blk (j := 1) rfl
    go_wp2_with (refine wpList_store_row rfl 42 (.tmp 4) (.tmp 13) rfl g zS rfl rfl 42 _ hb4 nb_size rfl nb_one ?_)
    have HF := Aside0.mk (HO1.out.setAll (j := 1) rfl zS)
    refine bodyPost_ret (results_ct rfl _ _ g 42 _ (0, 0) _ rfl (HF.out.blk (j := 1) rfl) hu42 rfl (by kernel_rfl)) rfl ⟨_, rfl, StR.nils HF.out.below, HF.out.below⟩
end Go.Proofs.Ytemhpbdlonfikaa.P
/- ScCodes' own walk: programs and states in memory of their own, the blocks told. -/
namespace Go.Proofs.Ytemhpbdlonfikaa.P
open Go Go.RowKit Go.Proofs.YtemhpbdlonfikaaW.PrintWords Go.Proofs.YtemhpbdlonfikaaW.PrintLast Go.Proofs.YtemhpbdlonfikaaW.PrintMore

theorem pg_info {W : World} {pv : List Value} {p : Pg} (h : PgV W pv p) : (Try.prog.info? 28).map (·.size) = some pv.toArray.size := by
  obtain ⟨A0, A1, A2, A3, A4, c0, c1, c2, c3, c4, rfl, _⟩ := h
  kernel_rfl
theorem st_info {W : World} {sv : List Value} {s : St} (h : StV W sv s) : (Try.prog.info? 42).map (·.size) = some sv.toArray.size := by
  obtain ⟨A0, A1, A2, A3, A4, c0, c1, c2, c3, c4, rfl, _⟩ := h
  kernel_rfl
theorem pg_one {W : World} {pv : List Value} {p : Pg} (h : PgV W pv p) : pv.toArray.all (·.oneCell') = true := by
  obtain ⟨A0, A1, A2, A3, A4, c0, c1, c2, c3, c4, rfl, _⟩ := h
  rw [List.all_toArray]
  rfl
theorem st_one {W : World} {sv : List Value} {s : St} (h : StV W sv s) : sv.toArray.all (·.oneCell') = true := by
  obtain ⟨A0, A1, A2, A3, A4, c0, c1, c2, c3, c4, rfl, _⟩ := h
  rw [List.all_toArray]
  rfl
theorem pg_five {W : World} {pv : List Value} {p : Pg} (h : PgV W pv p) : 5 = pv.toArray.size := by
  obtain ⟨A0, A1, A2, A3, A4, c0, c1, c2, c3, c4, rfl, _⟩ := h
  rfl
theorem st_six {W : World} {sv : List Value} {s : St} (h : StV W sv s) : 6 = sv.toArray.size := by
  obtain ⟨A0, A1, A2, A3, A4, c0, c1, c2, c3, c4, rfl, _⟩ := h
  rfl
/-- A program in memory of its own: its blocks from a place on, and of a kind. -/
def PgR (B : Nat) (ok : Nat → Prop) (W : World) (vs : List Value) (p : Pg) : Prop :=
  ∃ v0 v1 v2 v3 v4 : Value, vs = [v0, v1, v2, v3, v4] ∧ Kd.S (Kd.slice 87 k87) 85 W B ok v0 p.th ∧ Kd.S (Kd.slice 9 Kd.string) 24 W B ok v1 p.rg ∧ Kd.R Kd.string 9 W B ok v2 p.lo ∧ Kd.S (Kd.slice 2 (Kd.int .i64)) 26 W B ok v3 p.r0 ∧ Kd.R (Kd.int .i64) 2 W B ok v4 p.m0
theorem PgR.move {B : Nat} {ok ok' : Nat → Prop} {W W1 : World} {vs : List Value} {p : Pg} (h : PgR B ok W vs p) (hm : ∀ k, ok k → k < W.heap.size → W1.heap[k]? = W.heap[k]? ∧ ok' k) : PgR B ok' W1 vs p := by
  obtain ⟨v0, v1, v2, v3, v4, rfl, h0, h1, h2, h3, h4⟩ := h
  exact ⟨v0, v1, v2, v3, v4, rfl, S_mv h0 hm, S_mv h1 hm, R_mv h2 hm, S_mv h3 hm, R_mv h4 hm⟩
theorem PgR.read {B : Nat} {ok : Nat → Prop} {W : World} {vs : List Value} {p : Pg} (h : PgR B ok W vs p) : PgV W vs p := by
  obtain ⟨v0, v1, v2, v3, v4, rfl, h0, h1, h2, h3, h4⟩ := h
  obtain ⟨E0, f0, rfl, m0, k0⟩ := Kd.S_reads h0
  obtain ⟨E1, f1, rfl, m1, k1⟩ := Kd.S_reads h1
  obtain ⟨E2, f2, rfl, m2, k2⟩ := Kd.R_reads h2
  obtain ⟨E3, f3, rfl, m3, k3⟩ := Kd.S_reads h3
  obtain ⟨E4, f4, rfl, m4, k4⟩ := Kd.R_reads h4
  exact ⟨E0, E1, E2, E3, E4, f0, f1, f2, f3, f4, rfl, k0, m0, k1, m1, k2, m2, k3, m3, k4, m4⟩
/-- The same of a state, two of whose rows may be one. -/
def StK (B : Nat) (ok : Nat → Prop) (W : World) (vs : List Value) (u : St) : Prop :=
  ∃ v0 v1 v2 v3 v4 : Value, vs = [v0, v1, v2, v3, v4, .int .i64 u.lk] ∧ Kd.R (Kd.int .i64) 3 W B ok v0 u.p ∧ Kd.R (Kd.int .i64) 3 W B ok v1 u.q ∧ Kd.S (Kd.slice 2 (Kd.int .i64)) 26 W B ok v2 u.rg ∧ Kd.R (Kd.int .i64) 2 W B ok v3 u.me ∧ Kd.S (Kd.slice 59 k59) 57 W B ok v4 u.bf
theorem StK.move {B : Nat} {ok ok' : Nat → Prop} {W W1 : World} {vs : List Value} {p : St} (h : StK B ok W vs p) (hm : ∀ k, ok k → k < W.heap.size → W1.heap[k]? = W.heap[k]? ∧ ok' k) : StK B ok' W1 vs p := by
  obtain ⟨v0, v1, v2, v3, v4, rfl, h0, h1, h2, h3, h4⟩ := h
  exact ⟨v0, v1, v2, v3, v4, rfl, R_mv h0 hm, R_mv h1 hm, S_mv h2 hm, R_mv h3 hm, S_mv h4 hm⟩
theorem StK.read {B : Nat} {ok : Nat → Prop} {W : World} {vs : List Value} {s : St} (h : StK B ok W vs s) : StV W vs s := by
  obtain ⟨v0, v1, v2, v3, v4, rfl, h0, h1, h2, h3, h4⟩ := h
  obtain ⟨E0, f0, rfl, m0, k0⟩ := Kd.R_reads h0
  obtain ⟨E1, f1, rfl, m1, k1⟩ := Kd.R_reads h1
  obtain ⟨E2, f2, rfl, m2, k2⟩ := Kd.S_reads h2
  obtain ⟨E3, f3, rfl, m3, k3⟩ := Kd.R_reads h3
  obtain ⟨E4, f4, rfl, m4, k4⟩ := Kd.S_reads h4
  exact ⟨E0, E1, E2, E3, E4, f0, f1, f2, f3, f4, rfl, k0, m0, k1, m1, k2, m2, k3, m3, k4, m4⟩
theorem exec_store_row {o : Oper} {a : Act} {w : World} {ty : TypeId} {x y : Operand} (g : Nat) {cells : Array Value} {t : TypeId} {old : Array Value} (hg : w.heap[g]? = some (.cells old t (0, 0))) (hi : (Try.prog.info? ty).map (·.size) = some cells.size)
    (hold : old.size = cells.size) (h1 : cells.all (·.oneCell') = true) (ho : o.op = .store ty x y) (hx : a.eval x = .pointer (some ⟨g, 0, none⟩)) (hy : a.eval y = .agg cells) :
    (execOp a.eval o).run Try.prog w = .ok .skip (w.setRow g cells) := by
  unfold execOp
  simp only [ho, hx, hy, Instr.storeAt, Instr.sureAddr, Sem.run_bind, Sem.run_pure, Result.andThen_ok, run_storeVar_row w g t ty old cells hg hi hold h1]
theorem exec_load_row {o : Oper} {a : Act} {w : World} {ty : TypeId} {x : Operand} (g : Nat) {cs : Array Value} {t : TypeId} {fr : Nat × Nat} {fs : _} (hg : w.heap[g]? = some (.cells cs t fr))
    (hu : Try.prog.underlying ty = some (.struct fs)) (hi : (Try.prog.info? ty).map (·.size) = some cs.size) (ho : o.op = .load ty x) (hx : a.eval x = .pointer (some ⟨g, 0, none⟩)) :
    (execOp a.eval o).run Try.prog w = .ok (.value (.agg cs)) w := by
  unfold execOp
  simp only [ho, hx, Instr.loadAt, Instr.sureAddr, Sem.run_bind, Sem.run_pure, Result.andThen_ok, run_loadVar_row w g t ty cs fr _ hg hu rfl hi]
end Go.Proofs.Ytemhpbdlonfikaa.P
/- The copy of a state and of a program, walked by hand. -/
namespace Go.Proofs.Ytemhpbdlonfikaa.P
open Go Go.RowKit Go.Proofs.YtemhpbdlonfikaaW.PrintWords Go.Proofs.YtemhpbdlonfikaaW.PrintLast Go.Proofs.YtemhpbdlonfikaaW.PrintMore
theorem StR.parts {w W : World} {ps : List Part} {j0 j1 j2 j3 j4 : Nat} {v0 v1 v2 v3 v4 : Value} {P Q : List Int} {R : List (List Int)} {M : List Int} {B : List (List S59)} {K : Int} (h : Owned w ps W)
    (h0 : ps[j0]? = some (.row (Kd.int .i64) 3 v0 P)) (h1 : ps[j1]? = some (.row (Kd.int .i64) 3 v1 Q)) (h2 : ps[j2]? = some (.rows (Kd.int .i64) 26 v2 R 2)) (h3 : ps[j3]? = some (.row (Kd.int .i64) 2 v3 M)) (h4 : ps[j4]? = some (.rows k59 57 v4 B 59))
    (n : j0 ≠ j1) (n' : j2 ≠ j3) : StR w.heap.size W [v0, v1, v2, v3, v4, .int .i64 K] (P, Q, R, M, B, K) := by
  obtain ⟨col, _, hc⟩ := h
  have h0 : Kd.R (Kd.int .i64) 3 W w.heap.size (fun k => col k = j0) v0 P := hc _ _ h0
  have h1 : Kd.R (Kd.int .i64) 3 W w.heap.size (fun k => col k = j1) v1 Q := hc _ _ h1
  have h2 : Kd.S (Kd.slice 2 (Kd.int .i64)) 26 W w.heap.size (fun k => col k = j2) v2 R := hc _ _ h2
  have h3 : Kd.R (Kd.int .i64) 2 W w.heap.size (fun k => col k = j3) v3 M := hc _ _ h3
  have h4 : Kd.S (Kd.slice 59 k59) 57 W w.heap.size (fun k => col k = j4) v4 B := hc _ _ h4
  refine ⟨v0, v1, v2, v3, v4, rfl, Kd.R_mono h0 (fun k hk e => n ?_), Kd.R_mono h1 (fun k hk e => n ?_), Kd.S_mono h2 (fun k hk e => n' ?_), Kd.R_mono h3 (fun _ _ => trivial), Kd.S_mono h4 (fun _ _ => trivial)⟩
  · exact hk.symm.trans (h1.1 k e.symm)
  · exact (h0.1 k e.symm).symm.trans hk
  · exact hk.symm.trans (h3.1 k e.symm)
theorem two_box (w : World) (t t' : TypeId) (a b : Array Value) (W0 : World) (g : Nat) (h : W0 = ((w.alloc (.cells a t (0, 0))).alloc (.cells b t' (0, 0)))) (h4 : g = w.heap.size + 1) :
    Owned w [.box w.heap.size t a, .box g t' b] W0 := by
  have q := ((Owned.nil w).box t a).box t' b
  rw [← h] at q
  simp only [sz_alloc] at q
  rw [← h4] at q
  exact q
theorem fit9 {n : Nat} (h : n < 17592186044416) : n * 8 ≤ 140737488355328 := by omega
theorem fit59 {n : Nat} (h : n < 8796093022208) : n * 16 ≤ 140737488355328 := by omega
theorem fit87 {n : Nat} (h : n < 3518437208883) : n * 40 ≤ 140737488355328 := by omega
theorem lt58 {n m : Nat} (h : n < m) (t : m < 5864062014805) : n < 5864062014805 := by omega
theorem take_nx {α : Type} {xs : List α} {i : Nat} {d : α} (h : i < xs.length) : xs.take i ++ [xs.getD ((i : Int)).toNat d] = xs.take (i + 1) := by rw [Int.toNat_natCast]; exact take_snoc xs d i h
theorem all_at {α : Type} {l : List α} {d : α} {F : α → Prop} (h : ∀ x ∈ l, F x) {i : Nat} (hi : i < l.length) : F (l.getD ((i : Int)).toNat d) := by rw [Int.toNat_natCast]; exact at_all h hi
theorem copyr_c {W : World} {A : Option Addr} {c : Nat} {l : List (List Int)} (h : Kd.C (Kd.slice 2 (Kd.int .i64)) W A l.length l) (hc : l.length ≤ c) (hl : l.length < 5864062014805) (hr : ∀ x ∈ l, x.length < 17592186044416) :
    Calls Try.prog 44 #[.slice A l.length c] W fun e W1 => ∃ v, e = .returned v ∧ Below W.heap.size W W1 ∧ Kd.S (Kd.slice 2 (Kd.int .i64)) 26 W1 W.heap.size (fun k => W.heap.size ≤ k) v l := by
  obtain ⟨K, hK⟩ := (copy_ints hl hr).rounds
  refine (weirref09_Copy.calls K A c l l W h hc hK).mono ?_
  rintro e W1 ⟨v, rfl, hS, hb⟩
  exact ⟨v, rfl, hb, Kd.S_mono (Kd.S_bound hS) (fun k hk => hk.2.1)⟩
def cpT1 : Bool × List (List Nat × List Nat) := (true, [([], []), ([], []), ([1], [1]), ([0, 2], [0, 2]), ([], []), ([], []), ([5], [5]), ([4, 6, 3], [4, 6]), ([], []), ([8], [8]), ([9, 7], [9]), ([], []), ([], []), ([12], [12]), ([11, 13, 10], [11, 13]), ([], []), ([15], [15]), ([3, 7, 10, 14, 16], [3, 7, 10, 14, 16]), ([], []), ([18, 17, 14, 0, 1, 2, 3, 4, 5, 6, 7, 8, 9, 10, 11, 12, 13, 14, 15, 16, 17, 18], [17, 18])])
def cpB1 : List Nat := [0, 0, 2, 7, 0, 0, 32, 127, 0, 256, 1023, 0, 0, 4096, 16383, 0, 32768, 131071, 0, 524287]
theorem cp_tab1 : rtab .any (opsOf Try.f13 1) = cpT1 := by kernel_rfl
theorem cp_bits1 : waitsOk cpT1.2 cpB1 = true := by kernel_rfl
def cpT5 : Bool × List (List Nat × List Nat) := (true, [([], []), ([0], [0]), ([], []), ([], []), ([3], [3]), ([], []), ([4, 5], [4, 5]), ([6], [6]), ([2, 7], [2, 7]), ([8], [8]), ([1, 9, 8], [1, 9]), ([0, 1, 2, 3, 4, 5, 6, 7, 8, 9, 10], []), ([11, 10, 10, 0, 1, 2, 3, 4, 5, 6, 7, 8, 9, 10], [10, 11])])
def cpB5 : List Nat := [0, 1, 0, 0, 8, 0, 56, 120, 252, 508, 1023, 2047, 4095]
theorem cp_tab5 : rtab .any (opsOf Try.f13 5) = cpT5 := by kernel_rfl
theorem cp_bits5 : waitsOk cpT5.2 cpB5 = true := by kernel_rfl
set_option maxHeartbeats 8000000 in
set_option maxRecDepth 100000 in
theorem copys_c {w : World} {u : StT} {sv : List Value} (hs : StV w sv (toSt u)) (F : StFit u) : Calls Try.prog 13 #[.agg sv.toArray] w fun e W' => ∃ dv, e = .returned (.agg dv.toArray) ∧ StR w.heap.size W' dv u ∧ Below w.heap.size w W' := by
  obtain ⟨P, Q, R, M, B, K⟩ := u
  obtain ⟨A0, A1, A2, A3, A4, c0, c1, c2, c3, c4, rfl, x0, l0, x1, l1, x2, l2, x3, l3, x4, l4⟩ := hs
  have FF := Aside0.mk F
  have X0 := Aside0.mk x0
  have X1 := Aside0.mk x1
  have X2 := Aside0.mk (And.intro x2 l2)
  have X3 := Aside0.mk x3
  have X4 := Aside0.mk x4
  clear F x0 x1 x2 x3 x4 l0 l1 l2 l3 l4
  go_enter Try.func13, Try.ntmps13
  go_upto_region 1 with fail
  generalize hW : World.alloc (World.alloc w _) _ = W0
  generalize h4 : w.heap.size + 1 = g
  have HO := Aside0.mk (two_box w 42 42 (boxS (.slice A0 P.length c0) (.slice A1 Q.length c1) (.slice A2 R.length c2) (.slice A3 M.length c3) (.slice A4 B.length c4) K) zS W0 g hW.symm h4.symm).drew
  clear hW h4
  obtain ⟨y0, y1, y2, y3, y4, y5, _⟩ := blkA6 (HO.out.blk (j := 0) rfl)
  refine start_ (n := 20) (S := fun w' => w'.cell? ⟨w.heap.size, 0, none⟩ = some (.slice A0 P.length c0) ∧ w'.cell? ⟨w.heap.size, 1, none⟩ = some (.slice A1 Q.length c1) ∧ w'.cell? ⟨w.heap.size, 2, none⟩ = some (.slice A2 R.length c2) ∧ w'.cell? ⟨w.heap.size, 3, none⟩ = some (.slice A3 M.length c3) ∧ w'.cell? ⟨w.heap.size, 5, none⟩ = some (.int .i64 K)) (ds := [19]) #[false, false, false, false, false, false, false, false, false, false, false, false, false, false, false, false, false, false, false, false] (by kernel_rfl) rfl rfl ⟨y0, y1, y2, y3, y5⟩ (fun hHeld => ?_); refine with_tabW cp_tab1 cp_bits1 (fun HT_ HW_ => ?_)
  clear y0 y1 y2 y3 y4 y5
  generalize World.drew _ = W1 at HO hHeld ⊢
  refine pu_ 1 6 ?_
  refine pu_ 5 10 ?_
  refine pu_ 8 13 ?_
  refine pu_ 12 17 ?_
  refine pu_ 15 20 ?_
  refine ta_ 2 7 ?_ hHeld
  refine ta_ 6 11 ?_ hHeld
  refine ta_ 9 14 ?_ hHeld
  refine ta_ 13 18 ?_ hHeld
  refine ta_ 16 21 ?_ hHeld
  refine inv_ 1 #[true, true, true, true, true, true, true, true, true, true, true, true, true, true, true, true, true, true, true, false] (w0 := W1) [(0, 5), (3, 8), (4, 9), (7, 12), (10, 15), (11, 16), (14, 19), (18, 3), (17, 22)] (fun e => match e with | 3 => [0] | 7 => [4] | 14 => [11] | _ => []) (fun e vs ok W => match e with | 0 => Kd.R (Kd.int .i64) 3 W W1.heap.size ok (vs 0) [] | 3 => Kd.R (Kd.int .i64) 3 W W1.heap.size ok (vs 3) ([] ++ P) | 4 => Kd.R (Kd.int .i64) 3 W W1.heap.size ok (vs 4) [] | 7 => Kd.R (Kd.int .i64) 3 W W1.heap.size ok (vs 7) ([] ++ Q) | 10 => Kd.S (Kd.slice 2 (Kd.int .i64)) 26 W W1.heap.size ok (vs 10) R | 11 => Kd.R (Kd.int .i64) 2 W W1.heap.size ok (vs 11) [] | 14 => Kd.R (Kd.int .i64) 2 W W1.heap.size ok (vs 14) ([] ++ M) | 18 => ∃ g, vs 18 = .pointer (some ⟨g, 0, none⟩) ∧ ok g ∧ W1.heap.size ≤ g ∧ W.heap[g]? = some (.cells zS 42 (0, 0)) | 17 => vs 17 = .agg #[vs 3, vs 7, vs 10, vs 14, .slice none 0 0, .int .i64 K] | _ => True) HT_.out (by kernel_rfl) (by rfl) ?iS ?iE ?iC
  case iS => exact fun W hb => ⟨pw_cell_below hb hHeld.1, pw_cell_below hb hHeld.2.1, pw_cell_below hb hHeld.2.2.1, pw_cell_below hb hHeld.2.2.2.1, pw_cell_below hb hHeld.2.2.2.2⟩
  case iE =>
    have hx : ∀ W, Below W1.heap.size W1 W → Below w.heap.size w W := fun W hb => below_then HO.out.below HO.out.below.size hb
    refine evs_cons ?_ (evs_cons ?_ (evs_cons ?_ (evs_cons ?_ (evs_cons ?_ (evs_cons ?_ (evs_cons ?_ (evs_cons ?_ (evs_cons ?_ (evs_nil)))))))))
    · exact ev_lit (Kd.int .i64) 3 rfl rfl rfl rfl (fun _ _ => by first | (go_simp; done) | (go_simp; rfl))
    · exact ev_append (Kd.int .i64) 0 5 (.tmp 7) 29 3 (.int .i64 0) 8 [] P _ _ _ (by kernel_rfl) rfl rfl rfl rfl (by kernel_rfl) (by decide) (by simp) rfl rfl rfl Try.underlying29 info3 rfl (by decide) (by decide) (fun _ _ => rfl) (fun W hb => Kd.C_below X0.out (hx W hb)) (fun _ _ _ h_ => h_) (by rw [List.length_nil, Nat.zero_add]; exact fit9 FF.out.p)
    · exact ev_lit (Kd.int .i64) 3 rfl rfl rfl rfl (fun _ _ => by first | (go_simp; done) | (go_simp; rfl))
    · exact ev_append (Kd.int .i64) 4 9 (.tmp 11) 29 3 (.int .i64 0) 8 [] Q _ _ _ (by kernel_rfl) rfl rfl rfl rfl (by kernel_rfl) (by decide) (by simp) rfl rfl rfl Try.underlying29 info3 rfl (by decide) (by decide) (fun _ _ => rfl) (fun W hb => Kd.C_below X1.out (hx W hb)) (fun _ _ _ h_ => h_) (by rw [List.length_nil, Nat.zero_add]; exact fit9 FF.out.q)
    · exact ev_call (fun v ok W => Kd.S (Kd.slice 2 (Kd.int .i64)) 26 W W1.heap.size ok v R) (fun _ _ _ _ _ h hm => S_mv h hm) Try.func44 (by kernel_rfl) rfl #[.slice A2 R.length c2] rfl rfl rfl rfl rfl (fun _ _ => ag_) (fun W hb => (copyr_c (Kd.C_below X2.out.1 (hx W hb)) X2.out.2 FF.out.rg FF.out.rgs).mono (by rintro e W2 ⟨v, rfl, hb2, hS⟩; exact ⟨v, rfl, hb2, Kd.S_lower hS hb.size⟩))
    · exact ev_lit (Kd.int .i64) 2 rfl rfl rfl rfl (fun _ _ => by first | (go_simp; done) | (go_simp; rfl))
    · exact ev_append (Kd.int .i64) 11 16 (.tmp 18) 26 2 (.int .i64 0) 8 [] M _ _ _ (by kernel_rfl) rfl rfl rfl rfl (by kernel_rfl) (by decide) (by simp) rfl rfl rfl Try.underlying26 info2 rfl (by decide) (by decide) (fun _ _ => rfl) (fun W hb => Kd.C_below X3.out (hx W hb)) (fun _ _ _ h_ => h_) (by rw [List.length_nil, Nat.zero_add]; exact fit9 FF.out.me)
    · exact ev_box zS 42 rfl rfl rfl rfl (fun _ _ => by first | (go_simp; done) | (go_simp; rfl))
    · refine ev_val (fun vs => .agg #[vs 3, vs 7, vs 10, vs 14, .slice none 0 0, .int .i64 K]) rfl rfl rfl rfl (fun vs vs' h_ => by simp only [h_ 3 (by decide), h_ 7 (by decide), h_ 10 (by decide), h_ 14 (by decide)]) (by kernel_rfl) (by kernel_rfl) (by simp) (fun A vs W h1 h2 h3 => ?_)
      have q3 := h1 (3, 8) (by decide) (by kernel_rfl)
      obtain ⟨_, k3⟩ := h3 (3, 8) (by decide) (by kernel_rfl) (by decide)
      have q7 := h1 (7, 12) (by decide) (by kernel_rfl)
      obtain ⟨_, k7⟩ := h3 (7, 12) (by decide) (by kernel_rfl) (by decide)
      have q10 := h1 (10, 15) (by decide) (by kernel_rfl)
      obtain ⟨_, k10⟩ := h3 (10, 15) (by decide) (by kernel_rfl) (by decide)
      have q14 := h1 (14, 19) (by decide) (by kernel_rfl)
      obtain ⟨_, k14⟩ := h3 (14, 19) (by decide) (by kernel_rfl) (by decide)
      obtain ⟨A3, c3, e3⟩ := Kd.R_slice (show Kd.R (Kd.int .i64) 3 W W1.heap.size _ (vs 3) _ from k3)
      obtain ⟨A7, c7, e7⟩ := Kd.R_slice (show Kd.R (Kd.int .i64) 3 W W1.heap.size _ (vs 7) _ from k7)
      obtain ⟨A10, c10, e10⟩ := Kd.S_slice (show Kd.S (Kd.slice 2 (Kd.int .i64)) 26 W W1.heap.size _ (vs 10) _ from k10)
      obtain ⟨A14, c14, e14⟩ := Kd.R_slice (show Kd.R (Kd.int .i64) 2 W W1.heap.size _ (vs 14) _ from k14)
      simp only [e3] at q3 ⊢
      simp only [e7] at q7 ⊢
      simp only [e10] at q10 ⊢
      simp only [e14] at q14 ⊢
      simp [execOp, h2, q3, q7, q10, q14]
      go_simp
      first | done | rfl
  case iC =>
    intro vs col W2 hb hF
    obtain ⟨g3, e18, k18, l18, b18⟩ := hF (18, 3) (by decide) (by decide)
    have e17 : vs 17 = .agg #[vs 3, vs 7, vs 10, vs 14, .slice none 0 0, .int .i64 K] := hF (17, 22) (by decide) (by decide)
    have hO := HO.out.many hb (col := col) [(3, .row (Kd.int .i64) 3 (vs 3) P), (7, .row (Kd.int .i64) 3 (vs 7) Q), (10, .rows (Kd.int .i64) 26 (vs 10) R 2), (14, .row (Kd.int .i64) 2 (vs 14) M), (18, .box g3 42 zS)] (fun e => match e with | 3 => 0 | 7 => 1 | 10 => 2 | 14 => 3 | _ => 4) (fun j e q hj => by
      match j with
      | 0 => cases hj; exact ⟨hF (3, 8) (by decide) (by decide), rfl⟩
      | 1 => cases hj; exact ⟨hF (7, 12) (by decide) (by decide), rfl⟩
      | 2 => cases hj; exact ⟨hF (10, 15) (by decide) (by decide), rfl⟩
      | 3 => cases hj; exact ⟨hF (14, 19) (by decide) (by decide), rfl⟩
      | 4 => cases hj; exact ⟨⟨k18, l18, b18⟩, rfl⟩
      | n + 5 => cases hj)
    have HP := Aside0.mk hO
    clear hO HO hF k18 l18 hHeld
    obtain ⟨v3, h3⟩ : ∃ v, vs 3 = v := ⟨_, rfl⟩
    obtain ⟨v7, h7⟩ : ∃ v, vs 7 = v := ⟨_, rfl⟩
    obtain ⟨v10, h10⟩ : ∃ v, vs 10 = v := ⟨_, rfl⟩
    obtain ⟨v14, h14⟩ : ∃ v, vs 14 = v := ⟨_, rfl⟩
    simp only [h3, h7, h10, h14] at HP e17
    refine norm_ (a' := ?_) ?_ ?_; rotate_left
    · simp only [putAll, List.map_cons, List.map_nil, e17, e18, h3, h7, h10, h14, Act.put, List.setIfInBounds_toArray, List.set_cons_zero, List.set_cons_succ]
      rfl
    obtain ⟨V0, d0, rfl⟩ := row_slice (HP.out.get (j := 2) rfl)
    obtain ⟨V1, d1, rfl⟩ := row_slice (HP.out.get (j := 3) rfl)
    obtain ⟨V2, d2, rfl⟩ := rows_slice (HP.out.get (j := 4) rfl)
    obtain ⟨V3, d3, rfl⟩ := row_slice (HP.out.get (j := 5) rfl)
    refine la_ 19 (W2.setRow g3 (boxS (.slice V0 P.length d0) (.slice V1 Q.length d1) (.slice V2 R.length d2) (.slice V3 M.length d3) (.slice none 0 0) K)) ?_ rfl rfl (hrun := exec_store_row g3 (HP.out.blk (j := 6) rfl) (box_size ..) rfl (box_one ..) rfl rfl rfl)
    have HQ := Aside0.mk (HP.out.setAll (j := 6) rfl (boxS (.slice V0 P.length d0) (.slice V1 Q.length d1) (.slice V2 R.length d2) (.slice V3 M.length d3) (.slice none 0 0) K))
    clear HP b18 HT_ HW_ e17 e18 h3 h7 h10 h14
    generalize World.setRow _ _ _ = W3 at HQ ⊢
    have HO := Aside0.mk (HQ.out.with (p := .rows k59 57 (.slice none 0 0) [] 59) (fun ok => Kd.S_nil _ _ _ _ _))
    clear HQ
    go_wp2_with fail
    go_loopw [4] (fun v W => ∃ i : Nat, v = .int .i64 i ∧ i ≤ B.length ∧ Aside0 (∃ (v4 : Value) (X : List (List S59)), X = B.take i ∧ Owned w [.box w.heap.size 42 (boxS (.slice A0 P.length c0) (.slice A1 Q.length c1) (.slice A2 R.length c2) (.slice A3 M.length c3) (.slice A4 B.length c4) K), .box g 42 zS, .row (Kd.int .i64) 3 (.slice V0 P.length d0) P, .row (Kd.int .i64) 3 (.slice V1 Q.length d1) Q, .rows (Kd.int .i64) 26 (.slice V2 R.length d2) R 2, .row (Kd.int .i64) 2 (.slice V3 M.length d3) M, .box g3 42 (boxS (.slice V0 P.length d0) (.slice V1 Q.length d1) (.slice V2 R.length d2) (.slice V3 M.length d3) v4 K), .rows k59 57 v4 X 59] W)) (fun v _ => B.length - (intOf v).toNat)
    case atStart => exact ⟨0, rfl, Nat.zero_le _, ⟨_, [], rfl, HO.out⟩⟩
    case round =>
      clear HO
      obtain ⟨i, rfl, hi, HX⟩ := hrel
      obtain ⟨v4, X, hX, hO⟩ := HX.out
      have EX := Aside0.mk hX
      have HO := Aside0.mk hO
      obtain ⟨V4, d4, rfl⟩ := rows_slice (HO.out.get (j := 7) rfl)
      clear HX hO hX
      obtain ⟨y0, y1, y2, y3, y4, y5, _⟩ := blkA6 (HO.out.blk (j := 0) rfl)
      by_cases hlt : i < B.length
      · obtain ⟨ab, Ab, cb, rfl, xb, _, kb⟩ := at_L7 X4.out (i : Int) (Int.natCast_nonneg i) (Int.ofNat_lt.2 hlt)
        rw [Int.toNat_natCast] at xb
        have XB := Aside0.mk xb
        replace xb := pw_in HO.out xb
        have HI := Aside0.mk hlt
        have KB := Aside0.mk kb
        have hw := wrapN hlt (Nat.le_trans (Nat.le_of_lt FF.out.bf) (by decide))
        have HW := Aside0.mk hw
        clear kb hw
        go_upto_region 5 with fail
        have HS : ∀ (W' : World) (ps' : List Part), Owned w ps' W' → ps'[0]? = some (.box w.heap.size 42 (boxS (.slice A0 P.length c0) (.slice A1 Q.length c1) (.slice A2 R.length c2) (.slice A3 M.length c3) (.slice (some ab) B.length c4) K)) → ps'[6]? = some (.box g3 42 (boxS (.slice V0 P.length d0) (.slice V1 Q.length d1) (.slice V2 R.length d2) (.slice V3 M.length d3) (.slice V4 X.length d4) K)) → W'.cell? ⟨g3, 4, none⟩ = some (.slice V4 X.length d4) ∧ W'.cell? ⟨w.heap.size, 4, none⟩ = some (.slice (some ab) B.length c4) ∧ W'.cell? (ab.add i) = some (.slice Ab (rd_L7 B (i : Int)).length cb) :=
          fun W' ps' h a b => ⟨(blk_cell (h.blk b) 4).trans rfl, (blk_cell (h.blk a) 4).trans rfl, pw_in h XB.out⟩
        have HD := Aside0.mk HO.out.drew
        clear HO y0 y1 y2 y3 y4 y5 xb
        have HO := HD
        clear HD
        refine start_ (n := 13) (S := fun w' => w'.cell? ⟨g3, 4, none⟩ = some (.slice V4 X.length d4) ∧ w'.cell? ⟨w.heap.size, 4, none⟩ = some (.slice (some ab) B.length c4) ∧ w'.cell? (ab.add i) = some (.slice Ab (rd_L7 B (i : Int)).length cb)) (ds := [12]) #[false, false, false, false, false, false, false, false, false, false, false, false, false] (by kernel_rfl) rfl rfl (HS _ _ HO.out rfl rfl) (fun hHeld => ?_); refine with_tabW cp_tab5 cp_bits5 (fun HT_ HW_ => ?_)
        generalize World.drew _ = W4 at HO hHeld ⊢
        refine pu_ 0 30 ?_
        refine pu_ 3 33 ?_
        refine pu_ 5 35 ?_
        refine ta_ 1 31 ?_ hHeld
        refine ta_ 4 34 ?_ hHeld
        refine pu_ 6 36 ?_
        refine ta_ 7 37 ?_ hHeld
        refine li_ (e := 59) (cs := #[]) 2 32 (HS _ _ (HO.out.later (below_alloc (Below.refl _ _) _)) rfl rfl) ?_
        refine on_ 8 38 (fun K_ hK => ?_)
        refine Owned.clone_step k59 HO.out (.tmp 32) (.tmp 37) 57 59 (.agg #[(.int .i64 0), (.int .i64 0)]) 16 Try.underlying57 info59 rfl (by decide) (by decide) (fit59 (all_at FF.out.bfs HI.out)) (fun _ _ h => h) (Kd.C_below KB.out (HO.out.later (below_alloc (Below.refl _ _) _)).below) ?_ (by rfl) rfl rfl rfl
        intro v1 W5 h5
        obtain ⟨Vn, dn, rfl⟩ := row_slice (h5.get (j := 8) rfl)
        have HO5 := Aside0.mk h5
        clear h5 HO hHeld
        refine hK.out _ _ (HS _ _ HO5.out rfl rfl) (fun _ => ?_)
        clear hK K_
        refine nm_ 38 ?_
        refine li_ (e := 57) (cs := [.slice Vn (rd_L7 B (i : Int)).length dn].toArray) 9 39 (HS _ _ (HO5.out.later (below_alloc (Below.refl _ _) _)) rfl rfl) ?_
        refine on_ 10 40 (fun K_ hK => ?_)
        refine Owned.push_step k59 HO5.out (j := 7) (jr := 8) (by decide) rfl rfl (.tmp 31) (.tmp 39) 40 Try.underlying40 info57 (lt58 (m := B.length) (by rw [EX.out, List.length_take]; have := HI.out; omega) FF.out.bf) ?_ (by rfl) rfl rfl rfl
        intro v1 W6 h6
        obtain ⟨Vm, dm, rfl⟩ := rows_slice (h6.get (j := 7) rfl)
        have HO6 := Aside0.mk (h6.cut 8)
        clear h6 HO5
        refine hK.out _ _ (HS _ _ HO6.out rfl rfl) (fun _ => ?_)
        clear hK K_
        refine nm_ 40 ?_
        refine pu_ 11 41 ?_
        obtain ⟨q0, q1, q2, q3, q4, q5, f0, f1, f2, f3, f4, f5⟩ := blkA6 (HO6.out.blk (j := 6) rfl)
        refine la_ 12 (W6.setCell ⟨g3, 4, none⟩ (.slice Vm (X ++ [rd_L7 B (i : Int)]).length dm)) ?_ rfl rfl
        have HO := Aside0.mk (HO6.out.cell (j := 6) rfl 4 (.slice Vm (X ++ [rd_L7 B (i : Int)]).length dm))
        clear q0 q1 q2 q3 q4 q5 f0 f1 f2 f3 f4 f5 HO6 HS HT_ HW_
        generalize World.setCell _ _ _ = W7 at HO ⊢
        have hw := HW.out
        go_wp2_with fail
        go_roundw
        case rel => exact ⟨i + 1, by rw [hw]; rfl, HI.out, ⟨_, _, by rw [EX.out, ← take_nx (d := []) HI.out]; rfl, HO.out⟩⟩
        case measure => rw [hw]; exact nat_dec HI.out
      · have hin : i = B.length := Nat.le_antisymm hi (Nat.le_of_not_lt hlt)
        subst hin
        have hX := EX.out
        rw [List.take_length] at hX
        subst hX
        clear hi
        have hb6 := HO.out.blk (j := 6) rfl
        have hb1 := HO.out.blk (j := 1) rfl
        have hu42 := Try.underlying42
        go_wp2_with (first
          | (refine wpList_load_row rfl 42 (.tmp 3) rfl g3 rfl 42 _ (0, 0) _ hb6 hu42 rfl (box_size ..) ?_)
          | (refine wpList_store_row rfl 42 (.tmp 2) (.tmp 42) rfl g _ rfl rfl 42 _ hb1 (box_size ..) rfl (box_one ..) ?_))
        have HF := Aside0.mk (HO.out.setAll (j := 1) rfl (boxS (.slice V0 P.length d0) (.slice V1 Q.length d1) (.slice V2 R.length d2) (.slice V3 M.length d3) (.slice V4 X.length d4) K))
        refine bodyPost_ret (results_c1 rfl _ _ g 42 _ (0, 0) _ rfl (HF.out.blk (j := 1) rfl) hu42 rfl (box_size ..)) rfl ⟨[.slice V0 P.length d0, .slice V1 Q.length d1, .slice V2 R.length d2, .slice V3 M.length d3, .slice V4 X.length d4, .int .i64 K], rfl, StR.parts (j0 := 2) (j1 := 3) (j2 := 4) (j3 := 5) (j4 := 7) HF.out rfl rfl rfl rfl rfl (by decide) (by decide), HF.out.below⟩
end Go.Proofs.Ytemhpbdlonfikaa.P
