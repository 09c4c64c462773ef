/- Is it a state: the plain side. -/
import Derived.Test.YtemhpbdlonfikaaP26
import Derived.Test.YtemhpbdlonfikaaEa
import Derived.Test.YtemhpbdlonfikaaRp
import Derived.Test.YtemhpbdlonfikaaCc
namespace Go.Proofs.Ytemhpbdlonfikaa.P
open Go Go.RowKit Go.Proofs.YtemhpbdlonfikaaW.PrintWords Go.Proofs.YtemhpbdlonfikaaW.PrintLast Go.Proofs.YtemhpbdlonfikaaW.PrintMore
theorem leq_t {a b : Nat} (h : a = b) : ((a : Int) != (b : Int)) = false := by subst h; exact bne_self_eq_false _
theorem leq_u {a b : Nat} (h : a = b) : (a != b) = false := by subst h; exact bne_self_eq_false _
theorem leq_f {a b : Nat} (h : ¬ a = b) : ((a : Int) != (b : Int)) = true := bne_iff_ne.2 (by omega)
theorem leq_g {a b : Nat} (h : ¬ a = b) : (a != b) = true := bne_iff_ne.2 h
section
variable {p : Pg} {P Q : List Int} {R : List (List Int)} {M : List Int} {B : List (List S59)} {K : Int}
theorem lenN1 (h : ¬ (P.length : Int) = (p.th.length : Int)) : ¬ lenP p P Q R M B K := fun ⟨l, _⟩ => h (by rw [l])
theorem lenN2 (h : ¬ (Q.length : Int) = (p.th.length : Int)) : ¬ lenP p P Q R M B K := fun ⟨_, l, _⟩ => h (by rw [l])
theorem lenN3 (h : ¬ (R.length : Int) = (p.th.length : Int)) : ¬ lenP p P Q R M B K := fun ⟨_, _, l, _⟩ => h (by rw [l])
theorem lenN4 (h : ¬ (B.length : Int) = (p.th.length : Int)) : ¬ lenP p P Q R M B K := fun ⟨_, _, _, l, _⟩ => h (by rw [l])
theorem lenN5 (h : ¬ (M.length : Int) = (p.lo.length : Int)) : ¬ lenP p P Q R M B K := fun ⟨_, _, _, _, l, _⟩ => h (by rw [l])
theorem lenN6 (h : K < -1) : ¬ lenP p P Q R M B K := fun ⟨_, _, _, _, _, l, _⟩ => by omega
theorem lenN7 (h : K < -1 ∨ (p.th.length : Int) ≤ K) : ¬ lenP p P Q R M B K := fun ⟨_, _, _, _, _, l, l2⟩ => by omega
theorem lenP_of (h1 : (P.length : Int) = (p.th.length : Int)) (h2 : (Q.length : Int) = (p.th.length : Int)) (h3 : (R.length : Int) = (p.th.length : Int)) (h4 : (B.length : Int) = (p.th.length : Int)) (h5 : (M.length : Int) = (p.lo.length : Int)) (h7 : -1 ≤ K ∧ K < (p.th.length : Int)) : lenP p P Q R M B K :=
  ⟨Int.ofNat_inj.1 h1, Int.ofNat_inj.1 h2, Int.ofNat_inj.1 h3, Int.ofNat_inj.1 h4, Int.ofNat_inj.1 h5, h7.1, h7.2⟩
theorem all_of {f : Nat → Bool} {n : Nat} (h : ∀ k, k < n → f k = true) : allR f 0 n = true := by
  unfold allR
  rw [List.all_eq_true]
  intro j hj
  rw [Nat.zero_add]
  exact h j (List.mem_range.1 hj)
theorem not_all {f : Nat → Bool} {n k : Nat} (hk : k < n) (h : f k = false) : allR f 0 n = false := by
  cases ha : allR f 0 n with
  | false => rfl
  | true =>
    have := allR_at ha (Nat.zero_le k) (by omega)
    rw [h] at this
    cases this
theorem isM_t (l : lenP p P Q R M B K) (h : ∀ k, k < p.th.length → thB p P Q R B k = true) : isM p P Q R M B K = true := by unfold isM; rw [decide_eq_true l, all_of h]; rfl
theorem isM_l (l : ¬ lenP p P Q R M B K) : isM p P Q R M B K = false := by unfold isM; rw [decide_eq_false l]; rfl
theorem isM_f {k : Nat} (hk : k < p.th.length) (h : thB p P Q R B k = false) : isM p P Q R M B K = false := by unfold isM; rw [not_all hk h, Bool.and_false]
theorem thB_n {j : Nat} (h : ¬ thOK p P Q R B j) : thB p P Q R B j = false := by unfold thB; rw [decide_eq_false h]; rfl
theorem thB_t {j : Nat} (h : thOK p P Q R B j) (g : ∀ m, m < (rd_L7 B (j : Int)).length → wrB p.lo.length (rd_L7 B (j : Int)) m = true) : thB p P Q R B j = true := by unfold thB; rw [decide_eq_true h, all_of g]; rfl
theorem thB_f {j m : Nat} (hm : m < (rd_L7 B (j : Int)).length) (h : wrB p.lo.length (rd_L7 B (j : Int)) m = false) : thB p P Q R B j = false := by unfold thB; rw [not_all hm h, Bool.and_false]
end
end Go.Proofs.Ytemhpbdlonfikaa.P
/- Is it a state of the program: the document's side, walked by hand. -/
namespace Go.Proofs.Ytemhpbdlonfikaa.P
open Go Go.RowKit Go.Proofs.YtemhpbdlonfikaaW.PrintWords Go.Proofs.YtemhpbdlonfikaaW.PrintLast Go.Proofs.YtemhpbdlonfikaaW.PrintMore
set_option maxHeartbeats 16000000 in
set_option maxRecDepth 100000 in
theorem ris_c {w : World} {pv sv : List Value} {p : Pg} {u : St} (hp : PgV w pv p) (hs : StV w sv u) (hg : p.rg.length = p.th.length) : Calls Try.prog 31 #[.agg pv.toArray, .agg sv.toArray] w fun e W' => e = .returned (.bool (isM p u.p u.q u.rg u.me u.bf u.lk)) ∧ Below w.heap.size w W' := by
  obtain ⟨A0, A1, A2, A3, A4, c0, c1, c2, c3, c4, rfl, x0, _, x1, _, x2, _, x3, _, x4, _⟩ := hp
  obtain ⟨B0, B1, B2, B3, B4, d0, d1, d2, d3, d4, rfl, y0, _, y1, _, y2, _, y3, _, y4, _⟩ := hs
  have G := Aside0.mk hg
  have X0 := Aside0.mk x0
  have X1 := Aside0.mk x1
  have Y0 := Aside0.mk y0
  have Y1 := Aside0.mk y1
  have Y2 := Aside0.mk y2
  have Y4 := Aside0.mk y4
  have M0 := Aside0.mk (Kd.C_max x0)
  clear x0 x1 x2 x3 x4 y0 y1 y2 y3 y4 hg
  obtain ⟨r, hr⟩ : ∃ r, isM p u.p u.q u.rg u.me u.bf u.lk = r := ⟨_, rfl⟩
  rw [hr]
  have R := Aside0.mk hr
  clear hr
  go_enter Try.func31, Try.ntmps31
  go_upto_region 1 with fail
  have h1 := blk_alloc (heap_alloc_new w (.cells #[.slice A0 p.th.length c0, .slice A1 p.rg.length c1, .slice A2 p.lo.length c2, .slice A3 p.r0.length c3, .slice A4 p.m0.length c4] 28)) (.cells #[.slice B0 u.p.length d0, .slice B1 u.q.length d1, .slice B2 u.rg.length d2, .slice B3 u.me.length d3, .slice B4 u.bf.length d4, .int .i64 u.lk] 42)
  have h2 := heap_alloc_new (w.alloc (.cells #[.slice A0 p.th.length c0, .slice A1 p.rg.length c1, .slice A2 p.lo.length c2, .slice A3 p.r0.length c3, .slice A4 p.m0.length c4] 28)) (.cells #[.slice B0 u.p.length d0, .slice B1 u.q.length d1, .slice B2 u.rg.length d2, .slice B3 u.me.length d3, .slice B4 u.bf.length d4, .int .i64 u.lk] 42)
  rw [show (w.alloc (.cells #[.slice A0 p.th.length c0, .slice A1 p.rg.length c1, .slice A2 p.lo.length c2, .slice A3 p.r0.length c3, .slice A4 p.m0.length c4] 28)).heap.size = w.heap.size + 1 by simp] at h2
  have hb0 : Below w.heap.size w ((w.alloc (.cells #[.slice A0 p.th.length c0, .slice A1 p.rg.length c1, .slice A2 p.lo.length c2, .slice A3 p.r0.length c3, .slice A4 p.m0.length c4] 28)).alloc (.cells #[.slice B0 u.p.length d0, .slice B1 u.q.length d1, .slice B2 u.rg.length d2, .slice B3 u.me.length d3, .slice B4 u.bf.length d4, .int .i64 u.lk] 42)) := below_alloc (below_alloc (Below.refl _ _) _) _
  generalize World.alloc (World.alloc w _) _ = W0 at h1 h2 hb0 ⊢
  have KP : Aside0 (∀ W', Below W0.heap.size W0 W' → W'.cell? ⟨w.heap.size, 0, none⟩ = some (.slice A0 p.th.length c0) ∧ W'.cell? ⟨w.heap.size, 1, none⟩ = some (.slice A1 p.rg.length c1) ∧ W'.cell? ⟨w.heap.size, 2, none⟩ = some (.slice A2 p.lo.length c2) ∧ W'.cell? ⟨w.heap.size, 3, none⟩ = some (.slice A3 p.r0.length c3) ∧ W'.cell? ⟨w.heap.size, 4, none⟩ = some (.slice A4 p.m0.length c4) ∧ W'.cell? ⟨w.heap.size + 1, 0, none⟩ = some (.slice B0 u.p.length d0) ∧ W'.cell? ⟨w.heap.size + 1, 1, none⟩ = some (.slice B1 u.q.length d1) ∧ W'.cell? ⟨w.heap.size + 1, 2, none⟩ = some (.slice B2 u.rg.length d2) ∧ W'.cell? ⟨w.heap.size + 1, 3, none⟩ = some (.slice B3 u.me.length d3) ∧ W'.cell? ⟨w.heap.size + 1, 4, none⟩ = some (.slice B4 u.bf.length d4) ∧ W'.cell? ⟨w.heap.size + 1, 5, none⟩ = some (.int .i64 u.lk)) := ⟨fun W' hb => by
    have q1 := (hb.block _ (blk_lt h1)).trans h1
    have q2 := (hb.block _ (blk_lt h2)).trans h2
    exact ⟨(blk_cell q1 0).trans rfl, (blk_cell q1 1).trans rfl, (blk_cell q1 2).trans rfl, (blk_cell q1 3).trans rfl, (blk_cell q1 4).trans rfl, (blk_cell q2 0).trans rfl, (blk_cell q2 1).trans rfl, (blk_cell q2 2).trans rfl, (blk_cell q2 3).trans rfl, (blk_cell q2 4).trans rfl, (blk_cell q2 5).trans rfl⟩⟩
  have B := Aside0.mk hb0
  have KB := Aside0.mk (Below.refl W0.heap.size W0)
  clear h1 h2 hb0
  obtain ⟨a0_, a1_, a2_, a3_, a4_, b0_, b1_, b2_, b3_, b4_, b5_⟩ := KP.out _ KB.out
  go_wp2_with fail
  all_goals first
    | (rename_i hb; go_ret; exact ⟨by rw [← R.out, isM_l (by first | exact lenN1 hb | exact lenN2 hb | exact lenN3 hb | exact lenN4 hb | exact lenN5 hb | exact lenN6 hb | exact lenN7 hb)]; rfl, belW B.out KB.out⟩)
    | skip
  rename_i h1 h2 h3 h4 h5 h6 h7 k1_ k2_
  have L : Aside0 (lenP p u.p u.q u.rg u.me u.bf u.lk) := ⟨lenP_of h1 h2 h3 h4 h5 h7⟩
  clear h1 h2 h3 h4 h5 h6 h7
  have Le1 := Aside0.mk L.out.1
  have Le2 := Aside0.mk L.out.2.1
  have Le3 := Aside0.mk L.out.2.2.1
  have Le4 := Aside0.mk L.out.2.2.2.1
  clear a0_ a1_ a2_ a3_ a4_ b0_ b1_ b2_ b3_ b4_ b5_
  go_loopw [6] (fun v W => ∃ j : Nat, v = .int .i64 j ∧ j ≤ p.th.length ∧ Aside0 (Below W0.heap.size W0 W) ∧ Aside0 (∀ k, k < j → thB p u.p u.q u.rg u.bf k = true)) (fun v _ => p.th.length - (intOf v).toNat)
  case atStart => exact ⟨0, rfl, Nat.zero_le _, KB, ⟨fun k hk => absurd hk (Nat.not_lt_zero k)⟩⟩
  case round =>
    clear KB
    obtain ⟨j, rfl, hj, KB, HT⟩ := hrel
    obtain ⟨a0_, a1_, a2_, a3_, a4_, b0_, b1_, b2_, b3_, b4_, b5_⟩ := KP.out _ KB.out
    by_cases hlt : j < p.th.length
    rotate_left
    · go_wp2_with fail
      go_ret
      exact ⟨by rw [← R.out, isM_t L.out (fun k hk => HT.out k (Nat.lt_of_lt_of_le hk (Nat.le_of_not_lt hlt)))]; rfl, belW B.out KB.out⟩
    obtain ⟨ap, rfl, xp⟩ := Kd.at_int Y0.out (j : Int) (Int.natCast_nonneg j) (Int.ofNat_lt.2 (by rw [Le1.out]; exact hlt))
    obtain ⟨aq, rfl, xq⟩ := Kd.at_int Y1.out (j : Int) (Int.natCast_nonneg j) (Int.ofNat_lt.2 (by rw [Le2.out]; exact hlt))
    obtain ⟨at_, At, ct, rfl, xt, _, _⟩ := at_L3 X0.out (j : Int) (Int.natCast_nonneg j) (Int.ofNat_lt.2 hlt)
    obtain ⟨ag, Ag, cg, rfl, xg, _, _⟩ := at_L4 X1.out (j : Int) (Int.natCast_nonneg j) (Int.ofNat_lt.2 (by rw [G.out]; exact hlt))
    obtain ⟨ar, Ar, cr, rfl, xr, _, _⟩ := at_L5 Y2.out (j : Int) (Int.natCast_nonneg j) (Int.ofNat_lt.2 (by rw [Le3.out]; exact hlt))
    obtain ⟨ab, Ab, cb, rfl, xb, _, hb⟩ := at_L7 Y4.out (j : Int) (Int.natCast_nonneg j) (Int.ofNat_lt.2 (by rw [Le4.out]; exact hlt))
    rw [Int.toNat_natCast] at xp xq xt xg xr xb
    have HB := Aside0.mk hb
    clear hb
    have HJ := Aside0.mk hlt
    have hj1 : (j : Int) < (u.p.length : Int) := (Int.ofNat_lt.2 (by rw [Le1.out]; exact hlt))
    have hj2 : (j : Int) < (u.q.length : Int) := (Int.ofNat_lt.2 (by rw [Le2.out]; exact hlt))
    have hj3 : (j : Int) < (u.rg.length : Int) := (Int.ofNat_lt.2 (by rw [Le3.out]; exact hlt))
    have hj4 : (j : Int) < (u.bf.length : Int) := (Int.ofNat_lt.2 (by rw [Le4.out]; exact hlt))
    have hj5 : (j : Int) < (p.rg.length : Int) := (Int.ofNat_lt.2 (by rw [G.out]; exact hlt))
    have hw := wrapN hlt M0.out
    have KS : Aside0 (∀ W', Below W0.heap.size W0 W' → W'.cell? (ap.add j) = some (.int .i64 (rd u.p (j : Int))) ∧ W'.cell? (aq.add j) = some (.int .i64 (rd u.q (j : Int))) ∧ W'.cell? (at_.add j) = some (.slice At (rd_L3 p.th (j : Int)).length ct) ∧ W'.cell? (ag.add j) = some (.slice Ag (rd_L4 p.rg (j : Int)).length cg) ∧ W'.cell? (ar.add j) = some (.slice Ar (rd_L5 u.rg (j : Int)).length cr) ∧ W'.cell? (ab.add j) = some (.slice Ab (rd_L7 u.bf (j : Int)).length cb)) := ⟨fun W' hb => by
      have hc := belW B.out hb
      exact ⟨pw_cell_below hc xp, pw_cell_below hc xq, pw_cell_below hc xt, pw_cell_below hc xg, pw_cell_below hc xr, pw_cell_below hc xb⟩⟩
    clear xp xq xt xg xr xb
    obtain ⟨xp, xq, xt, xg, xr, xb⟩ := KS.out _ KB.out
    go_upto_region 7 with fail
    by_cases g1 : rd u.p (j : Int) < 0
    · have f1 : decide (rd u.p (j : Int) < 0) = true := decide_eq_true g1
      go_quiet (fail)
      go_wp2_with fail
      go_ret
      exact ⟨by rw [← R.out, isM_f HJ.out (thB_n (fun h => absurd h.1 (Int.not_le.2 g1)))]; rfl, belW B.out (pw_below_drewN KB.out _)⟩
    have t1 : decide (rd u.p (j : Int) < 0) = false := decide_eq_false g1
    by_cases g2 : ((rd_L3 p.th (j : Int)).length : Int) < rd u.p (j : Int)
    · have f1 : decide (((rd_L3 p.th (j : Int)).length : Int) < rd u.p (j : Int)) = true := decide_eq_true g2
      go_quiet (fail)
      go_wp2_with fail
      go_ret
      exact ⟨by rw [← R.out, isM_f HJ.out (thB_n (fun h => absurd h.2.1 (Int.not_le.2 g2)))]; rfl, belW B.out (pw_below_drewN KB.out _)⟩
    have t2 : decide (((rd_L3 p.th (j : Int)).length : Int) < rd u.p (j : Int)) = false := decide_eq_false g2
    by_cases g3 : rd u.q (j : Int) < 0
    · have f1 : decide (rd u.q (j : Int) < 0) = true := decide_eq_true g3
      go_quiet (fail)
      go_wp2_with fail
      go_ret
      exact ⟨by rw [← R.out, isM_f HJ.out (thB_n (fun h => absurd h.2.2.1 (Int.not_le.2 g3)))]; rfl, belW B.out (pw_below_drewN KB.out _)⟩
    have t3 : decide (rd u.q (j : Int) < 0) = false := decide_eq_false g3
    by_cases g4 : 2 < rd u.q (j : Int)
    · have f1 : decide (2 < rd u.q (j : Int)) = true := decide_eq_true g4
      go_quiet (fail)
      go_wp2_with fail
      go_ret
      exact ⟨by rw [← R.out, isM_f HJ.out (thB_n (fun h => absurd h.2.2.2.1 (Int.not_le.2 g4)))]; rfl, belW B.out (pw_below_drewN KB.out _)⟩
    have t4 : decide (2 < rd u.q (j : Int)) = false := decide_eq_false g4
    by_cases g5 : (rd_L5 u.rg (j : Int)).length = (rd_L4 p.rg (j : Int)).length
    rotate_left
    · have f1 := leq_f g5
      have f2 := leq_g g5
      go_quiet (fail)
      go_wp2_with fail
      go_ret
      exact ⟨by rw [← R.out, isM_f HJ.out (thB_n (fun h => g5 h.2.2.2.2.1))]; rfl, belW B.out (pw_below_drewN KB.out _)⟩
    have t5 := leq_t g5
    have v5 := leq_u g5
    by_cases g6 : 64 < ((rd_L7 u.bf (j : Int)).length : Int)
    · have f1 : decide (64 < ((rd_L7 u.bf (j : Int)).length : Int)) = true := decide_eq_true g6
      go_quiet (fail)
      go_wp2_with fail
      go_ret
      exact ⟨by rw [← R.out, isM_f HJ.out (thB_n (fun h => absurd h.2.2.2.2.2 (Nat.not_le.2 (Int.ofNat_lt.1 g6))))]; rfl, belW B.out (pw_below_drewN KB.out _)⟩
    have t6 : decide (64 < ((rd_L7 u.bf (j : Int)).length : Int)) = false := decide_eq_false g6
    have TH : Aside0 (thOK p u.p u.q u.rg u.bf j) := ⟨⟨Int.not_lt.1 g1, Int.not_lt.1 g2, Int.not_lt.1 g3, Int.not_lt.1 g4, g5, Nat.le_of_not_lt (fun h => g6 (Int.ofNat_lt.2 h))⟩⟩
    go_quiet (fail)
    replace KB := Aside0.mk (pw_below_drewN KB.out nq)
    generalize wr.drewN nq = wr1 at KB ⊢
    clear a0_ a1_ a2_ a3_ a4_ b0_ b1_ b2_ b3_ b4_ b5_ xp xq xt xg xr xb g1 g2 g3 g4 g5 g6 t1 t2 t3 t4 t5 v5 t6 hlt
    obtain ⟨a0_, a1_, a2_, a3_, a4_, b0_, b1_, b2_, b3_, b4_, b5_⟩ := KP.out _ KB.out
    obtain ⟨xp, xq, xt, xg, xr, xb⟩ := KS.out _ KB.out
    go_wp2_with fail
    clear a0_ a1_ a2_ a3_ a4_ b0_ b1_ b2_ b3_ b4_ b5_ xp xq xt xg xr xb
    go_loopw [7] (fun v W => ∃ m : Nat, v = .int .i64 m ∧ m ≤ (rd_L7 u.bf (j : Int)).length ∧ Aside0 (Below W0.heap.size W0 W) ∧ Aside0 (∀ k, k < m → wrB p.lo.length (rd_L7 u.bf (j : Int)) k = true)) (fun v _ => (rd_L7 u.bf (j : Int)).length - (intOf v).toNat)
    case atStart => exact ⟨0, rfl, Nat.zero_le _, KB, ⟨fun k hk => absurd hk (Nat.not_lt_zero k)⟩⟩
    case round =>
      clear KB
      obtain ⟨m, rfl, hm, KB, HU⟩ := hrel
      obtain ⟨a0_, a1_, a2_, a3_, a4_, b0_, b1_, b2_, b3_, b4_, b5_⟩ := KP.out _ KB.out
      obtain ⟨xp, xq, xt, xg, xr, xb⟩ := KS.out _ KB.out
      have hlt := HJ.out
      by_cases hlm : m < (rd_L7 u.bf (j : Int)).length
      rotate_left
      · go_wp2_with fail
        go_roundw
        case rel => exact ⟨j + 1, by rw [hw]; rfl, HJ.out, KB, ⟨fun k hk => by
          rcases Nat.lt_succ_iff_lt_or_eq.1 hk with h | h
          · exact HT.out k h
          · rw [h]; exact thB_t TH.out (fun m' hm' => HU.out m' (Nat.lt_of_lt_of_le hm' (Nat.le_of_not_lt hlm)))⟩⟩
        case measure => rw [hw]; exact nat_dec HJ.out
      obtain ⟨ae, rfl, xe, xf⟩ := at_T59 HB.out (m : Int) (Int.natCast_nonneg m) (Int.ofNat_lt.2 hlm)
      rw [Int.toNat_natCast] at xe xf
      replace xe := pw_cell_below (belW B.out KB.out) xe
      replace xf := pw_cell_below (belW B.out KB.out) xf
      have HM := Aside0.mk hlm
      have hwm := wrapN hlm (Kd.C_max HB.out)
      by_cases g1 : (rd_T59 (rd_L7 u.bf (j : Int)) (m : Int)).f0 < 0
      · have f1 : decide ((rd_T59 (rd_L7 u.bf (j : Int)) (m : Int)).f0 < 0) = true := decide_eq_true g1
        go_upto_region 12 with fail
        go_quiet (fail)
        go_wp2_with fail
        go_ret
        exact ⟨by rw [← R.out, isM_f HJ.out (thB_f HM.out (decide_eq_false (fun h => absurd h.1 (Int.not_le.2 g1))))]; rfl, belW B.out (pw_below_drewN KB.out _)⟩
      have tg1 : decide ((rd_T59 (rd_L7 u.bf (j : Int)) (m : Int)).f0 < 0) = false := decide_eq_false g1
      by_cases g2 : (p.lo.length : Int) ≤ (rd_T59 (rd_L7 u.bf (j : Int)) (m : Int)).f0
      · have f1 : decide ((p.lo.length : Int) ≤ (rd_T59 (rd_L7 u.bf (j : Int)) (m : Int)).f0) = true := decide_eq_true g2
        go_upto_region 12 with fail
        go_quiet (fail)
        go_wp2_with fail
        go_ret
        exact ⟨by rw [← R.out, isM_f HJ.out (thB_f HM.out (decide_eq_false (fun h => absurd h.2 (Int.not_lt.2 g2))))]; rfl, belW B.out (pw_below_drewN KB.out _)⟩
      have tg2 : decide ((p.lo.length : Int) ≤ (rd_T59 (rd_L7 u.bf (j : Int)) (m : Int)).f0) = false := decide_eq_false g2
      have HW : Aside0 (wrB p.lo.length (rd_L7 u.bf (j : Int)) m = true) := ⟨decide_eq_true ⟨Int.not_lt.1 g1, Int.not_le.1 g2⟩⟩
      clear g1 g2
      go_upto_region 12 with fail
      go_quiet (fail)
      go_wp2_with fail
      go_roundw
      case rel => exact ⟨m + 1, by rw [hwm]; rfl, HM.out, ⟨pw_below_drewN KB.out _⟩, ⟨fun k hk => by
        rcases Nat.lt_succ_iff_lt_or_eq.1 hk with h | h
        · exact HU.out k h
        · rw [h]; exact HW.out⟩⟩
      case measure => rw [hwm]; exact nat_dec HM.out
end Go.Proofs.Ytemhpbdlonfikaa.P
/- The document's text, in plain words: what is left to write at each place. -/
namespace Go.Proofs.Ytemhpbdlonfikaa.P
open Go Go.RowKit Go.Proofs.YtemhpbdlonfikaaW.PrintWords Go.Proofs.YtemhpbdlonfikaaW.PrintLast Go.Proofs.YtemhpbdlonfikaaW.PrintMore
variable {P Q : List Int} {R : List (List Int)} {M : List Int} {B : List (List S59)} {K : Int}
abbrev ofU (l : List UInt8) : ByteArray := ⟨l.toArray⟩
theorem ofU_append (a b : List UInt8) : ofU a ++ ofU b = ofU (a ++ b) := by
  show ByteArray.append _ _ = _
  apply ByteArray.ext
  simp [ByteArray.append, ByteArray.copySlice, ByteArray.size]
theorem ofU_size (a : List UInt8) : (ofU a).size = a.length := by simp [ofU, ByteArray.size]
theorem putB_ofU (v : Int) : putB v = ofU (putU v) := by
  have h : (putB v).data.toList = putU v := rfl
  apply ByteArray.ext
  rw [← h]
theorem rd_i64 {l : List Int} (h : ∀ x ∈ l, I64 x) {i : Nat} (hi : i < l.length) : I64 (rd l (i : Int)) := by
  unfold rd
  rw [Int.toNat_natCast, List.getD_eq_getElem?_getD, List.getElem?_eq_getElem hi]
  exact h _ (List.getElem_mem hi)
theorem drop_put {l : List Int} {i : Nat} (hi : i < l.length) : (l.drop i).flatMap putU = putU (rd l (i : Int)) ++ (l.drop (i + 1)).flatMap putU := by
  rw [List.drop_eq_getElem_cons hi, List.flatMap_cons]
  unfold rd
  rw [Int.toNat_natCast, List.getD_eq_getElem?_getD, List.getElem?_eq_getElem hi, Option.getD_some]
def thrD (P Q : List Int) (R : List (List Int)) (i d : Nat) : List UInt8 := (List.range d).flatMap fun j => putU (rd P ((i + j : Nat) : Int)) ++ putU (rd Q ((i + j : Nat) : Int)) ++ (rd_L5 R ((i + j : Nat) : Int)).flatMap putU
theorem thrD_succ (P Q : List Int) (R : List (List Int)) (i d : Nat) : thrD P Q R i (d + 1) = putU (rd P (i : Int)) ++ putU (rd Q (i : Int)) ++ (rd_L5 R (i : Int)).flatMap putU ++ thrD P Q R (i + 1) d := by
  unfold thrD
  rw [List.range_succ_eq_map, List.flatMap_cons, List.flatMap_map]
  congr 1
  congr 1
  funext j
  rw [show i + (j + 1) = i + 1 + j by omega]
theorem text_ofU : textT P Q R M B K = ofU (thrD P Q R 0 P.length ++ (M.flatMap putU ++ (bufU B ++ putU K))) := by
  show (⟨(textU P Q R M B K).toArray⟩ : ByteArray) = _
  unfold textU thrU thrD
  simp
theorem thr_step {j : Nat} (h : j < P.length) : thrD P Q R j (P.length - j) = putU (rd P (j : Int)) ++ (putU (rd Q (j : Int)) ++ ((rd_L5 R (j : Int)).flatMap putU ++ thrD P Q R (j + 1) (P.length - (j + 1)))) := by
  have e : P.length - j = (P.length - (j + 1)) + 1 := by omega
  rw [e, thrD_succ]
  simp only [List.append_assoc]
theorem fit2 {a b c T : List UInt8} (h : a ++ (b ++ c) = T) (ht : T.length ≤ 1000000) : (9223372036854775807 < (ofU a).size + (ofU b).size) = False := by
  rw [← h] at ht
  simp only [List.length_append] at ht
  rw [ofU_size, ofU_size]
  exact eq_false (by omega)
theorem fit3 {a b c d T : List UInt8} (h : a ++ (b ++ (c ++ d)) = T) (ht : T.length ≤ 1000000) : (9223372036854775807 < (ofU a).size + (ofU b).size + (ofU c).size) = False := by
  rw [← h] at ht
  simp only [List.length_append] at ht
  rw [ofU_size, ofU_size, ofU_size]
  exact eq_false (by omega)
theorem fit2l {a b c T : List UInt8} (h : a ++ (b ++ c) = T) (ht : T.length ≤ 1000000) : (9223372036854775807 < a.length + b.length) = False := by
  rw [← h] at ht
  simp only [List.length_append] at ht
  exact eq_false (by omega)
theorem fit3l {a b c d T : List UInt8} (h : a ++ (b ++ (c ++ d)) = T) (ht : T.length ≤ 1000000) : (9223372036854775807 < a.length + b.length + c.length) = False := by
  rw [← h] at ht
  simp only [List.length_append] at ht
  exact eq_false (by omega)
theorem flat_len {l : List Int} (h : ∀ x ∈ l, I64 x) : (l.flatMap putU).length ≤ 10 * l.length := put_len h
theorem thrD_len (hp : ∀ x ∈ P, I64 x) (hq : ∀ x ∈ Q, I64 x) (hr : ∀ r ∈ R, ∀ x ∈ r, I64 x) (h2 : P.length = Q.length) (h3 : P.length = R.length) (hl : ∀ r ∈ R, r.length ≤ 64) : ∀ (d i : Nat), i + d = P.length → (thrD P Q R i d).length ≤ 660 * d := by
  intro d
  induction d with
  | zero => intro i _; simp [thrD]
  | succ d ih =>
    intro i hi
    rw [thrD_succ]
    have a := putU_len (rd_i64 hp (show i < P.length by omega))
    have b := putU_len (rd_i64 hq (show i < Q.length by omega))
    have hm : rd_L5 R (i : Int) ∈ R := by
      unfold rd_L5
      rw [Int.toNat_natCast, List.getD_eq_getElem?_getD, List.getElem?_eq_getElem (show i < R.length by omega)]
      exact List.getElem_mem _
    have c := flat_len (hr _ hm)
    have e := hl _ hm
    have f := ih (i + 1) (by omega)
    simp only [List.length_append]
    omega
theorem rd5_in2 {i : Nat} (h : i < R.length) : rd_L5 R (i : Int) ∈ R := by
  unfold rd_L5
  rw [Int.toNat_natCast, List.getD_eq_getElem?_getD, List.getElem?_eq_getElem h]
  exact List.getElem_mem _
theorem i64_len {l : List S59} (h : l.length ≤ 64) : I64 ((l.length : Nat) : Int) := by unfold I64; omega
theorem buf_step {j : Nat} (h : j < B.length) : bufU (B.drop j) = putU ((rd_L7 B (j : Int)).length : Int) ++ (wrU (rd_L7 B (j : Int)) ++ bufU (B.drop (j + 1))) := by
  rw [List.drop_eq_getElem_cons h]
  unfold bufU rd_L7
  rw [List.flatMap_cons, Int.toNat_natCast, List.getD_eq_getElem?_getD, List.getElem?_eq_getElem h, Option.getD_some, List.append_assoc]
theorem wr_step {l : List S59} {m : Nat} (h : m < l.length) : wrU (l.drop m) = putU (rd_T59 l (m : Int)).f0 ++ (putU (rd_T59 l (m : Int)).f1 ++ wrU (l.drop (m + 1))) := by
  rw [List.drop_eq_getElem_cons h]
  unfold wrU rd_T59
  rw [List.flatMap_cons, Int.toNat_natCast, List.getD_eq_getElem?_getD, List.getElem?_eq_getElem h, Option.getD_some, List.append_assoc]
theorem text_size (h : TextOK P Q R M B K) : (thrD P Q R 0 P.length ++ (M.flatMap putU ++ (bufU B ++ putU K))).length ≤ 1000000 := by
  have a := thrD_len h.np h.nq h.nr h.lq h.lr h.lrr P.length 0 (by omega)
  have b := flat_len h.nm
  have c := bufU_len h.nb h.lbb
  have d := putU_len h.nl
  have e := h.lp
  have f := h.lm
  have g := h.lb
  simp only [List.length_append]
  omega
end Go.Proofs.Ytemhpbdlonfikaa.P
/- weirref11.Text, walked by hand. -/
namespace Go.Proofs.Ytemhpbdlonfikaa.P
open Go Go.RowKit Go.Proofs.YtemhpbdlonfikaaW.PrintWords Go.Proofs.YtemhpbdlonfikaaW.PrintLast Go.Proofs.YtemhpbdlonfikaaW.PrintMore
theorem rput_c {w : World} {v : Int} (h : I64 v) : Calls Try.prog 64 #[.int .i64 v] w fun e W' => e = .returned (.string (ofU (putU v))) ∧ Below w.heap.size w W' := by
  obtain ⟨n, hn⟩ := (rput_is h).rounds
  rw [← putB_ofU]
  exact weirref04_Put.calls n v _ w hn
set_option maxHeartbeats 16000000 in
set_option maxRecDepth 100000 in
theorem rtext_c {w : World} {pv sv : List Value} {p : Pg} {u : St} (hp : PgV w pv p) (hs : StV w sv u) (ok : TextOK u.p u.q u.rg u.me u.bf u.lk) : Calls Try.prog 29 #[.agg pv.toArray, .agg sv.toArray] w fun e W' => e = .returned (.string (textT u.p u.q u.rg u.me u.bf u.lk)) ∧ Below w.heap.size w W' := by
  obtain ⟨B0, B1, B2, B3, B4, d0, d1, d2, d3, d4, rfl, y0, _, y1, _, y2, _, y3, _, y4, _⟩ := hs
  have Y0 := Aside0.mk y0
  have Y1 := Aside0.mk y1
  have Y2 := Aside0.mk y2
  have Y3 := Aside0.mk y3
  have Y4 := Aside0.mk y4
  have OK := Aside0.mk ok
  have L1 := Aside0.mk ok.lq
  have L2 := Aside0.mk ok.lr
  have SZ := Aside0.mk (text_size ok)
  have MP := Aside0.mk (Kd.C_max y0)
  obtain ⟨TT, hT⟩ : ∃ l, thrD u.p u.q u.rg 0 u.p.length ++ (u.me.flatMap putU ++ (bufU u.bf ++ putU u.lk)) = l := ⟨_, rfl⟩
  have HT := Aside0.mk hT
  have SZ2 : Aside0 (TT.length ≤ 1000000) := ⟨by rw [← hT]; exact SZ.out⟩
  rw [text_ofU, hT]
  clear y0 y1 y2 y3 y4 ok hT SZ
  go_enter Try.func29, Try.ntmps29
  go_upto_region 1 with fail
  have h2 := heap_alloc_new (w.alloc (.cells pv.toArray 28)) (.cells #[.slice B0 u.p.length d0, .slice B1 u.q.length d1, .slice B2 u.rg.length d2, .slice B3 u.me.length d3, .slice B4 u.bf.length d4, .int .i64 u.lk] 42)
  rw [show (w.alloc (.cells pv.toArray 28)).heap.size = w.heap.size + 1 by simp] at h2
  have hb0 : Below w.heap.size w ((w.alloc (.cells pv.toArray 28)).alloc (.cells #[.slice B0 u.p.length d0, .slice B1 u.q.length d1, .slice B2 u.rg.length d2, .slice B3 u.me.length d3, .slice B4 u.bf.length d4, .int .i64 u.lk] 42)) := below_alloc (below_alloc (Below.refl _ _) _) _
  generalize (w.alloc (.cells pv.toArray 28)).alloc (.cells #[.slice B0 u.p.length d0, .slice B1 u.q.length d1, .slice B2 u.rg.length d2, .slice B3 u.me.length d3, .slice B4 u.bf.length d4, .int .i64 u.lk] 42) = W0 at h2 hb0 ⊢
  have KP : Aside0 (∀ W', Below W0.heap.size W0 W' → W'.cell? ⟨w.heap.size + 1, 0, none⟩ = some (.slice B0 u.p.length d0) ∧ W'.cell? ⟨w.heap.size + 1, 1, none⟩ = some (.slice B1 u.q.length d1) ∧ W'.cell? ⟨w.heap.size + 1, 2, none⟩ = some (.slice B2 u.rg.length d2) ∧ W'.cell? ⟨w.heap.size + 1, 3, none⟩ = some (.slice B3 u.me.length d3) ∧ W'.cell? ⟨w.heap.size + 1, 4, none⟩ = some (.slice B4 u.bf.length d4) ∧ W'.cell? ⟨w.heap.size + 1, 5, none⟩ = some (.int .i64 u.lk)) := ⟨fun W' hb => by
    have q2 := (hb.block _ (blk_lt h2)).trans h2
    exact ⟨(blk_cell q2 0).trans rfl, (blk_cell q2 1).trans rfl, (blk_cell q2 2).trans rfl, (blk_cell q2 3).trans rfl, (blk_cell q2 4).trans rfl, (blk_cell q2 5).trans rfl⟩⟩
  have B := Aside0.mk hb0
  have KB := Aside0.mk (Below.refl W0.heap.size W0)
  clear h2 hb0
  go_wp2_with fail
  go_loopw [5, 6] (fun v x W => ∃ (acc : List UInt8) (j : Nat), v = .string (ofU acc) ∧ x = .int .i64 j ∧ j ≤ u.p.length ∧ Aside0 (acc ++ (thrD u.p u.q u.rg j (u.p.length - j) ++ (u.me.flatMap putU ++ (bufU u.bf ++ putU u.lk))) = TT) ∧ Aside0 (Below W0.heap.size W0 W)) (fun _ x _ => u.p.length - (intOf x).toNat)
  case atStart => exact ⟨[], 0, rfl, rfl, Nat.zero_le _, ⟨by rw [List.nil_append, Nat.sub_zero]; exact HT.out⟩, KB⟩
  case round =>
    clear KB
    obtain ⟨acc, j, rfl, rfl, hj, HA, KB⟩ := hrel
    obtain ⟨b0_, b1_, b2_, b3_, b4_, b5_⟩ := KP.out _ KB.out
    by_cases hlt : j < u.p.length
    · obtain ⟨ap, rfl, xp⟩ := Kd.at_int Y0.out (j : Int) (Int.natCast_nonneg j) (Int.ofNat_lt.2 hlt)
      obtain ⟨aq, rfl, xq⟩ := Kd.at_int Y1.out (j : Int) (Int.natCast_nonneg j) (Int.ofNat_lt.2 (by rw [← L1.out]; exact hlt))
      obtain ⟨ar, Ar, cr, rfl, xr, _, hr⟩ := at_L5 Y2.out (j : Int) (Int.natCast_nonneg j) (Int.ofNat_lt.2 (by rw [← L2.out]; exact hlt))
      rw [Int.toNat_natCast] at xp xq xr
      have R := Aside0.mk hr
      have HJ := Aside0.mk hlt
      have hj2 : (j : Int) < (u.q.length : Int) := by rw [← L1.out]; exact Int.ofNat_lt.2 hlt
      have hj3 : (j : Int) < (u.rg.length : Int) := by rw [← L2.out]; exact Int.ofNat_lt.2 hlt
      have HJ3 := Aside0.mk (show j < u.rg.length by rw [← L2.out]; exact hlt)
      have N1 := rd_i64 OK.out.np hlt
      have N2 := rd_i64 OK.out.nq (show j < u.q.length by rw [← L1.out]; exact hlt)
      have e0 := thr_step (P := u.p) (Q := u.q) (R := u.rg) hlt
      have HA2 : Aside0 (acc ++ (putU (rd u.p (j : Int)) ++ (putU (rd u.q (j : Int)) ++ ((rd_L5 u.rg (j : Int)).flatMap putU ++ (thrD u.p u.q u.rg (j + 1) (u.p.length - (j + 1)) ++ (u.me.flatMap putU ++ (bufU u.bf ++ putU u.lk)))))) = TT) := ⟨by rw [← HA.out, e0]; simp only [List.append_assoc]⟩
      have f1 := fit2 HA2.out SZ2.out
      have f2 := fit3 HA2.out SZ2.out
      have f3 := fit2l HA2.out SZ2.out
      have f4 := fit3l HA2.out SZ2.out
      have KS : Aside0 (∀ W', Below W0.heap.size W0 W' → W'.cell? ⟨w.heap.size + 1, 0, none⟩ = some (.slice (some ap) u.p.length d0) ∧ W'.cell? ⟨w.heap.size + 1, 1, none⟩ = some (.slice (some aq) u.q.length d1) ∧ W'.cell? (ap.add j) = some (.int .i64 (rd u.p (j : Int))) ∧ W'.cell? (aq.add j) = some (.int .i64 (rd u.q (j : Int)))) := ⟨fun W' hb => by
        obtain ⟨b0_, b1_, b2_, b3_, b4_, b5_⟩ := KP.out _ hb
        exact ⟨b0_, b1_, pw_cell_below (belW B.out hb) xp, pw_cell_below (belW B.out hb) xq⟩⟩
      have XR := Aside0.mk xr
      clear xp xq xr hr HA e0
      obtain ⟨s0, s1, s2, s3⟩ := KS.out _ KB.out
      go_upto_region 5 with fail
      go_region_held3 (fun W' : World => W'.cell? ⟨w.heap.size + 1, 0, none⟩ = some (.slice (some ap) u.p.length d0) ∧ W'.cell? ⟨w.heap.size + 1, 1, none⟩ = some (.slice (some aq) u.q.length d1) ∧ W'.cell? (ap.add j) = some (.int .i64 (rd u.p (j : Int))) ∧ W'.cell? (aq.add j) = some (.int .i64 (rd u.q (j : Int))))
        (first | with_reducible exact KS.out _ (below_drew KB.out) | with_reducible exact KS.out _ K1.out | with_reducible exact KS.out _ K2.out)
        (first
          | (go_at_call 64; (with_reducible refine (rput_c N1).mono ?_); rintro e_ W1 ⟨rfl, hb_⟩; have K1 := Aside0.mk (belW (below_drew KB.out) hb_); clear hb_)
          | (go_at_call 64; (with_reducible refine (rput_c N2).mono ?_); rintro e_ W2 ⟨rfl, hb_⟩; have K2 := Aside0.mk (belW K1.out hb_); clear hb_))
      all_goals clear s0 s1 s2 s3 b0_ b1_ b2_ b3_ b4_ b5_
      rw [ofU_append, ofU_append, List.append_assoc]
      have ML := Aside0.mk (Kd.C_max R.out)
      go_wp2_with fail
      go_loopw [5, 7] (fun v x W => ∃ (acc : List UInt8) (m : Nat), v = .string (ofU acc) ∧ x = .int .i64 m ∧ m ≤ (rd_L5 u.rg (j : Int)).length ∧ Aside0 (acc ++ (((rd_L5 u.rg (j : Int)).drop m).flatMap putU ++ (thrD u.p u.q u.rg (j + 1) (u.p.length - (j + 1)) ++ (u.me.flatMap putU ++ (bufU u.bf ++ putU u.lk)))) = TT) ∧ Aside0 (Below W0.heap.size W0 W)) (fun _ x _ => (rd_L5 u.rg (j : Int)).length - (intOf x).toNat)
      case atStart => exact ⟨_, 0, rfl, rfl, Nat.zero_le _, ⟨by rw [← HA2.out, List.drop_zero]; simp only [List.append_assoc]⟩, K2⟩
      case round =>
        clear KB HA2 f1 f2 f3 f4 K1 K2
        obtain ⟨acc, m, rfl, rfl, hm, HA, KB⟩ := hrel
        obtain ⟨b0_, b1_, b2_, b3_, b4_, b5_⟩ := KP.out _ KB.out
        have xr := pw_cell_below (belW B.out KB.out) XR.out
        by_cases hlm : m < (rd_L5 u.rg (j : Int)).length
        · obtain ⟨ai, rfl, xi⟩ := Kd.at_int R.out (m : Int) (Int.natCast_nonneg m) (Int.ofNat_lt.2 hlm)
          rw [Int.toNat_natCast] at xi
          replace xi := pw_cell_below (belW B.out KB.out) xi
          have N1 := rd_i64 (OK.out.nr _ (rd5_in2 HJ3.out)) hlm
          have HA2 : Aside0 (acc ++ (putU (rd (rd_L5 u.rg (j : Int)) (m : Int)) ++ (((rd_L5 u.rg (j : Int)).drop (m + 1)).flatMap putU ++ (thrD u.p u.q u.rg (j + 1) (u.p.length - (j + 1)) ++ (u.me.flatMap putU ++ (bufU u.bf ++ putU u.lk))))) = TT) := ⟨by rw [← HA.out, drop_put hlm]; simp only [List.append_assoc]⟩
          have f1 := fit2 HA2.out SZ2.out
          have f3 := fit2l HA2.out SZ2.out
          have hw := wrapN hlm ML.out
          have HM := Aside0.mk hlm
          go_wp2_with (go_at_call 64; (with_reducible refine (rput_c N1).mono ?_); rintro e_ W1 ⟨rfl, hb_⟩; have K1 := Aside0.mk (belW KB.out hb_); clear hb_)
          go_roundw
          case rel => exact ⟨acc ++ putU (rd (rd_L5 u.rg (j : Int)) (m : Int)), m + 1, by rw [ofU_append], by rw [hw]; rfl, HM.out, ⟨by rw [← HA2.out]; simp only [List.append_assoc]⟩, K1⟩
          case measure => rw [hw]; exact nat_dec HM.out
        · have hw := wrapN HJ.out MP.out
          have HD := Aside0.mk (List.drop_eq_nil_of_le (Nat.le_of_not_lt hlm))
          go_wp2_with fail
          go_roundw
          case rel => exact ⟨acc, j + 1, rfl, by rw [hw]; rfl, HJ.out, ⟨by rw [← HA.out, HD.out]; rfl⟩, KB⟩
          case measure => rw [hw]; exact nat_dec HJ.out
    · have HE : Aside0 (acc ++ (u.me.flatMap putU ++ (bufU u.bf ++ putU u.lk)) = TT) := ⟨by rw [← HA.out, show u.p.length - j = 0 by omega]; rfl⟩
      clear HA hj
      go_wp2_with fail
      go_loopw [5, 8] (fun v x W => ∃ (acc : List UInt8) (j : Nat), v = .string (ofU acc) ∧ x = .int .i64 j ∧ j ≤ u.me.length ∧ Aside0 (acc ++ ((u.me.drop j).flatMap putU ++ (bufU u.bf ++ putU u.lk)) = TT) ∧ Aside0 (Below W0.heap.size W0 W)) (fun _ x _ => u.me.length - (intOf x).toNat)
      case atStart => exact ⟨acc, 0, rfl, rfl, Nat.zero_le _, ⟨by rw [List.drop_zero]; exact HE.out⟩, KB⟩
      case round =>
        clear KB HE hlt
        obtain ⟨acc, j, rfl, rfl, hj, HA, KB⟩ := hrel
        obtain ⟨b0_, b1_, b2_, b3_, b4_, b5_⟩ := KP.out _ KB.out
        by_cases hlt : j < u.me.length
        · obtain ⟨ai, rfl, xi⟩ := Kd.at_int Y3.out (j : Int) (Int.natCast_nonneg j) (Int.ofNat_lt.2 hlt)
          rw [Int.toNat_natCast] at xi
          replace xi := pw_cell_below (belW B.out KB.out) xi
          have N1 := rd_i64 OK.out.nm hlt
          have HA2 : Aside0 (acc ++ (putU (rd u.me (j : Int)) ++ ((u.me.drop (j + 1)).flatMap putU ++ (bufU u.bf ++ putU u.lk))) = TT) := ⟨by rw [← HA.out, drop_put hlt]; simp only [List.append_assoc]⟩
          have f1 := fit2 HA2.out SZ2.out
          have f3 := fit2l HA2.out SZ2.out
          have hw := wrapN hlt (Kd.C_max Y3.out)
          have HJ := Aside0.mk hlt
          go_wp2_with (go_at_call 64; (with_reducible refine (rput_c N1).mono ?_); rintro e_ W1 ⟨rfl, hb_⟩; have K1 := Aside0.mk (belW KB.out hb_); clear hb_)
          go_roundw
          case rel => exact ⟨acc ++ putU (rd u.me (j : Int)), j + 1, by rw [ofU_append], by rw [hw]; rfl, HJ.out, ⟨by rw [← HA2.out]; simp only [List.append_assoc]⟩, K1⟩
          case measure => rw [hw]; exact nat_dec HJ.out
        · have HE : Aside0 (acc ++ (bufU u.bf ++ putU u.lk) = TT) := ⟨by rw [← HA.out, List.drop_eq_nil_of_le (Nat.le_of_not_lt hlt)]; rfl⟩
          clear HA hj
          go_wp2_with fail
          go_loopw [5, 9] (fun v x W => ∃ (acc : List UInt8) (j : Nat), v = .string (ofU acc) ∧ x = .int .i64 j ∧ j ≤ u.bf.length ∧ Aside0 (acc ++ (bufU (u.bf.drop j) ++ putU u.lk) = TT) ∧ Aside0 (Below W0.heap.size W0 W)) (fun _ x _ => u.bf.length - (intOf x).toNat)
          case atStart => exact ⟨acc, 0, rfl, rfl, Nat.zero_le _, ⟨by rw [List.drop_zero]; exact HE.out⟩, KB⟩
          case round =>
            clear KB HE hlt
            obtain ⟨acc, j, rfl, rfl, hj, HA, KB⟩ := hrel
            obtain ⟨b0_, b1_, b2_, b3_, b4_, b5_⟩ := KP.out _ KB.out
            by_cases hlt : j < u.bf.length
            · obtain ⟨ab, Ab, cb, rfl, xb, _, hb⟩ := at_L7 Y4.out (j : Int) (Int.natCast_nonneg j) (Int.ofNat_lt.2 hlt)
              rw [Int.toNat_natCast] at xb
              have XB := Aside0.mk xb
              replace xb := pw_cell_below (belW B.out KB.out) xb
              have R := Aside0.mk hb
              clear hb
              have HJ := Aside0.mk hlt
              have hL := OK.out.lbb _ (rd_L7_in hlt)
              have N1 := i64_len hL
              have HA2 : Aside0 (acc ++ (putU ((rd_L7 u.bf (j : Int)).length : Int) ++ (wrU (rd_L7 u.bf (j : Int)) ++ (bufU (u.bf.drop (j + 1)) ++ putU u.lk))) = TT) := ⟨by rw [← HA.out, buf_step hlt]; simp only [List.append_assoc]⟩
              have f1 := fit2 HA2.out SZ2.out
              have f3 := fit2l HA2.out SZ2.out
              clear hL
              go_wp2_with (go_at_call 64; (with_reducible refine (rput_c N1).mono ?_); rintro e_ W1 ⟨rfl, hb_⟩; have K1 := Aside0.mk (belW KB.out hb_); clear hb_)
              rw [ofU_append]
              go_loopw [5, 10] (fun v x W => ∃ (acc : List UInt8) (m : Nat), v = .string (ofU acc) ∧ x = .int .i64 m ∧ m ≤ (rd_L7 u.bf (j : Int)).length ∧ Aside0 (acc ++ (wrU ((rd_L7 u.bf (j : Int)).drop m) ++ (bufU (u.bf.drop (j + 1)) ++ putU u.lk)) = TT) ∧ Aside0 (Below W0.heap.size W0 W)) (fun _ x _ => (rd_L7 u.bf (j : Int)).length - (intOf x).toNat)
              case atStart => exact ⟨_, 0, rfl, rfl, Nat.zero_le _, ⟨by rw [← HA2.out, List.drop_zero]; simp only [List.append_assoc]⟩, K1⟩
              case round =>
                clear KB HA2 f1 f3 K1 HA hj xb
                obtain ⟨acc, m, rfl, rfl, hm, HA, KB⟩ := hrel
                obtain ⟨b0_, b1_, b2_, b3_, b4_, b5_⟩ := KP.out _ KB.out
                have xb := pw_cell_below (belW B.out KB.out) XB.out
                by_cases hlm : m < (rd_L7 u.bf (j : Int)).length
                · obtain ⟨ae, rfl, xe, xf⟩ := at_T59 R.out (m : Int) (Int.natCast_nonneg m) (Int.ofNat_lt.2 hlm)
                  rw [Int.toNat_natCast] at xe xf
                  have hx := OK.out.nb _ (rd_L7_in hlt) (rd_T59 (rd_L7 u.bf (j : Int)) (m : Int)) (rd_T59_in hlm)
                  have N1 := hx.1
                  have N2 := hx.2
                  have HA2 : Aside0 (acc ++ (putU (rd_T59 (rd_L7 u.bf (j : Int)) (m : Int)).f0 ++ (putU (rd_T59 (rd_L7 u.bf (j : Int)) (m : Int)).f1 ++ (wrU ((rd_L7 u.bf (j : Int)).drop (m + 1)) ++ (bufU (u.bf.drop (j + 1)) ++ putU u.lk)))) = TT) := ⟨by rw [← HA.out, wr_step hlm]; simp only [List.append_assoc]⟩
                  have f1 := fit2 HA2.out SZ2.out
                  have f2 := fit3 HA2.out SZ2.out
                  have f3 := fit2l HA2.out SZ2.out
                  have f4 := fit3l HA2.out SZ2.out
                  have hw := wrapN hlm (Kd.C_max R.out)
                  have HM := Aside0.mk hlm
                  have KS : Aside0 (∀ W', Below W0.heap.size W0 W' → W'.cell? ⟨w.heap.size + 1, 4, none⟩ = some (.slice (some ab) u.bf.length d4) ∧ W'.cell? (ab.add j) = some (.slice (some ae) (rd_L7 u.bf (j : Int)).length cb) ∧ W'.cell? (ae.add (m * 2)) = some (.int .i64 (rd_T59 (rd_L7 u.bf (j : Int)) (m : Int)).f0) ∧ W'.cell? ⟨(ae.add (m * 2)).block, (ae.add (m * 2)).off + 1, none⟩ = some (.int .i64 (rd_T59 (rd_L7 u.bf (j : Int)) (m : Int)).f1)) := ⟨fun W' hb => by
                    obtain ⟨b0_, b1_, b2_, b3_, b4_, b5_⟩ := KP.out _ hb
                    have hc := belW B.out hb
                    exact ⟨b4_, pw_cell_below hc XB.out, pw_cell_below hc xe, pw_cell_below hc xf⟩⟩
                  clear xe xf hx
                  obtain ⟨s0, s1, s2, s3⟩ := KS.out _ KB.out
                  go_upto_region 21 with fail
                  go_region_held3 (fun W' : World => W'.cell? ⟨w.heap.size + 1, 4, none⟩ = some (.slice (some ab) u.bf.length d4) ∧ W'.cell? (ab.add j) = some (.slice (some ae) (rd_L7 u.bf (j : Int)).length cb) ∧ W'.cell? (ae.add (m * 2)) = some (.int .i64 (rd_T59 (rd_L7 u.bf (j : Int)) (m : Int)).f0) ∧ W'.cell? ⟨(ae.add (m * 2)).block, (ae.add (m * 2)).off + 1, none⟩ = some (.int .i64 (rd_T59 (rd_L7 u.bf (j : Int)) (m : Int)).f1))
                    (first | with_reducible exact KS.out _ (below_drew KB.out) | with_reducible exact KS.out _ K1.out | with_reducible exact KS.out _ K2.out)
                    (first
                      | (go_at_call 64; (with_reducible refine (rput_c N1).mono ?_); rintro e_ W1 ⟨rfl, hb_⟩; have K1 := Aside0.mk (belW (below_drew KB.out) hb_); clear hb_)
                      | (go_at_call 64; (with_reducible refine (rput_c N2).mono ?_); rintro e_ W2 ⟨rfl, hb_⟩; have K2 := Aside0.mk (belW K1.out hb_); clear hb_))
                  all_goals clear s0 s1 s2 s3 b0_ b1_ b2_ b3_ b4_ b5_ xb
                  go_wp2_with fail
                  go_roundw
                  case rel => exact ⟨acc ++ putU (rd_T59 (rd_L7 u.bf (j : Int)) (m : Int)).f0 ++ putU (rd_T59 (rd_L7 u.bf (j : Int)) (m : Int)).f1, m + 1, by rw [ofU_append, ofU_append], by rw [hw]; rfl, HM.out, ⟨by rw [← HA2.out]; simp only [List.append_assoc]⟩, K2⟩
                  case measure => rw [hw]; exact nat_dec HM.out
                · have hw := wrapN HJ.out (Kd.C_max Y4.out)
                  have HD := Aside0.mk (List.drop_eq_nil_of_le (Nat.le_of_not_lt hlm))
                  go_wp2_with fail
                  go_roundw
                  case rel => exact ⟨acc, j + 1, rfl, by rw [hw]; rfl, HJ.out, ⟨by rw [← HA.out, HD.out]; rfl⟩, KB⟩
                  case measure => rw [hw]; exact nat_dec HJ.out
            · have HE : Aside0 (acc ++ (putU u.lk ++ []) = TT) := ⟨by rw [← HA.out, List.drop_eq_nil_of_le (Nat.le_of_not_lt hlt), List.append_nil]; rfl⟩
              have N1 := OK.out.nl
              have f1 := fit2 HE.out SZ2.out
              have f3 := fit2l HE.out SZ2.out
              go_wp2_with (go_at_call 64; (with_reducible refine (rput_c N1).mono ?_); rintro e_ W1 ⟨rfl, hb_⟩; have K1 := Aside0.mk (belW KB.out hb_); clear hb_)
              rw [ofU_append]
              go_ret
              exact ⟨by rw [← HE.out, List.append_nil]; rfl, belW B.out K1.out⟩
end Go.Proofs.Ytemhpbdlonfikaa.P
/- weirref11.Code, walked by hand. -/
namespace Go.Proofs.Ytemhpbdlonfikaa.P
open Go Go.RowKit Go.Proofs.YtemhpbdlonfikaaW.PrintWords Go.Proofs.YtemhpbdlonfikaaW.PrintLast Go.Proofs.YtemhpbdlonfikaaW.PrintMore
theorem two_begin (w : World) (pv sv : List Value) (W0 : World) (g : Nat) (h : W0 = ((w.alloc (.cells pv.toArray 28)).alloc (.cells sv.toArray 42))) (h4 : g = w.heap.size + 1) :
    Owned w [.box w.heap.size 28 pv.toArray, .box g 42 sv.toArray] W0 := by
  have a := ((Owned.nil w).box 28 pv.toArray).box 42 sv.toArray
  rw [← h] at a
  simp only [sz_alloc] at a
  rw [← h4] at a
  exact a
theorem ris_o {w W : World} {ps : List Part} {pv sv : List Value} {p : Pg} {u : St} (hp : PgV w pv p) (hs : StV w sv u) (h : Owned w ps W) (hg : p.rg.length = p.th.length) {b : Bool} (hb : isM p u.p u.q u.rg u.me u.bf u.lk = b) : Calls Try.prog 31 #[.agg pv.toArray, .agg sv.toArray] W fun e W' => e = .returned (.bool b) ∧ Owned w ps W' := by
  refine (ris_c (hp.below h.below) (hs.below h.below) hg).mono ?_
  rintro e W' ⟨rfl, hB⟩
  exact ⟨by rw [hb], h.later hB⟩
theorem rtext_o {w W : World} {ps : List Part} {pv sv : List Value} {p : Pg} {u : St} (hp : PgV w pv p) (hs : StV w sv u) (h : Owned w ps W) (ok : TextOK u.p u.q u.rg u.me u.bf u.lk) : Calls Try.prog 29 #[.agg pv.toArray, .agg sv.toArray] W fun e W' => e = .returned (.string (textT u.p u.q u.rg u.me u.bf u.lk)) ∧ Owned w ps W' := by
  refine (rtext_c (hp.below h.below) (hs.below h.below) ok).mono ?_
  rintro e W' ⟨rfl, hB⟩
  exact ⟨rfl, h.later hB⟩
set_option maxHeartbeats 8000000 in
set_option maxRecDepth 100000 in
theorem rcode_o {w : World} {pv sv : List Value} {p : Pg} {u : St} {X : ByteArray × Int} (hp : PgV w pv p) (hs : StV w sv u) (hvr : Ev (fun k => weirref09_Valid.f k p.th p.rg p.lo p.r0 p.m0) (validM p)) (hL : LenP p)
    (ok : validM p = 0 → isM p u.p u.q u.rg u.me u.bf u.lk = true → TextOK u.p u.q u.rg u.me u.bf u.lk) (hX : (if validM p = 0 then (if isM p u.p u.q u.rg u.me u.bf u.lk = true then (textT u.p u.q u.rg u.me u.bf u.lk, (0 : Int)) else (⟨#[]⟩, 5)) else (⟨#[]⟩, validM p)) = X) :
    Calls Try.prog 15 #[.agg pv.toArray, .agg sv.toArray] w fun e W' => e = .returned (.tuple #[.string X.1, .int .i64 X.2]) ∧ Below w.heap.size w W' := by
  have HP := Aside0.mk hp
  have HS := Aside0.mk hs
  obtain ⟨A0, A1, A2, A3, A4, c0, c1, c2, c3, c4, rfl, _, _, _, _, _, _, _, _, _, _⟩ := hp
  obtain ⟨B0, B1, B2, B3, B4, d0, d1, d2, d3, d4, rfl, _, _, _, _, _, _, _, _, _, _⟩ := hs
  obtain ⟨vv, hvv⟩ : ∃ x, validM p = x := ⟨_, rfl⟩
  obtain ⟨bb, hbb⟩ : ∃ x, isM p u.p u.q u.rg u.me u.bf u.lk = x := ⟨_, rfl⟩
  have HB := Aside0.mk hbb
  have HL := Aside0.mk hL
  have HZ := Aside0.mk hvv
  rw [hvv] at hvr ok hX
  rw [hbb] at ok hX
  have HV := Aside0.mk hvr
  have HT := Aside0.mk ok
  have E := Aside0.mk hX
  clear hvv hbb hL hvr ok hX
  have hu28 := Try.underlying28
  have hu42 := Try.underlying42
  go_enter Try.func15, Try.ntmps15
  go_upto_region 1 with fail
  generalize hW : World.alloc (World.alloc w _) _ = W0
  generalize h4 : w.heap.size + 1 = g
  have HO := Aside0.mk (two_begin w [.slice A0 p.th.length c0, .slice A1 p.rg.length c1, .slice A2 p.lo.length c2, .slice A3 p.r0.length c3, .slice A4 p.m0.length c4] [.slice B0 u.p.length d0, .slice B1 u.q.length d1, .slice B2 u.rg.length d2, .slice B3 u.me.length d3, .slice B4 u.bf.length d4, .int .i64 u.lk] W0 g hW.symm h4.symm)
  clear hW h4
  have hb2 := HO.out.blk (j := 0) rfl
  go_upto_region 2 with (first
    | (refine wpList_load_row rfl 28 (.tmp 2) rfl w.heap.size rfl 28 _ (0, 0) _ hb2 hu28 rfl (by kernel_rfl) ?_)
    | (go_at_call 26; (with_reducible refine (valid_o HP.out HO.out HV.out).mono ?_); rintro e W1 ⟨rfl, h1⟩; have HO1 := Aside0.mk h1; clear h1))
  clear hb2 HO
  by_cases hv0 : vv = 0
  · subst hv0
    have TK0 := Aside0.mk (HT.out rfl)
    clear HT
    have hb2 := HO1.out.blk (j := 0) rfl
    have hb3 := HO1.out.blk (j := 1) rfl
    have hg := Aside0.mk (HL.out HZ.out).2.2.1
    have hgg := hg
    clear hg
    have hg := hgg
    clear hgg
    cases bb with
    | true =>
      have TK := Aside0.mk (TK0.out rfl)
      clear TK0
      have hX : (textT u.p u.q u.rg u.me u.bf u.lk, (0 : Int)) = X := by rw [← E.out, if_pos rfl, if_pos rfl]
      subst hX
      go_upto_region 6 with (first
        | (refine wpList_load_row rfl 28 (.tmp 2) rfl w.heap.size rfl 28 _ (0, 0) _ hb2 hu28 rfl (by kernel_rfl) ?_)
        | (refine wpList_load_row rfl 42 (.tmp 3) rfl g rfl 42 _ (0, 0) _ hb3 hu42 rfl (by kernel_rfl) ?_)
        | (go_at_call 31; (with_reducible refine (ris_o HP.out HS.out HO1.out hg.out HB.out).mono ?_); rintro e W2 ⟨rfl, h2⟩; have HO2 := Aside0.mk h2; clear h2 hb2 hb3; have hb2 := HO2.out.blk (j := 0) rfl; have hb3 := HO2.out.blk (j := 1) rfl))
      clear HO1
      go_wp2_with (first
        | (refine wpList_load_row rfl 28 (.tmp 2) rfl w.heap.size rfl 28 _ (0, 0) _ hb2 hu28 rfl (by kernel_rfl) ?_)
        | (refine wpList_load_row rfl 42 (.tmp 3) rfl g rfl 42 _ (0, 0) _ hb3 hu42 rfl (by kernel_rfl) ?_)
        | (go_at_call 29; (with_reducible refine (rtext_o HP.out HS.out HO2.out TK.out).mono ?_); rintro e W3 ⟨rfl, h3⟩; have HO3 := Aside0.mk h3; clear h3))
      go_ret2
      exact ⟨rfl, HO3.out.below⟩
    | false =>
      have hX : ((⟨#[]⟩ : ByteArray), (5 : Int)) = X := by rw [← E.out, if_pos rfl, if_neg (by decide)]
      subst hX
      go_wp2_with (first
        | (refine wpList_load_row rfl 28 (.tmp 2) rfl w.heap.size rfl 28 _ (0, 0) _ hb2 hu28 rfl (by kernel_rfl) ?_)
        | (refine wpList_load_row rfl 42 (.tmp 3) rfl g rfl 42 _ (0, 0) _ hb3 hu42 rfl (by kernel_rfl) ?_)
        | (go_at_call 31; (with_reducible refine (ris_o HP.out HS.out HO1.out hg.out HB.out).mono ?_); rintro e W2 ⟨rfl, h2⟩; have HO2 := Aside0.mk h2; clear h2))
      go_ret2
      exact ⟨rfl, HO2.out.below⟩
  · have hX : ((⟨#[]⟩ : ByteArray), vv) = X := by rw [← E.out, if_neg hv0]
    subst hX
    go_wp2_with fail
    go_ret2
    exact ⟨rfl, HO1.out.below⟩
end Go.Proofs.Ytemhpbdlonfikaa.P
