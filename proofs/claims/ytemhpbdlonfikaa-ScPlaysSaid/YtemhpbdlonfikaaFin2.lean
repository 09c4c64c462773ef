/- prog.final: the final state with some registers and a memory. -/
import Derived.Test.YtemhpbdlonfikaaFin
namespace Go.Proofs.Ytemhpbdlonfikaa.P
open Go Go.RowKit Go.Proofs.YtemhpbdlonfikaaW.PrintWords Go.Proofs.YtemhpbdlonfikaaW.PrintLast Go.Proofs.YtemhpbdlonfikaaW.PrintMore

/-- The first m numbers of a list; 0 where there is none. -/
def rowL (r : List Int) (m : Nat) : List Int := (List.range m).map fun (k : Nat) => rd r k
/-- The registers' values of the first n threads. -/
def regsL (names : List (List ByteArray)) (rg : List (List Int)) (n : Nat) : List Int := (List.range n).foldl (fun l (i : Nat) => putAll l (rowL (rd_L5 rg i) (rd_L4 names i).length)) []
/-- A final state's values. -/
def finM (names : List (List ByteArray)) (nl : Nat) (rg : List (List Int)) (me : List Int) : List Int := putAll (regsL names rg names.length) (rowL me nl)
theorem putAll_row (l r : List Int) (k : Nat) : putAll l (rowL r (k + 1)) = putL (putAll l (rowL r k)) (rd r k) := by
  unfold putAll rowL
  rw [List.range_succ, List.map_append, List.foldl_append]; rfl
theorem regsL_succ (names : List (List ByteArray)) (rg : List (List Int)) (i : Nat) : regsL names rg (i + 1) = putAll (regsL names rg i) (rowL (rd_L5 rg i) (rd_L4 names i).length) := by
  unfold regsL
  rw [List.range_succ, List.foldl_append]; rfl
theorem regsL_le (names : List (List ByteArray)) (rg : List (List Int)) (n : Nat) : (regsL names rg n).length ≤ 48 := by
  induction n with
  | zero => exact Nat.zero_le _
  | succ n ih => rw [regsL_succ]; exact putAll_le _ ih

theorem wrap_succ {k n : Nat} (h : k < n) (hn : n ≤ 9223372036854775807) : wrap64 ((k : Int) + 1) = ((k + 1 : Nat) : Int) := by unfold wrap64; omega
theorem sub_succ {k n : Nat} (h : k < n) : n - (intOf (.int .i64 ((k + 1 : Nat) : Int))).toNat < n - (intOf (.int .i64 (k : Int))).toNat := by simp [intOf]; omega
theorem apart2 (n : Nat) (t u : TypeId) (x y : Array Value) : ∀ c ∈ [(n + 1, t, x), (n, u, y)], c.1 ≠ n + 1 + 1 := by
  intro c hc
  simp only [List.mem_cons, List.not_mem_nil, or_false] at hc
  rcases hc with rfl | rfl
  · show n + 1 ≠ n + 1 + 1
    omega
  · show n ≠ n + 1 + 1
    omega

set_option maxHeartbeats 4000000 in
set_option maxRecDepth 100000 in
theorem prog_final.calls {w : World} {p : Pg} {pv : List Value} (hp : PgV w pv p) {Ar Am : Option Addr} {cr cm : Nat} {rg : List (List Int)} {me : List Int} (hr : Kd.C (Kd.slice 2 (Kd.int .i64)) w Ar rg.length rg) (hm : Kd.C (Kd.int .i64) w Am me.length me) :
    Calls Try.prog 84 #[.agg pv.toArray, .slice Ar rg.length cr, .slice Am me.length cm] w fun e W' => e = .returned (.agg (finV (finM p.rg p.lo.length rg me)).toArray) ∧ Below w.heap.size w W' := by
  obtain ⟨A0, A1, A2, A3, A4, c0, c1, c2, c3, c4, rfl, _, _, h1, _, h2, _, _, _, _, _⟩ := hp
  have hu28 := Try.underlying28
  have hu32 := Try.underlying32
  have hu30 := Try.underlying30
  have hmf : ∀ (fn : Fn) (first cap : Array Value) (w : World), (Instr.makeFunc fn first cap).run Try.prog w = .ok (.func fn first cap) w := fun _ _ _ _ => rfl
  have H1 := Aside0.mk h1
  have H2 := Aside0.mk h2
  have HR := Aside0.mk hr
  have HM := Aside0.mk hm
  have hb0 := (((Bag.nil w).fresh 28 #[.slice A0 p.th.length c0, .slice A1 p.rg.length c1, .slice A2 p.lo.length c2, .slice A3 p.r0.length c3, .slice A4 p.m0.length c4]).fresh 32 (finV []).toArray).fresh 32 (finV []).toArray
  have z1 : (w.alloc (.cells #[.slice A0 p.th.length c0, .slice A1 p.rg.length c1, .slice A2 p.lo.length c2, .slice A3 p.r0.length c3, .slice A4 p.m0.length c4] 28)).heap.size = w.heap.size + 1 := by simp
  have z2 : ((w.alloc (.cells #[.slice A0 p.th.length c0, .slice A1 p.rg.length c1, .slice A2 p.lo.length c2, .slice A3 p.r0.length c3, .slice A4 p.m0.length c4] 28)).alloc (.cells (finV []).toArray 32)).heap.size = w.heap.size + 1 + 1 := by simp
  rw [z1, z2] at hb0
  have HB0 := Aside0.mk hb0
  clear h1 h2 hr hm z1 z2 hb0
  go_enter Try.func84, Try.ntmps84
  go_upto_region 3 with fail
  generalize hW : World.alloc (World.alloc (World.alloc w _) _) _ = W3
  have HB : Aside0 (Bag w [] [(w.heap.size + 1 + 1, 32, (finV (regsL p.rg rg 0)).toArray), (w.heap.size + 1, 32, (finV []).toArray), (w.heap.size, 28, #[.slice A0 p.th.length c0, .slice A1 p.rg.length c1, .slice A2 p.lo.length c2, .slice A3 p.r0.length c3, .slice A4 p.m0.length c4])] W3) := ⟨by rw [← hW]; exact HB0.out⟩
  clear hW HB0
  have HNE := Aside0.mk (apart2 w.heap.size 32 28 (finV []).toArray #[.slice A0 p.th.length c0, .slice A1 p.rg.length c1, .slice A2 p.lo.length c2, .slice A3 p.r0.length c3, .slice A4 p.m0.length c4])
  generalize w.heap.size + 1 + 1 = g2 at HB HNE ⊢
  obtain ⟨b1, _⟩ := HB.out.cellOf (c := (w.heap.size, 28, _)) (List.mem_cons_of_mem _ (List.mem_cons_of_mem _ List.mem_cons_self)) 1 _ rfl
  go_wp2
  go_loopw [18] (fun v W => ∃ i : Nat, v = .int .i64 i ∧ i ≤ p.rg.length ∧ Aside0 (Bag w [] [(g2, 32, (finV (regsL p.rg rg i)).toArray), (w.heap.size + 1, 32, (finV []).toArray), (w.heap.size, 28, #[.slice A0 p.th.length c0, .slice A1 p.rg.length c1, .slice A2 p.lo.length c2, .slice A3 p.r0.length c3, .slice A4 p.m0.length c4])] W)) (fun v _ => p.rg.length - (intOf v).toNat)
  case atStart => exact ⟨0, rfl, Nat.zero_le _, HB⟩
  case round =>
    clear HB b1
    obtain ⟨i, rfl, hi, HB⟩ := hrel
    by_cases hlt : i < p.rg.length
    · obtain ⟨ad, An, cn, rfl, n0, _, nC⟩ := at_L4 H1.out (i : Int) (by omega) (by omega)
      have n1 := pw_cell_below HB.out.below n0
      rw [Int.toNat_natCast] at n1
      have hrow : ∃ (Ai : Option Addr) (ci : Nat), Kd.C (Kd.int .i64) w Ai (rd_L5 rg i).length (rd_L5 rg i) ∧ ((i < rg.length ∧ ∃ br, Ar = some br ∧ wr.cell? (br.add i) = some (.slice Ai (rd_L5 rg i).length ci)) ∨ (¬ i < rg.length ∧ (rd_L5 rg i).length = 0 ∧ Ai = none ∧ ci = 0)) := by
        by_cases hir : i < rg.length
        · obtain ⟨br, Ai, ci, e1, e2, _, e4⟩ := at_L5 HR.out (i : Int) (by omega) (by omega)
          rw [Int.toNat_natCast] at e2
          exact ⟨Ai, ci, e4, .inl ⟨hir, br, e1, pw_cell_below HB.out.below e2⟩⟩
        · have e : rd_L5 rg i = [] := by unfold rd_L5; rw [List.getD_eq_getElem?_getD, Int.toNat_natCast, List.getElem?_eq_none (by omega)]; rfl
          exact ⟨none, 0, by rw [e]; exact Kd.C_nil _ _, .inr ⟨hir, by rw [e]; rfl, rfl, rfl⟩⟩
      obtain ⟨Ai, ci, hC, hw⟩ := hrow
      obtain ⟨r, hr⟩ : ∃ r, rd_L5 rg i = r := ⟨_, rfl⟩
      obtain ⟨m, hm⟩ : ∃ m, (rd_L4 p.rg i).length = m := ⟨_, rfl⟩
      rw [hr] at hC hw
      rw [hm] at n1
      have hmx := Kd.C_max nC
      rw [hm] at hmx
      have HMX := Aside0.mk hmx
      clear nC hmx
      have HRI := Aside0.mk hr
      have HMI := Aside0.mk hm
      have HC := Aside0.mk hC
      have HBW := Aside0.mk HB.out.below
      clear hr hm hC n0
      go_upto_if 26 with fail
      go_cut [11] (fun v wx => v = .slice Ai r.length ci ∧ wx = wr)
      case first =>
        rcases hw with ⟨h1, br, rfl, h2⟩ | ⟨h1, h2, rfl, rfl⟩
        · have hd : decide (i < rg.length) = true := decide_eq_true h1
          go_wp2
          go_meet
          exact ⟨rfl, rfl⟩
        · have hd : decide (i < rg.length) = false := decide_eq_false h1
          go_wp2
          go_meet
          exact ⟨by rw [h2], rfl⟩
      case rest =>
        obtain ⟨rfl, rfl⟩ := hcut
        clear hw
        go_wp2
        go_loopw [33] (fun v W => ∃ k : Nat, v = .int .i64 k ∧ k ≤ m ∧ Aside0 (Bag w [] [(g2, 32, (finV (putAll (regsL p.rg rg i) (rowL r k))).toArray), (w.heap.size + 1, 32, (finV []).toArray), (w.heap.size, 28, #[.slice A0 p.th.length c0, .slice (some ad) p.rg.length c1, .slice A2 p.lo.length c2, .slice A3 p.r0.length c3, .slice A4 p.m0.length c4])] W)) (fun v _ => m - (intOf v).toNat)
        case atStart => exact ⟨0, rfl, Nat.zero_le _, HB⟩
        case round =>
          clear HB HBW
          obtain ⟨k, rfl, hk, HB⟩ := hrel
          by_cases hkm : k < m
          · have hL := Aside0.mk (putAll_le (rowL r k) (regsL_le p.rg rg i))
            have hS := Aside0.mk (putAll_row (regsL p.rg rg i) r k)
            go_wp2_with (go_at_call 108; (with_reducible refine (final_put.calls (r := r) (i := (k : Int)) HB.out HNE.out hL.out (Kd.C_below HC.out HB.out.below) (Int.natCast_nonneg k)).mono ?_); rintro e w5 ⟨rfl, hb5⟩; rw [← hS.out] at hb5; have HB5 := Aside0.mk hb5; clear hb5)
            have hw := wrap_succ hkm HMX.out
            go_roundw
            case rel => exact ⟨k + 1, by rw [hw], hkm, HB5⟩
            case measure => rw [hw]; exact sub_succ (by assumption)
          · have hkE : k = m := by omega
            subst hkE
            have hE := Aside0.mk (regsL_succ p.rg rg i)
            rw [HRI.out, HMI.out] at hE
            rw [← hE.out] at HB
            go_wp2
            have hw := wrap_succ hlt (Kd.C_max H1.out)
            go_roundw
            case rel => exact ⟨i + 1, by rw [hw], hlt, HB⟩
            case measure => rw [hw]; exact sub_succ (by assumption)
    · have hiE : i = p.rg.length := by omega
      subst hiE
      obtain ⟨b2, _⟩ := HB.out.cellOf (c := (w.heap.size, 28, _)) (List.mem_cons_of_mem _ (List.mem_cons_of_mem _ List.mem_cons_self)) 2 _ rfl
      clear hlt
      go_upto_region 16 with fail
      go_loopw [45] (fun v W => ∃ k : Nat, v = .int .i64 k ∧ k ≤ p.lo.length ∧ Aside0 (Bag w [] [(g2, 32, (finV (putAll (regsL p.rg rg p.rg.length) (rowL me k))).toArray), (w.heap.size + 1, 32, (finV []).toArray), (w.heap.size, 28, #[.slice A0 p.th.length c0, .slice A1 p.rg.length c1, .slice A2 p.lo.length c2, .slice A3 p.r0.length c3, .slice A4 p.m0.length c4])] W)) (fun v _ => p.lo.length - (intOf v).toNat)
      case atStart => exact ⟨0, rfl, Nat.zero_le _, HB⟩
      case round =>
        clear HB
        obtain ⟨k, rfl, hk, HB⟩ := hrel
        by_cases hkm : k < p.lo.length
        · have hL := Aside0.mk (putAll_le (rowL me k) (regsL_le p.rg rg p.rg.length))
          have hS := Aside0.mk (putAll_row (regsL p.rg rg p.rg.length) me k)
          go_wp2_with (go_at_call 108; (with_reducible refine (final_put.calls (r := me) (i := (k : Int)) HB.out HNE.out hL.out (Kd.C_below HM.out HB.out.below) (Int.natCast_nonneg k)).mono ?_); rintro e w5 ⟨rfl, hb5⟩; rw [← hS.out] at hb5; have HB5 := Aside0.mk hb5; clear hb5)
          have hw := wrap_succ hkm (Kd.C_max H2.out)
          go_roundw
          case rel => exact ⟨k + 1, by rw [hw], hkm, HB5⟩
          case measure => rw [hw]; exact sub_succ (by assumption)
        · have hkE : k = p.lo.length := by omega
          subst hkE
          clear hkm
          go_upto_region 20 with fail
          have hL := putAll_le (rowL me p.lo.length) (regsL_le p.rg rg p.rg.length)
          have hfin : putAll (regsL p.rg rg p.rg.length) (rowL me p.lo.length) = finM p.rg p.lo.length rg me := rfl
          rw [hfin] at hL HB
          have h2c := (HB.out.cell _ List.mem_cons_self).2
          have h1c := (HB.out.cell _ (List.mem_cons_of_mem _ List.mem_cons_self)).2
          have hB2 := (HB.out.perm (cells' := [(w.heap.size + 1, (32 : TypeId), (finV []).toArray)]) (fun c hc => by rw [List.mem_singleton.1 hc]; exact List.mem_cons_of_mem _ List.mem_cons_self)).setAll (vs' := (finV (finM p.rg p.lo.length rg me)).toArray) (fun c hc => by cases hc)
          apply wp_region_lit
          refine wpList_load_row rfl 32 (.tmp 7) rfl g2 rfl 32 _ (0, 0) _ h2c hu32 rfl (finV_size hL) ?_
          refine wpList_store_row rfl 32 (.tmp 6) (.tmp 53) rfl (w.heap.size + 1) _ rfl rfl 32 _ h1c (finV_size hL) (by rw [List.size_toArray, List.size_toArray, finV_length hL, finV_length (Nat.zero_le _)]) (finV_one _) ?_
          apply wpList_nil
          go_wp2
          refine bodyPost_ret (results_cell_row rfl _ _ (w.heap.size + 1) 32 _ (0, 0) _ rfl (hB2.cell _ List.mem_cons_self).2 hu32 rfl (finV_size hL)) rfl ⟨rfl, hB2.below⟩
end Go.Proofs.Ytemhpbdlonfikaa.P
