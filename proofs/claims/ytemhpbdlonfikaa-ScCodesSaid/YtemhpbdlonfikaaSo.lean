/- The copy of a program, walked by hand. -/
import Derived.Test.YtemhpbdlonfikaaCy
import Derived.Test.YtemhpbdlonfikaaEa
namespace Go.Proofs.Ytemhpbdlonfikaa.P
open Go Go.RowKit Go.Proofs.YtemhpbdlonfikaaW.PrintWords Go.Proofs.YtemhpbdlonfikaaW.PrintLast Go.Proofs.YtemhpbdlonfikaaW.PrintMore
def boxP (v0 v1 v2 v3 v4 : Value) : Array Value := #[v0, v1, v2, v3, v4]
def zP : Array Value := boxP (.slice none 0 0) (.slice none 0 0) (.slice none 0 0) (.slice none 0 0) (.slice none 0 0)
theorem boxp_one (v0 v1 v2 v3 v4 : Option Addr) (n0 n1 n2 n3 n4 c0 c1 c2 c3 c4 : Nat) : (boxP (.slice v0 n0 c0) (.slice v1 n1 c1) (.slice v2 n2 c2) (.slice v3 n3 c3) (.slice v4 n4 c4)).all (·.oneCell') = true := by
  unfold boxP
  rw [List.all_toArray]
  rfl
theorem boxp_size (v0 v1 v2 v3 v4 : Value) : (Try.prog.info? 28).map (·.size) = some (boxP v0 v1 v2 v3 v4).size := by kernel_rfl
theorem fit16 {n : Nat} (h : n < 8796093022208) : n * 16 ≤ 140737488355328 := by omega
def cqT1 : Bool × List (List Nat × List Nat) := (true, [([], []), ([], []), ([1], [1]), ([0, 2], [0, 2]), ([], []), ([], []), ([5], [5]), ([4, 6, 3], [4, 6]), ([], []), ([8], [8]), ([9, 7], [9]), ([3, 7, 10], [3, 7, 10]), ([], []), ([12, 11, 10, 0, 1, 2, 3, 4, 5, 6, 7, 8, 9, 10, 11, 12], [11, 12])])
def cqB1 : List Nat := [0, 0, 2, 7, 0, 0, 32, 127, 0, 256, 1023, 2047, 0, 8191]
theorem cq_tab1 : rtab .any (opsOf Try.f12 1) = cqT1 := by kernel_rfl
theorem cq_bits1 : waitsOk cqT1.2 cqB1 = true := by kernel_rfl
theorem cq_tab5 : rtab .any (opsOf Try.f12 5) = cpT5 := by kernel_rfl
theorem cq_tab9 : rtab .any (opsOf Try.f12 9) = cpT5 := by kernel_rfl
set_option maxHeartbeats 8000000 in
set_option maxRecDepth 100000 in
theorem copyp_R {w : World} {p : Pg} {pv : List Value} (hp : PgV w pv p) (F : PgFit p) : Calls Try.prog 12 #[.agg pv.toArray] w fun e W' => ∃ cv, e = .returned (.agg cv.toArray) ∧ PgR w.heap.size (fun _ => True) W' cv p ∧ Below w.heap.size w W' := by
  obtain ⟨T, G, L, R, M⟩ := p
  obtain ⟨A0, A1, A2, A3, A4, c0, c1, c2, c3, c4, rfl, x0, l0, x1, l1, x2, l2, x3, l3, x4, l4⟩ := hp
  have FF := Aside0.mk F
  have X0 := Aside0.mk x0
  have X1 := Aside0.mk x1
  have X2 := Aside0.mk x2
  have X3 := Aside0.mk (And.intro x3 l3)
  have X4 := Aside0.mk x4
  clear F x0 x1 x2 x3 x4 l0 l1 l2 l3 l4
  go_enter Try.func12, Try.ntmps12
  go_upto_region 1 with fail
  generalize hW : World.alloc (World.alloc w _) _ = W0
  generalize h4 : w.heap.size + 1 = g
  have HO := Aside0.mk (two_box w 28 28 (boxP (.slice A0 T.length c0) (.slice A1 G.length c1) (.slice A2 L.length c2) (.slice A3 R.length c3) (.slice A4 M.length c4)) zP W0 g hW.symm h4.symm).drew
  clear hW h4
  obtain ⟨y0, y1, y2, y3, y4, _⟩ := blkA5 (HO.out.blk (j := 0) rfl)
  refine start_ (n := 14) (S := fun w' => w'.cell? ⟨w.heap.size, 2, none⟩ = some (.slice A2 L.length c2) ∧ w'.cell? ⟨w.heap.size, 3, none⟩ = some (.slice A3 R.length c3) ∧ w'.cell? ⟨w.heap.size, 4, none⟩ = some (.slice A4 M.length c4)) (ds := [13]) #[false, false, false, false, false, false, false, false, false, false, false, false, false, false] (by kernel_rfl) rfl rfl ⟨y2, y3, y4⟩ (fun hHeld => ?_); refine with_tabW cq_tab1 cq_bits1 (fun HT_ HW_ => ?_)
  clear y0 y1 y2 y3 y4
  generalize World.drew _ = W1 at HO hHeld ⊢
  refine pu_ 1 7 ?_
  refine pu_ 5 11 ?_
  refine pu_ 8 14 ?_
  refine ta_ 2 8 ?_ hHeld
  refine ta_ 6 12 ?_ hHeld
  refine ta_ 9 15 ?_ hHeld
  refine inv_ 1 #[true, true, true, true, true, true, true, true, true, true, true, true, true, false] (w0 := W1) [(0, 6), (3, 9), (4, 10), (7, 13), (10, 16), (12, 3), (11, 17)] (fun e => match e with | 3 => [0] | 7 => [4] | _ => []) (fun e vs ok W => match e with | 0 => Kd.R Kd.string 9 W W1.heap.size ok (vs 0) [] | 3 => Kd.R Kd.string 9 W W1.heap.size ok (vs 3) ([] ++ L) | 4 => Kd.R (Kd.int .i64) 2 W W1.heap.size ok (vs 4) [] | 7 => Kd.R (Kd.int .i64) 2 W W1.heap.size ok (vs 7) ([] ++ M) | 10 => Kd.S (Kd.slice 2 (Kd.int .i64)) 26 W W1.heap.size ok (vs 10) R | 12 => ∃ g, vs 12 = .pointer (some ⟨g, 0, none⟩) ∧ ok g ∧ W1.heap.size ≤ g ∧ W.heap[g]? = some (.cells zP 28 (0, 0)) | 11 => vs 11 = .agg #[.slice none 0 0, .slice none 0 0, vs 3, vs 10, vs 7] | _ => True) HT_.out (by kernel_rfl) (by rfl) ?iS ?iE ?iC
  case iS => exact fun W hb => ⟨pw_cell_below hb hHeld.1, pw_cell_below hb hHeld.2.1, pw_cell_below hb hHeld.2.2⟩
  case iE =>
    have hx : ∀ W, Below W1.heap.size W1 W → Below w.heap.size w W := fun W hb => below_then HO.out.below HO.out.below.size hb
    refine evs_cons ?_ (evs_cons ?_ (evs_cons ?_ (evs_cons ?_ (evs_cons ?_ (evs_cons ?_ (evs_cons ?_ (evs_nil)))))))
    · exact ev_lit Kd.string 9 rfl rfl rfl rfl (fun _ _ => by first | (go_simp; done) | (go_simp; rfl))
    · exact ev_append Kd.string 0 6 (.tmp 8) 24 9 (.string ⟨#[]⟩) 16 [] L _ _ _ (by kernel_rfl) rfl rfl rfl rfl (by kernel_rfl) (by decide) (by simp) rfl rfl rfl Try.underlying24 info9 rfl (by decide) (by decide) (fun _ _ => rfl) (fun W hb => Kd.C_below X2.out (hx W hb)) (fun _ _ _ h_ => h_) (by rw [List.length_nil, Nat.zero_add]; exact fit16 FF.out.lo)
    · exact ev_lit (Kd.int .i64) 2 rfl rfl rfl rfl (fun _ _ => by first | (go_simp; done) | (go_simp; rfl))
    · exact ev_append (Kd.int .i64) 4 10 (.tmp 12) 26 2 (.int .i64 0) 8 [] M _ _ _ (by kernel_rfl) rfl rfl rfl rfl (by kernel_rfl) (by decide) (by simp) rfl rfl rfl Try.underlying26 info2 rfl (by decide) (by decide) (fun _ _ => rfl) (fun W hb => Kd.C_below X4.out (hx W hb)) (fun _ _ _ h_ => h_) (by rw [List.length_nil, Nat.zero_add]; exact fit9 FF.out.m0)
    · exact ev_call (fun v ok W => Kd.S (Kd.slice 2 (Kd.int .i64)) 26 W W1.heap.size ok v R) (fun _ _ _ _ _ h hm => S_mv h hm) Try.func44 (by kernel_rfl) rfl #[.slice A3 R.length c3] rfl rfl rfl rfl rfl (fun _ _ => ag_) (fun W hb => (copyr_c (Kd.C_below X3.out.1 (hx W hb)) X3.out.2 FF.out.r0 FF.out.r0s).mono (by rintro e W2 ⟨v, rfl, hb2, hS⟩; exact ⟨v, rfl, hb2, Kd.S_lower hS hb.size⟩))
    · exact ev_box zP 28 rfl rfl rfl rfl (fun _ _ => by first | (go_simp; done) | (go_simp; rfl))
    · refine ev_val (fun vs => .agg #[.slice none 0 0, .slice none 0 0, vs 3, vs 10, vs 7]) rfl rfl rfl rfl (fun vs vs' h_ => by simp only [h_ 3 (by decide), h_ 7 (by decide), h_ 10 (by decide)]) (by kernel_rfl) (by kernel_rfl) (by simp) (fun A vs W h1 _ h3 => ?_)
      have q3 := h1 (3, 9) (by decide) (by kernel_rfl)
      obtain ⟨_, k3⟩ := h3 (3, 9) (by decide) (by kernel_rfl) (by decide)
      have q7 := h1 (7, 13) (by decide) (by kernel_rfl)
      obtain ⟨_, k7⟩ := h3 (7, 13) (by decide) (by kernel_rfl) (by decide)
      have q10 := h1 (10, 16) (by decide) (by kernel_rfl)
      obtain ⟨_, k10⟩ := h3 (10, 16) (by decide) (by kernel_rfl) (by decide)
      obtain ⟨A3, c3, e3⟩ := Kd.R_slice (show Kd.R Kd.string 9 W W1.heap.size _ (vs 3) _ from k3)
      obtain ⟨A7, c7, e7⟩ := Kd.R_slice (show Kd.R (Kd.int .i64) 2 W W1.heap.size _ (vs 7) _ from k7)
      obtain ⟨A10, c10, e10⟩ := Kd.S_slice (show Kd.S (Kd.slice 2 (Kd.int .i64)) 26 W W1.heap.size _ (vs 10) _ from k10)
      simp only [e3] at q3 ⊢
      simp only [e7] at q7 ⊢
      simp only [e10] at q10 ⊢
      simp [execOp, q3, q7, q10]
      go_simp
      first | done | rfl
  case iC =>
    intro vs col W2 hb hF
    obtain ⟨g3, e18, k18, l18, b18⟩ := hF (12, 3) (by decide) (by decide)
    have e17 : vs 11 = .agg #[.slice none 0 0, .slice none 0 0, vs 3, vs 10, vs 7] := hF (11, 17) (by decide) (by decide)
    have hO := HO.out.many hb (col := col) [(3, .row Kd.string 9 (vs 3) L), (10, .rows (Kd.int .i64) 26 (vs 10) R 2), (7, .row (Kd.int .i64) 2 (vs 7) M), (12, .box g3 28 zP)] (fun e => match e with | 3 => 0 | 10 => 1 | 7 => 2 | _ => 3) (fun j e q hj => by
      match j with
      | 0 => cases hj; exact ⟨hF (3, 9) (by decide) (by decide), rfl⟩
      | 1 => cases hj; exact ⟨hF (10, 16) (by decide) (by decide), rfl⟩
      | 2 => cases hj; exact ⟨hF (7, 13) (by decide) (by decide), rfl⟩
      | 3 => cases hj; exact ⟨⟨k18, l18, b18⟩, rfl⟩
      | n + 4 => cases hj)
    have HP := Aside0.mk hO
    clear hO HO hF k18 l18 hHeld
    obtain ⟨v3, h3⟩ : ∃ v, vs 3 = v := ⟨_, rfl⟩
    obtain ⟨v7, h7⟩ : ∃ v, vs 7 = v := ⟨_, rfl⟩
    obtain ⟨v10, h10⟩ : ∃ v, vs 10 = v := ⟨_, rfl⟩
    simp only [h3, h7, h10] at HP e17
    refine norm_ (a' := ?_) ?_ ?_; rotate_left
    · simp only [putAll, List.map_cons, List.map_nil, e17, e18, h3, h7, h10, Act.put, List.setIfInBounds_toArray, List.set_cons_zero, List.set_cons_succ]
      rfl
    obtain ⟨V2, d2, rfl⟩ := row_slice (HP.out.get (j := 2) rfl)
    obtain ⟨V3, d3, rfl⟩ := rows_slice (HP.out.get (j := 3) rfl)
    obtain ⟨V4, d4, rfl⟩ := row_slice (HP.out.get (j := 4) rfl)
    refine la_ 13 (W2.setRow g3 (boxP (.slice none 0 0) (.slice none 0 0) (.slice V2 L.length d2) (.slice V3 R.length d3) (.slice V4 M.length d4))) ?_ rfl rfl (hrun := exec_store_row g3 (HP.out.blk (j := 5) rfl) (boxp_size ..) rfl (boxp_one ..) rfl rfl rfl)
    have HQ := Aside0.mk (HP.out.setAll (j := 5) rfl (boxP (.slice none 0 0) (.slice none 0 0) (.slice V2 L.length d2) (.slice V3 R.length d3) (.slice V4 M.length d4)))
    clear HP b18 HT_ HW_ e17 e18 h3 h7 h10
    generalize World.setRow _ _ _ = W3 at HQ ⊢
    have HO := Aside0.mk ((HQ.out.with (p := .rows k87 85 (.slice none 0 0) [] 87) (fun ok => Kd.S_nil _ _ _ _ _)).with (p := .rows Kd.string 24 (.slice none 0 0) [] 9) (fun ok => Kd.S_nil _ _ _ _ _))
    clear HQ
    go_wp2_with fail
    go_loopw [4] (fun v W => ∃ i : Nat, v = .int .i64 i ∧ i ≤ T.length ∧ Aside0 (∃ (v : Value) (X : List (List S87)), X = T.take i ∧ Owned w [.box w.heap.size 28 (boxP (.slice A0 T.length c0) (.slice A1 G.length c1) (.slice A2 L.length c2) (.slice A3 R.length c3) (.slice A4 M.length c4)), .box g 28 zP, .row Kd.string 9 (.slice V2 L.length d2) L, .rows (Kd.int .i64) 26 (.slice V3 R.length d3) R 2, .row (Kd.int .i64) 2 (.slice V4 M.length d4) M, .box g3 28 (boxP v (.slice none 0 0) (.slice V2 L.length d2) (.slice V3 R.length d3) (.slice V4 M.length d4)), .rows k87 85 v X 87, .rows Kd.string 24 (.slice none 0 0) [] 9] W)) (fun v _ => T.length - (intOf v).toNat)
    case atStart => exact ⟨0, rfl, Nat.zero_le _, ⟨_, [], rfl, HO.out⟩⟩
    case round =>
      clear HO
      obtain ⟨i, rfl, hi, HX⟩ := hrel
      obtain ⟨v4, X, hX, hO⟩ := HX.out
      have EX := Aside0.mk hX
      have HO := Aside0.mk hO
      obtain ⟨V0, e0, rfl⟩ := rows_slice (HO.out.get (j := 6) rfl)
      clear HX hO hX
      obtain ⟨y0, y1, y2, y3, y4, _⟩ := blkA5 (HO.out.blk (j := 0) rfl)
      by_cases hlt : i < T.length
      · obtain ⟨ab, Ab, cb, rfl, xb, _, kb⟩ := at_L3 X0.out (i : Int) (Int.natCast_nonneg i) (Int.ofNat_lt.2 hlt)
        rw [Int.toNat_natCast] at xb
        have XB := Aside0.mk xb
        replace xb := pw_in HO.out xb
        have HI := Aside0.mk hlt
        have KB := Aside0.mk kb
        have hw := wrapN hlt (Nat.le_trans (Nat.le_of_lt FF.out.th) (by decide))
        have HW := Aside0.mk hw
        clear kb hw
        go_upto_region 5 with fail
        have HS : ∀ (W' : World) (ps' : List Part), Owned w ps' W' → ps'[0]? = some (.box w.heap.size 28 (boxP (.slice (some ab) T.length c0) (.slice A1 G.length c1) (.slice A2 L.length c2) (.slice A3 R.length c3) (.slice A4 M.length c4))) → ps'[5]? = some (.box g3 28 (boxP (.slice V0 X.length e0) (.slice none 0 0) (.slice V2 L.length d2) (.slice V3 R.length d3) (.slice V4 M.length d4))) → W'.cell? ⟨g3, 0, none⟩ = some (.slice V0 X.length e0) ∧ W'.cell? ⟨w.heap.size, 0, none⟩ = some (.slice (some ab) T.length c0) ∧ W'.cell? (ab.add i) = some (.slice Ab (rd_L3 T (i : Int)).length cb) :=
          fun W' ps' h a b => ⟨(blk_cell (h.blk b) 0).trans rfl, (blk_cell (h.blk a) 0).trans rfl, pw_in h XB.out⟩
        have HD := Aside0.mk HO.out.drew
        clear HO y0 y1 y2 y3 y4 xb
        have HO := HD
        clear HD
        refine start_ (n := 13) (S := fun w' => w'.cell? ⟨g3, 0, none⟩ = some (.slice V0 X.length e0) ∧ w'.cell? ⟨w.heap.size, 0, none⟩ = some (.slice (some ab) T.length c0) ∧ w'.cell? (ab.add i) = some (.slice Ab (rd_L3 T (i : Int)).length cb)) (ds := [12]) #[false, false, false, false, false, false, false, false, false, false, false, false, false] (by kernel_rfl) rfl rfl (HS _ _ HO.out rfl rfl) (fun hHeld => ?_); refine with_tabW cq_tab5 cp_bits5 (fun HT_ HW_ => ?_)
        generalize World.drew _ = W4 at HO hHeld ⊢
        refine pu_ 0 25 ?_
        refine pu_ 3 28 ?_
        refine pu_ 5 30 ?_
        refine ta_ 1 26 ?_ hHeld
        refine ta_ 4 29 ?_ hHeld
        refine pu_ 6 31 ?_
        refine ta_ 7 32 ?_ hHeld
        refine li_ (e := 87) (cs := #[]) 2 27 (HS _ _ (HO.out.later (below_alloc (Below.refl _ _) _)) rfl rfl) ?_
        refine on_ 8 33 (fun K_ hK => ?_)
        refine Owned.clone_step k87 HO.out (.tmp 27) (.tmp 32) 85 87 (.agg #[(.int .i64 0), (.int .i64 0), (.int .i64 0), (.int .i64 0), (.int .i64 0)]) 40 Try.underlying85 info87 rfl (by decide) (by decide) (fit87 (all_at FF.out.ths HI.out)) (fun _ _ h => h) (Kd.C_below KB.out (HO.out.later (below_alloc (Below.refl _ _) _)).below) ?_ (by rfl) rfl rfl rfl
        intro v1 W5 h5
        obtain ⟨Vn, dn, rfl⟩ := row_slice (h5.get (j := 8) rfl)
        have HO5 := Aside0.mk h5
        clear h5 HO hHeld
        refine hK.out _ _ (HS _ _ HO5.out rfl rfl) (fun _ => ?_)
        clear hK K_
        refine nm_ 33 ?_
        refine li_ (e := 85) (cs := [.slice Vn (rd_L3 T (i : Int)).length dn].toArray) 9 34 (HS _ _ (HO5.out.later (below_alloc (Below.refl _ _) _)) rfl rfl) ?_
        refine on_ 10 35 (fun K_ hK => ?_)
        refine Owned.push_step k87 HO5.out (j := 6) (jr := 8) (by decide) rfl rfl (.tmp 26) (.tmp 34) 22 Try.underlying22 info85 (lt58 (m := T.length) (by rw [EX.out, List.length_take]; have := HI.out; omega) FF.out.th) ?_ (by rfl) rfl rfl rfl
        intro v1 W6 h6
        obtain ⟨Vm, dm, rfl⟩ := rows_slice (h6.get (j := 6) rfl)
        have HO6 := Aside0.mk (h6.cut 8)
        clear h6 HO5
        refine hK.out _ _ (HS _ _ HO6.out rfl rfl) (fun _ => ?_)
        clear hK K_
        refine nm_ 35 ?_
        refine pu_ 11 36 ?_
        obtain ⟨q0, q1, q2, q3, q4, f0, f1, f2, f3, f4⟩ := blkA5 (HO6.out.blk (j := 5) rfl)
        refine la_ 12 (W6.setCell ⟨g3, 0, none⟩ (.slice Vm (X ++ [rd_L3 T (i : Int)]).length dm)) ?_ rfl rfl
        have HO := Aside0.mk (HO6.out.cell (j := 5) rfl 0 (.slice Vm (X ++ [rd_L3 T (i : Int)]).length dm))
        clear q0 q1 q2 q3 q4 f0 f1 f2 f3 f4 HO6 HS HT_ HW_
        generalize World.setCell _ _ _ = W7 at HO ⊢
        have hw := HW.out
        go_wp2_with fail
        go_roundw
        case rel => exact ⟨i + 1, by rw [hw]; rfl, HI.out, ⟨_, _, by rw [EX.out, ← take_nx (d := []) HI.out]; rfl, HO.out⟩⟩
        case measure => rw [hw]; exact nat_dec HI.out
      · have hin : i = T.length := Nat.le_antisymm hi (Nat.le_of_not_lt hlt)
        subst hin
        have hX := EX.out.symm
        rw [List.take_length] at hX
        subst hX
        clear hi
        go_wp2_with fail
        clear y0 y1 y2 y3 y4
        go_loopw [5] (fun v W => ∃ i : Nat, v = .int .i64 i ∧ i ≤ G.length ∧ Aside0 (∃ (v : Value) (X : List (List ByteArray)), X = G.take i ∧ Owned w [.box w.heap.size 28 (boxP (.slice A0 T.length c0) (.slice A1 G.length c1) (.slice A2 L.length c2) (.slice A3 R.length c3) (.slice A4 M.length c4)), .box g 28 zP, .row Kd.string 9 (.slice V2 L.length d2) L, .rows (Kd.int .i64) 26 (.slice V3 R.length d3) R 2, .row (Kd.int .i64) 2 (.slice V4 M.length d4) M, .box g3 28 (boxP (.slice V0 T.length e0) v (.slice V2 L.length d2) (.slice V3 R.length d3) (.slice V4 M.length d4)), .rows k87 85 (.slice V0 T.length e0) T 87, .rows Kd.string 24 v X 9] W)) (fun v _ => G.length - (intOf v).toNat)
        case atStart => exact ⟨0, rfl, Nat.zero_le _, ⟨_, [], rfl, HO.out⟩⟩
        case round =>
          clear HO
          obtain ⟨i, rfl, hi, HX⟩ := hrel
          obtain ⟨v4, X, hX, hO⟩ := HX.out
          have EX := Aside0.mk hX
          have HO := Aside0.mk hO
          obtain ⟨V1, e1, rfl⟩ := rows_slice (HO.out.get (j := 7) rfl)
          clear HX hO hX
          obtain ⟨y0, y1, y2, y3, y4, _⟩ := blkA5 (HO.out.blk (j := 0) rfl)
          by_cases hlt : i < G.length
          · obtain ⟨ab, Ab, cb, rfl, xb, _, kb⟩ := at_L4 X1.out (i : Int) (Int.natCast_nonneg i) (Int.ofNat_lt.2 hlt)
            rw [Int.toNat_natCast] at xb
            have XB := Aside0.mk xb
            replace xb := pw_in HO.out xb
            have HI := Aside0.mk hlt
            have KB := Aside0.mk kb
            have hw := wrapN hlt (Nat.le_trans (Nat.le_of_lt FF.out.rg) (by decide))
            have HW := Aside0.mk hw
            clear kb hw
            go_upto_region 9 with fail
            have HS : ∀ (W' : World) (ps' : List Part), Owned w ps' W' → ps'[0]? = some (.box w.heap.size 28 (boxP (.slice A0 T.length c0) (.slice (some ab) G.length c1) (.slice A2 L.length c2) (.slice A3 R.length c3) (.slice A4 M.length c4))) → ps'[5]? = some (.box g3 28 (boxP (.slice V0 T.length e0) (.slice V1 X.length e1) (.slice V2 L.length d2) (.slice V3 R.length d3) (.slice V4 M.length d4))) → W'.cell? ⟨g3, 1, none⟩ = some (.slice V1 X.length e1) ∧ W'.cell? ⟨w.heap.size, 1, none⟩ = some (.slice (some ab) G.length c1) ∧ W'.cell? (ab.add i) = some (.slice Ab (rd_L4 G (i : Int)).length cb) :=
              fun W' ps' h a b => ⟨(blk_cell (h.blk b) 1).trans rfl, (blk_cell (h.blk a) 1).trans rfl, pw_in h XB.out⟩
            have HD := Aside0.mk HO.out.drew
            clear HO y0 y1 y2 y3 y4 xb
            have HO := HD
            clear HD
            refine start_ (n := 13) (S := fun w' => w'.cell? ⟨g3, 1, none⟩ = some (.slice V1 X.length e1) ∧ w'.cell? ⟨w.heap.size, 1, none⟩ = some (.slice (some ab) G.length c1) ∧ w'.cell? (ab.add i) = some (.slice Ab (rd_L4 G (i : Int)).length cb)) (ds := [12]) #[false, false, false, false, false, false, false, false, false, false, false, false, false] (by kernel_rfl) rfl rfl (HS _ _ HO.out rfl rfl) (fun hHeld => ?_); refine with_tabW cq_tab9 cp_bits5 (fun HT_ HW_ => ?_)
            generalize World.drew _ = W4 at HO hHeld ⊢
            refine pu_ 0 44 ?_
            refine pu_ 3 47 ?_
            refine pu_ 5 49 ?_
            refine ta_ 1 45 ?_ hHeld
            refine ta_ 4 48 ?_ hHeld
            refine pu_ 6 50 ?_
            refine ta_ 7 51 ?_ hHeld
            refine li_ (e := 9) (cs := #[]) 2 46 (HS _ _ (HO.out.later (below_alloc (Below.refl _ _) _)) rfl rfl) ?_
            refine on_ 8 52 (fun K_ hK => ?_)
            refine Owned.clone_step Kd.string HO.out (.tmp 46) (.tmp 51) 24 9 (.string ⟨#[]⟩) 16 Try.underlying24 info9 rfl (by decide) (by decide) (fit16 (all_at FF.out.rgs HI.out)) (fun _ _ h => h) (Kd.C_below KB.out (HO.out.later (below_alloc (Below.refl _ _) _)).below) ?_ (by rfl) rfl rfl rfl
            intro v1 W5 h5
            obtain ⟨Vn, dn, rfl⟩ := row_slice (h5.get (j := 8) rfl)
            have HO5 := Aside0.mk h5
            clear h5 HO hHeld
            refine hK.out _ _ (HS _ _ HO5.out rfl rfl) (fun _ => ?_)
            clear hK K_
            refine nm_ 52 ?_
            refine li_ (e := 24) (cs := [.slice Vn (rd_L4 G (i : Int)).length dn].toArray) 9 53 (HS _ _ (HO5.out.later (below_alloc (Below.refl _ _) _)) rfl rfl) ?_
            refine on_ 10 54 (fun K_ hK => ?_)
            refine Owned.push_step Kd.string HO5.out (j := 7) (jr := 8) (by decide) rfl rfl (.tmp 45) (.tmp 53) 23 Try.underlying23 info24 (lt58 (m := G.length) (by rw [EX.out, List.length_take]; have := HI.out; omega) FF.out.rg) ?_ (by rfl) rfl rfl rfl
            intro v1 W6 h6
            obtain ⟨Vm, dm, rfl⟩ := rows_slice (h6.get (j := 7) rfl)
            have HO6 := Aside0.mk (h6.cut 8)
            clear h6 HO5
            refine hK.out _ _ (HS _ _ HO6.out rfl rfl) (fun _ => ?_)
            clear hK K_
            refine nm_ 54 ?_
            refine pu_ 11 55 ?_
            obtain ⟨q0, q1, q2, q3, q4, f0, f1, f2, f3, f4⟩ := blkA5 (HO6.out.blk (j := 5) rfl)
            refine la_ 12 (W6.setCell ⟨g3, 1, none⟩ (.slice Vm (X ++ [rd_L4 G (i : Int)]).length dm)) ?_ rfl rfl
            have HO := Aside0.mk (HO6.out.cell (j := 5) rfl 1 (.slice Vm (X ++ [rd_L4 G (i : Int)]).length dm))
            clear q0 q1 q2 q3 q4 f0 f1 f2 f3 f4 HO6 HS HT_ HW_
            generalize World.setCell _ _ _ = W7 at HO ⊢
            have hw := HW.out
            go_wp2_with fail
            go_roundw
            case rel => exact ⟨i + 1, by rw [hw]; rfl, HI.out, ⟨_, _, by rw [EX.out, ← take_nx (d := []) HI.out]; rfl, HO.out⟩⟩
            case measure => rw [hw]; exact nat_dec HI.out
          · have hin : i = G.length := Nat.le_antisymm hi (Nat.le_of_not_lt hlt)
            subst hin
            have hX := EX.out.symm
            rw [List.take_length] at hX
            subst hX
            clear hi
            have hb6 := HO.out.blk (j := 5) rfl
            have hb1 := HO.out.blk (j := 1) rfl
            have hu28 := Try.underlying28
            go_wp2_with (first
              | (refine wpList_load_row rfl 28 (.tmp 3) rfl g3 rfl 28 _ (0, 0) _ hb6 hu28 rfl (boxp_size ..) ?_)
              | (refine wpList_store_row rfl 28 (.tmp 2) (.tmp 56) rfl g _ rfl rfl 28 _ hb1 (boxp_size ..) rfl (boxp_one ..) ?_))
            have HF := Aside0.mk (HO.out.setAll (j := 1) rfl (boxP (.slice V0 T.length e0) (.slice V1 G.length e1) (.slice V2 L.length d2) (.slice V3 R.length d3) (.slice V4 M.length d4)))
            refine bodyPost_ret (results_c1 rfl _ _ g 28 _ (0, 0) _ rfl (HF.out.blk (j := 1) rfl) hu28 rfl (boxp_size ..)) rfl ⟨_, rfl, ⟨_, _, _, _, _, rfl, HF.out.get (j := 6) rfl, HF.out.get (j := 7) rfl, HF.out.get (j := 2) rfl, HF.out.get (j := 3) rfl, HF.out.get (j := 4) rfl⟩, HF.out.below⟩
end Go.Proofs.Ytemhpbdlonfikaa.P
/- weirlaw11.SameStates: of two states that hold the same. -/
namespace Go.Proofs.Ytemhpbdlonfikaa.P
open Go Go.RowKit Go.Proofs.YtemhpbdlonfikaaW.PrintWords Go.Proofs.YtemhpbdlonfikaaW.PrintLast Go.Proofs.YtemhpbdlonfikaaW.PrintMore
set_option maxHeartbeats 8000000 in
set_option maxRecDepth 100000 in
theorem ss_c {w : World} {av bv : List Value} {u : St} (ha : StV w av u) (hb : StV w bv u) : Calls Try.prog 20 #[.agg av.toArray, .agg bv.toArray] w fun e W' => e = .returned (.bool true) ∧ Below w.heap.size w W' := by
  obtain ⟨A0, A1, A2, A3, A4, c0, c1, c2, c3, c4, rfl, x0, _, x1, _, x2, _, x3, _, x4, _⟩ := ha
  obtain ⟨B0, B1, B2, B3, B4, d0, d1, d2, d3, d4, rfl, y0, _, y1, _, y2, _, y3, _, y4, _⟩ := hb
  have X0 := Aside0.mk x0
  have Y0 := Aside0.mk y0
  have X1 := Aside0.mk x1
  have Y1 := Aside0.mk y1
  have X2 := Aside0.mk x2
  have Y2 := Aside0.mk y2
  have X3 := Aside0.mk x3
  have Y3 := Aside0.mk y3
  have X4 := Aside0.mk x4
  have Y4 := Aside0.mk y4
  have M2 := Aside0.mk (Kd.C_max x2)
  have M4 := Aside0.mk (Kd.C_max x4)
  clear x0 x1 x2 x3 x4 y0 y1 y2 y3 y4
  go_enter Try.func20, Try.ntmps20
  go_upto_region 1 with fail
  have h1 := blk_alloc (heap_alloc_new w (.cells #[.slice A0 u.p.length c0, .slice A1 u.q.length c1, .slice A2 u.rg.length c2, .slice A3 u.me.length c3, .slice A4 u.bf.length c4, .int .i64 u.lk] 42)) (.cells #[.slice B0 u.p.length d0, .slice B1 u.q.length d1, .slice B2 u.rg.length d2, .slice B3 u.me.length d3, .slice B4 u.bf.length d4, .int .i64 u.lk] 42)
  have h2 := heap_alloc_new (w.alloc (.cells #[.slice A0 u.p.length c0, .slice A1 u.q.length c1, .slice A2 u.rg.length c2, .slice A3 u.me.length c3, .slice A4 u.bf.length c4, .int .i64 u.lk] 42)) (.cells #[.slice B0 u.p.length d0, .slice B1 u.q.length d1, .slice B2 u.rg.length d2, .slice B3 u.me.length d3, .slice B4 u.bf.length d4, .int .i64 u.lk] 42)
  rw [show (w.alloc (.cells #[.slice A0 u.p.length c0, .slice A1 u.q.length c1, .slice A2 u.rg.length c2, .slice A3 u.me.length c3, .slice A4 u.bf.length c4, .int .i64 u.lk] 42)).heap.size = w.heap.size + 1 by simp] at h2
  have hb0 : Below w.heap.size w ((w.alloc (.cells #[.slice A0 u.p.length c0, .slice A1 u.q.length c1, .slice A2 u.rg.length c2, .slice A3 u.me.length c3, .slice A4 u.bf.length c4, .int .i64 u.lk] 42)).alloc (.cells #[.slice B0 u.p.length d0, .slice B1 u.q.length d1, .slice B2 u.rg.length d2, .slice B3 u.me.length d3, .slice B4 u.bf.length d4, .int .i64 u.lk] 42)) := below_alloc (below_alloc (Below.refl _ _) _) _
  generalize World.alloc (World.alloc w _) _ = W0 at h1 h2 hb0 ⊢
  have KP : Aside0 (∀ W', Below W0.heap.size W0 W' → W'.cell? ⟨w.heap.size, 0, none⟩ = some (.slice A0 u.p.length c0) ∧ W'.cell? ⟨w.heap.size, 1, none⟩ = some (.slice A1 u.q.length c1) ∧ W'.cell? ⟨w.heap.size, 2, none⟩ = some (.slice A2 u.rg.length c2) ∧ W'.cell? ⟨w.heap.size, 3, none⟩ = some (.slice A3 u.me.length c3) ∧ W'.cell? ⟨w.heap.size, 4, none⟩ = some (.slice A4 u.bf.length c4) ∧ W'.cell? ⟨w.heap.size, 5, none⟩ = some (.int .i64 u.lk) ∧ W'.cell? ⟨w.heap.size + 1, 0, none⟩ = some (.slice B0 u.p.length d0) ∧ W'.cell? ⟨w.heap.size + 1, 1, none⟩ = some (.slice B1 u.q.length d1) ∧ W'.cell? ⟨w.heap.size + 1, 2, none⟩ = some (.slice B2 u.rg.length d2) ∧ W'.cell? ⟨w.heap.size + 1, 3, none⟩ = some (.slice B3 u.me.length d3) ∧ W'.cell? ⟨w.heap.size + 1, 4, none⟩ = some (.slice B4 u.bf.length d4) ∧ W'.cell? ⟨w.heap.size + 1, 5, none⟩ = some (.int .i64 u.lk)) := ⟨fun W' hb => by
    have q1 := (hb.block _ (blk_lt h1)).trans h1
    have q2 := (hb.block _ (blk_lt h2)).trans h2
    exact ⟨(blk_cell q1 0).trans rfl, (blk_cell q1 1).trans rfl, (blk_cell q1 2).trans rfl, (blk_cell q1 3).trans rfl, (blk_cell q1 4).trans rfl, (blk_cell q1 5).trans rfl, (blk_cell q2 0).trans rfl, (blk_cell q2 1).trans rfl, (blk_cell q2 2).trans rfl, (blk_cell q2 3).trans rfl, (blk_cell q2 4).trans rfl, (blk_cell q2 5).trans rfl⟩⟩
  have B := Aside0.mk hb0
  have KB := Aside0.mk (Below.refl W0.heap.size W0)
  clear h1 h2 hb0
  obtain ⟨a0_, a1_, a2_, a3_, a4_, a5_, b0_, b1_, b2_, b3_, b4_, b5_⟩ := KP.out _ KB.out
  go_upto_region 3 with fail
  refine (si_c (Kd.C_below X0.out (belW B.out KB.out)) (Kd.C_below Y0.out (belW B.out KB.out))).mono ?_
  rintro e W_ ⟨rfl, hb_⟩
  have KB2 := Aside0.mk (belW KB.out hb_)
  clear KB hb_ a0_ a1_ a2_ a3_ a4_ a5_ b0_ b1_ b2_ b3_ b4_ b5_
  have KB := KB2
  clear KB2
  obtain ⟨a0_, a1_, a2_, a3_, a4_, a5_, b0_, b1_, b2_, b3_, b4_, b5_⟩ := KP.out _ KB.out
  go_upto_region 3 with fail
  refine (si_c (Kd.C_below X1.out (belW B.out KB.out)) (Kd.C_below Y1.out (belW B.out KB.out))).mono ?_
  rintro e W_ ⟨rfl, hb_⟩
  have KB2 := Aside0.mk (belW KB.out hb_)
  clear KB hb_ a0_ a1_ a2_ a3_ a4_ a5_ b0_ b1_ b2_ b3_ b4_ b5_
  have KB := KB2
  clear KB2
  obtain ⟨a0_, a1_, a2_, a3_, a4_, a5_, b0_, b1_, b2_, b3_, b4_, b5_⟩ := KP.out _ KB.out
  go_upto_region 3 with fail
  refine (sv_c (Kd.C_below X3.out (belW B.out KB.out)) (Kd.C_below Y3.out (belW B.out KB.out))).mono ?_
  rintro e W_ ⟨rfl, hb_⟩
  have KB2 := Aside0.mk (belW KB.out hb_)
  clear KB hb_ a0_ a1_ a2_ a3_ a4_ a5_ b0_ b1_ b2_ b3_ b4_ b5_
  have KB := KB2
  clear KB2
  obtain ⟨a0_, a1_, a2_, a3_, a4_, a5_, b0_, b1_, b2_, b3_, b4_, b5_⟩ := KP.out _ KB.out
  go_upto_region 3 with fail
  clear a0_ a1_ a2_ a3_ a4_ a5_ b0_ b1_ b2_ b3_ b4_ b5_
  go_wp2_with fail
  go_loopw [5] (fun v W => ∃ j : Nat, v = .int .i64 j ∧ j ≤ u.rg.length ∧ Aside0 (Below W0.heap.size W0 W)) (fun v _ => u.rg.length - (intOf v).toNat)
  case atStart => exact ⟨0, rfl, Nat.zero_le _, KB⟩
  case round =>
    clear KB
    obtain ⟨j, rfl, hj, KB⟩ := hrel
    by_cases hlt : j < u.rg.length
    · obtain ⟨a, Ar, cr, rfl, hxa, _, hra⟩ := at_L5 X2.out (j : Int) (Int.natCast_nonneg j) (Int.ofNat_lt.2 hlt)
      obtain ⟨b, Br, dr, rfl, hxb, _, hrb⟩ := at_L5 Y2.out (j : Int) (Int.natCast_nonneg j) (Int.ofNat_lt.2 hlt)
      rw [Int.toNat_natCast] at hxa hxb
      have hw := wrapN hlt M2.out
      have HJ := Aside0.mk hlt
      have RA := Aside0.mk hra
      have RB := Aside0.mk hrb
      have KS : Aside0 (∀ W', Below W0.heap.size W0 W' → (W'.cell? ⟨w.heap.size, 2, none⟩ = some (.slice (some a) u.rg.length c2) ∧ W'.cell? ⟨w.heap.size + 1, 2, none⟩ = some (.slice (some b) u.rg.length d2) ∧ W'.cell? (a.add j) = some (.slice Ar (rd_L5 u.rg (j : Int)).length cr) ∧ W'.cell? (b.add j) = some (.slice Br (rd_L5 u.rg (j : Int)).length dr))) := ⟨fun W' hb => by
        obtain ⟨a0_, a1_, a2_, a3_, a4_, a5_, b0_, b1_, b2_, b3_, b4_, b5_⟩ := KP.out _ hb
        exact ⟨a2_, b2_, pw_cell_below (belW B.out hb) hxa, pw_cell_below (belW B.out hb) hxb⟩⟩
      clear hra hrb hxa hxb
      obtain ⟨s0, s1, s2, s3⟩ := KS.out _ KB.out
      go_wp2_with fail
      go_region_held3 (fun W' : World => W'.cell? ⟨w.heap.size, 2, none⟩ = some (.slice (some a) u.rg.length c2) ∧ W'.cell? ⟨w.heap.size + 1, 2, none⟩ = some (.slice (some b) u.rg.length d2) ∧ W'.cell? (a.add j) = some (.slice Ar (rd_L5 u.rg (j : Int)).length cr) ∧ W'.cell? (b.add j) = some (.slice Br (rd_L5 u.rg (j : Int)).length dr)) (first | with_reducible exact KS.out _ (below_drew KB.out) | with_reducible exact KS.out _ K2.out)
        (first | (go_at_call 52; (with_reducible refine (sv_c (Kd.C_below RA.out (below_drew (belW B.out KB.out))) (Kd.C_below RB.out (below_drew (belW B.out KB.out)))).mono ?_); rintro e W2 ⟨rfl, hb2⟩; have K2 := Aside0.mk (below_then (below_drew KB.out) KB.out.size hb2); clear hb2))
      all_goals clear s0 s1 s2 s3
      all_goals go_wp2_with fail
      all_goals go_roundw
      case rel => exact ⟨j + 1, by rw [hw]; rfl, HJ.out, K2⟩
      case measure => rw [hw]; exact nat_dec HJ.out
    · obtain ⟨a0_, a1_, a2_, a3_, a4_, a5_, b0_, b1_, b2_, b3_, b4_, b5_⟩ := KP.out _ KB.out
      go_wp2_with fail
      clear a0_ a1_ a2_ a3_ a4_ a5_ b0_ b1_ b2_ b3_ b4_ b5_ hlt hj
      go_loopw [6] (fun v W => ∃ j : Nat, v = .int .i64 j ∧ j ≤ u.bf.length ∧ Aside0 (Below W0.heap.size W0 W)) (fun v _ => u.bf.length - (intOf v).toNat)
      case atStart => exact ⟨0, rfl, Nat.zero_le _, KB⟩
      case round =>
        clear KB
        obtain ⟨j, rfl, hj, KB⟩ := hrel
        by_cases hlt : j < u.bf.length
        · obtain ⟨a, Ar, cr, rfl, hxa, _, hra⟩ := at_L7 X4.out (j : Int) (Int.natCast_nonneg j) (Int.ofNat_lt.2 hlt)
          obtain ⟨b, Br, dr, rfl, hxb, _, hrb⟩ := at_L7 Y4.out (j : Int) (Int.natCast_nonneg j) (Int.ofNat_lt.2 hlt)
          rw [Int.toNat_natCast] at hxa hxb
          have hw := wrapN hlt M4.out
          have HJ := Aside0.mk hlt
          have RA := Aside0.mk hra
          have RB := Aside0.mk hrb
          have KS : Aside0 (∀ W', Below W0.heap.size W0 W' → (W'.cell? ⟨w.heap.size, 4, none⟩ = some (.slice (some a) u.bf.length c4) ∧ W'.cell? ⟨w.heap.size + 1, 4, none⟩ = some (.slice (some b) u.bf.length d4) ∧ W'.cell? (a.add j) = some (.slice Ar (rd_L7 u.bf (j : Int)).length cr) ∧ W'.cell? (b.add j) = some (.slice Br (rd_L7 u.bf (j : Int)).length dr))) := ⟨fun W' hb => by
            obtain ⟨a0_, a1_, a2_, a3_, a4_, a5_, b0_, b1_, b2_, b3_, b4_, b5_⟩ := KP.out _ hb
            exact ⟨a4_, b4_, pw_cell_below (belW B.out hb) hxa, pw_cell_below (belW B.out hb) hxb⟩⟩
          clear hra hrb hxa hxb
          have ML := Aside0.mk (Kd.C_max RA.out)
          obtain ⟨s0, s1, s2, s3⟩ := KS.out _ KB.out
          go_wp2_with fail
          go_region_held3 (fun W' : World => W'.cell? ⟨w.heap.size, 4, none⟩ = some (.slice (some a) u.bf.length c4) ∧ W'.cell? ⟨w.heap.size + 1, 4, none⟩ = some (.slice (some b) u.bf.length d4) ∧ W'.cell? (a.add j) = some (.slice Ar (rd_L7 u.bf (j : Int)).length cr) ∧ W'.cell? (b.add j) = some (.slice Br (rd_L7 u.bf (j : Int)).length dr)) (with_reducible exact KS.out _ (below_drew KB.out)) (fail)
          all_goals clear s0 s1 s2 s3
          all_goals go_wp2_with fail
          go_loopw [7] (fun v W => ∃ m : Nat, v = .int .i64 m ∧ m ≤ (rd_L7 u.bf (j : Int)).length ∧ Aside0 (Below W0.heap.size W0 W)) (fun v _ => (rd_L7 u.bf (j : Int)).length - (intOf v).toNat)
          case atStart => exact ⟨0, rfl, Nat.zero_le _, ⟨below_drew KB.out⟩⟩
          case round =>
            clear KB
            obtain ⟨m, rfl, hm, KB⟩ := hrel
            obtain ⟨s0, s1, s2, s3⟩ := KS.out _ KB.out
            have hlt := HJ.out
            by_cases hlm : m < (rd_L7 u.bf (j : Int)).length
            · obtain ⟨a', rfl, ha0, ha1⟩ := at_T59 RA.out (m : Int) (Int.natCast_nonneg m) (Int.ofNat_lt.2 hlm)
              obtain ⟨b', rfl, hb0, hb1⟩ := at_T59 RB.out (m : Int) (Int.natCast_nonneg m) (Int.ofNat_lt.2 hlm)
              rw [Int.toNat_natCast] at ha0 ha1 hb0 hb1
              have KW := belW B.out KB.out
              replace ha0 := pw_cell_below KW ha0
              replace ha1 := pw_cell_below KW ha1
              replace hb0 := pw_cell_below KW hb0
              replace hb1 := pw_cell_below KW hb1
              have hwm := wrapN hlm ML.out
              have HJM := Aside0.mk hlm
              clear KW
              go_wp2_with fail
              go_region_held3 (fun W' : World => (W'.cell? ⟨w.heap.size, 4, none⟩ = some (.slice (some a) u.bf.length c4) ∧ W'.cell? ⟨w.heap.size + 1, 4, none⟩ = some (.slice (some b) u.bf.length d4) ∧ W'.cell? (a.add j) = some (.slice (some a') (rd_L7 u.bf (j : Int)).length cr) ∧ W'.cell? (b.add j) = some (.slice (some b') (rd_L7 u.bf (j : Int)).length dr)) ∧ W'.cell? (a'.add (m * 2)) = some (.int .i64 (rd_T59 (rd_L7 u.bf (j : Int)) (m : Int)).f0) ∧ W'.cell? ⟨(a'.add (m * 2)).block, (a'.add (m * 2)).off + 1, none⟩ = some (.int .i64 (rd_T59 (rd_L7 u.bf (j : Int)) (m : Int)).f1) ∧ W'.cell? (b'.add (m * 2)) = some (.int .i64 (rd_T59 (rd_L7 u.bf (j : Int)) (m : Int)).f0) ∧ W'.cell? ⟨(b'.add (m * 2)).block, (b'.add (m * 2)).off + 1, none⟩ = some (.int .i64 (rd_T59 (rd_L7 u.bf (j : Int)) (m : Int)).f1))
                (exact ⟨⟨s0, s1, s2, s3⟩, ha0, ha1, hb0, hb1⟩) (fail)
              all_goals clear s0 s1 s2 s3 ha0 ha1 hb0 hb1
              all_goals go_wp2_with fail
              all_goals go_roundw
              case rel => exact ⟨m + 1, by rw [hwm]; rfl, HJM.out, ⟨below_drew KB.out⟩⟩
              case measure => rw [hwm]; exact nat_dec HJM.out
            · go_wp2_with fail
              go_roundw
              case rel => exact ⟨j + 1, by rw [hw]; rfl, HJ.out, KB⟩
              case measure => rw [hw]; exact nat_dec HJ.out
        · obtain ⟨a0_, a1_, a2_, a3_, a4_, a5_, b0_, b1_, b2_, b3_, b4_, b5_⟩ := KP.out _ KB.out
          go_wp2_with fail
          go_ret
          exact ⟨rfl, belW B.out KB.out⟩
end Go.Proofs.Ytemhpbdlonfikaa.P
/- weirlaw09.Same: of two programs that hold the same. -/
namespace Go.Proofs.Ytemhpbdlonfikaa.P
open Go Go.RowKit Go.Proofs.YtemhpbdlonfikaaW.PrintWords Go.Proofs.YtemhpbdlonfikaaW.PrintLast Go.Proofs.YtemhpbdlonfikaaW.PrintMore
set_option maxHeartbeats 8000000 in
set_option maxRecDepth 100000 in
theorem sp_c {w : World} {av bv : List Value} {u : Pg} (ha : PgV w av u) (hb : PgV w bv u) : Calls Try.prog 21 #[.agg av.toArray, .agg bv.toArray] w fun e W' => e = .returned (.bool true) ∧ Below w.heap.size w W' := by
  obtain ⟨A0, A1, A2, A3, A4, c0, c1, c2, c3, c4, rfl, x0, _, x1, _, x2, _, x3, _, x4, _⟩ := ha
  obtain ⟨B0, B1, B2, B3, B4, d0, d1, d2, d3, d4, rfl, y0, _, y1, _, y2, _, y3, _, y4, _⟩ := hb
  have X0 := Aside0.mk x0
  have Y0 := Aside0.mk y0
  have X1 := Aside0.mk x1
  have Y1 := Aside0.mk y1
  have X2 := Aside0.mk x2
  have Y2 := Aside0.mk y2
  have X3 := Aside0.mk x3
  have Y3 := Aside0.mk y3
  have X4 := Aside0.mk x4
  have Y4 := Aside0.mk y4
  have M0 := Aside0.mk (Kd.C_max x0)
  have M1 := Aside0.mk (Kd.C_max x1)
  have M3 := Aside0.mk (Kd.C_max x3)
  clear x0 x1 x2 x3 x4 y0 y1 y2 y3 y4
  go_enter Try.func21, Try.ntmps21
  go_upto_region 1 with fail
  have h1 := blk_alloc (heap_alloc_new w (.cells #[.slice A0 u.th.length c0, .slice A1 u.rg.length c1, .slice A2 u.lo.length c2, .slice A3 u.r0.length c3, .slice A4 u.m0.length c4] 28)) (.cells #[.slice B0 u.th.length d0, .slice B1 u.rg.length d1, .slice B2 u.lo.length d2, .slice B3 u.r0.length d3, .slice B4 u.m0.length d4] 28)
  have h2 := heap_alloc_new (w.alloc (.cells #[.slice A0 u.th.length c0, .slice A1 u.rg.length c1, .slice A2 u.lo.length c2, .slice A3 u.r0.length c3, .slice A4 u.m0.length c4] 28)) (.cells #[.slice B0 u.th.length d0, .slice B1 u.rg.length d1, .slice B2 u.lo.length d2, .slice B3 u.r0.length d3, .slice B4 u.m0.length d4] 28)
  rw [show (w.alloc (.cells #[.slice A0 u.th.length c0, .slice A1 u.rg.length c1, .slice A2 u.lo.length c2, .slice A3 u.r0.length c3, .slice A4 u.m0.length c4] 28)).heap.size = w.heap.size + 1 by simp] at h2
  have hb0 : Below w.heap.size w ((w.alloc (.cells #[.slice A0 u.th.length c0, .slice A1 u.rg.length c1, .slice A2 u.lo.length c2, .slice A3 u.r0.length c3, .slice A4 u.m0.length c4] 28)).alloc (.cells #[.slice B0 u.th.length d0, .slice B1 u.rg.length d1, .slice B2 u.lo.length d2, .slice B3 u.r0.length d3, .slice B4 u.m0.length d4] 28)) := below_alloc (below_alloc (Below.refl _ _) _) _
  generalize World.alloc (World.alloc w _) _ = W0 at h1 h2 hb0 ⊢
  have KP : Aside0 (∀ W', Below W0.heap.size W0 W' → W'.cell? ⟨w.heap.size, 0, none⟩ = some (.slice A0 u.th.length c0) ∧ W'.cell? ⟨w.heap.size, 1, none⟩ = some (.slice A1 u.rg.length c1) ∧ W'.cell? ⟨w.heap.size, 2, none⟩ = some (.slice A2 u.lo.length c2) ∧ W'.cell? ⟨w.heap.size, 3, none⟩ = some (.slice A3 u.r0.length c3) ∧ W'.cell? ⟨w.heap.size, 4, none⟩ = some (.slice A4 u.m0.length c4) ∧ W'.cell? ⟨w.heap.size + 1, 0, none⟩ = some (.slice B0 u.th.length d0) ∧ W'.cell? ⟨w.heap.size + 1, 1, none⟩ = some (.slice B1 u.rg.length d1) ∧ W'.cell? ⟨w.heap.size + 1, 2, none⟩ = some (.slice B2 u.lo.length d2) ∧ W'.cell? ⟨w.heap.size + 1, 3, none⟩ = some (.slice B3 u.r0.length d3) ∧ W'.cell? ⟨w.heap.size + 1, 4, none⟩ = some (.slice B4 u.m0.length d4)) := ⟨fun W' hb => by
    have q1 := (hb.block _ (blk_lt h1)).trans h1
    have q2 := (hb.block _ (blk_lt h2)).trans h2
    exact ⟨(blk_cell q1 0).trans rfl, (blk_cell q1 1).trans rfl, (blk_cell q1 2).trans rfl, (blk_cell q1 3).trans rfl, (blk_cell q1 4).trans rfl, (blk_cell q2 0).trans rfl, (blk_cell q2 1).trans rfl, (blk_cell q2 2).trans rfl, (blk_cell q2 3).trans rfl, (blk_cell q2 4).trans rfl⟩⟩
  have B := Aside0.mk hb0
  have KB := Aside0.mk (Below.refl W0.heap.size W0)
  clear h1 h2 hb0
  obtain ⟨a0_, a1_, a2_, a3_, a4_, b0_, b1_, b2_, b3_, b4_⟩ := KP.out _ KB.out
  go_upto_region 3 with fail
  refine (sx_c (Kd.C_below X2.out (belW B.out KB.out)) (Kd.C_below Y2.out (belW B.out KB.out))).mono ?_
  rintro e W_ ⟨rfl, hb_⟩
  have KB2 := Aside0.mk (belW KB.out hb_)
  clear KB hb_ a0_ a1_ a2_ a3_ a4_ b0_ b1_ b2_ b3_ b4_
  have KB := KB2
  clear KB2
  obtain ⟨a0_, a1_, a2_, a3_, a4_, b0_, b1_, b2_, b3_, b4_⟩ := KP.out _ KB.out
  go_upto_region 3 with fail
  refine (sw_c (Kd.C_below X4.out (belW B.out KB.out)) (Kd.C_below Y4.out (belW B.out KB.out))).mono ?_
  rintro e W_ ⟨rfl, hb_⟩
  have KB2 := Aside0.mk (belW KB.out hb_)
  clear KB hb_ a0_ a1_ a2_ a3_ a4_ b0_ b1_ b2_ b3_ b4_
  have KB := KB2
  clear KB2
  obtain ⟨a0_, a1_, a2_, a3_, a4_, b0_, b1_, b2_, b3_, b4_⟩ := KP.out _ KB.out
  go_upto_region 3 with fail
  clear a0_ a1_ a2_ a3_ a4_ b0_ b1_ b2_ b3_ b4_
  go_wp2_with fail
  go_loopw [5] (fun v W => ∃ j : Nat, v = .int .i64 j ∧ j ≤ u.th.length ∧ Aside0 (Below W0.heap.size W0 W)) (fun v _ => u.th.length - (intOf v).toNat)
  case atStart => exact ⟨0, rfl, Nat.zero_le _, KB⟩
  case round =>
    clear KB
    obtain ⟨j, rfl, hj, KB⟩ := hrel
    by_cases hlt : j < u.th.length
    · obtain ⟨a, Ar, cr, rfl, hxa, _, hra⟩ := at_L3 X0.out (j : Int) (Int.natCast_nonneg j) (Int.ofNat_lt.2 hlt)
      obtain ⟨b, Br, dr, rfl, hxb, _, hrb⟩ := at_L3 Y0.out (j : Int) (Int.natCast_nonneg j) (Int.ofNat_lt.2 hlt)
      rw [Int.toNat_natCast] at hxa hxb
      have hw := wrapN hlt M0.out
      have HJ := Aside0.mk hlt
      have RA := Aside0.mk hra
      have RB := Aside0.mk hrb
      have KS : Aside0 (∀ W', Below W0.heap.size W0 W' → (W'.cell? ⟨w.heap.size, 0, none⟩ = some (.slice (some a) u.th.length c0) ∧ W'.cell? ⟨w.heap.size + 1, 0, none⟩ = some (.slice (some b) u.th.length d0) ∧ W'.cell? (a.add j) = some (.slice Ar (rd_L3 u.th (j : Int)).length cr) ∧ W'.cell? (b.add j) = some (.slice Br (rd_L3 u.th (j : Int)).length dr))) := ⟨fun W' hb => by
        obtain ⟨a0_, a1_, a2_, a3_, a4_, b0_, b1_, b2_, b3_, b4_⟩ := KP.out _ hb
        exact ⟨a0_, b0_, pw_cell_below (belW B.out hb) hxa, pw_cell_below (belW B.out hb) hxb⟩⟩
      clear hra hrb hxa hxb
      have ML := Aside0.mk (Kd.C_max RA.out)
      obtain ⟨s0, s1, s2, s3⟩ := KS.out _ KB.out
      go_wp2_with fail
      go_region_held3 (fun W' : World => W'.cell? ⟨w.heap.size, 0, none⟩ = some (.slice (some a) u.th.length c0) ∧ W'.cell? ⟨w.heap.size + 1, 0, none⟩ = some (.slice (some b) u.th.length d0) ∧ W'.cell? (a.add j) = some (.slice Ar (rd_L3 u.th (j : Int)).length cr) ∧ W'.cell? (b.add j) = some (.slice Br (rd_L3 u.th (j : Int)).length dr)) (with_reducible exact KS.out _ (below_drew KB.out)) (fail)
      all_goals clear s0 s1 s2 s3
      all_goals go_wp2_with fail
      go_loopw [6] (fun v W => ∃ m : Nat, v = .int .i64 m ∧ m ≤ (rd_L3 u.th (j : Int)).length ∧ Aside0 (Below W0.heap.size W0 W)) (fun v _ => (rd_L3 u.th (j : Int)).length - (intOf v).toNat)
      case atStart => exact ⟨0, rfl, Nat.zero_le _, ⟨below_drew KB.out⟩⟩
      case round =>
        clear KB
        obtain ⟨m, rfl, hm, KB⟩ := hrel
        obtain ⟨s0, s1, s2, s3⟩ := KS.out _ KB.out
        have hlt := HJ.out
        by_cases hlm : m < (rd_L3 u.th (j : Int)).length
        · obtain ⟨a', rfl, ha⟩ := at_T87 RA.out (m : Int) (Int.natCast_nonneg m) (Int.ofNat_lt.2 hlm)
          obtain ⟨b', rfl, hb⟩ := at_T87 RB.out (m : Int) (Int.natCast_nonneg m) (Int.ofNat_lt.2 hlm)
          rw [Int.toNat_natCast] at ha hb
          have KW := belW B.out KB.out
          replace ha : wr.cell? (a'.add (m * 5)) = some (.int .i64 (rd_T87 (rd_L3 u.th (j : Int)) (m : Int)).f0) ∧ wr.cell? ⟨(a'.add (m * 5)).block, (a'.add (m * 5)).off + 1, none⟩ = some (.int .i64 (rd_T87 (rd_L3 u.th (j : Int)) (m : Int)).f1) ∧ wr.cell? ⟨(a'.add (m * 5)).block, (a'.add (m * 5)).off + 2, none⟩ = some (.int .i64 (rd_T87 (rd_L3 u.th (j : Int)) (m : Int)).f2) ∧ wr.cell? ⟨(a'.add (m * 5)).block, (a'.add (m * 5)).off + 3, none⟩ = some (.int .i64 (rd_T87 (rd_L3 u.th (j : Int)) (m : Int)).f3) ∧ wr.cell? ⟨(a'.add (m * 5)).block, (a'.add (m * 5)).off + 4, none⟩ = some (.int .i64 (rd_T87 (rd_L3 u.th (j : Int)) (m : Int)).f4) := ⟨pw_cell_below KW ha.1, pw_cell_below KW ha.2.1, pw_cell_below KW ha.2.2.1, pw_cell_below KW ha.2.2.2.1, pw_cell_below KW ha.2.2.2.2⟩
          replace hb : wr.cell? (b'.add (m * 5)) = some (.int .i64 (rd_T87 (rd_L3 u.th (j : Int)) (m : Int)).f0) ∧ wr.cell? ⟨(b'.add (m * 5)).block, (b'.add (m * 5)).off + 1, none⟩ = some (.int .i64 (rd_T87 (rd_L3 u.th (j : Int)) (m : Int)).f1) ∧ wr.cell? ⟨(b'.add (m * 5)).block, (b'.add (m * 5)).off + 2, none⟩ = some (.int .i64 (rd_T87 (rd_L3 u.th (j : Int)) (m : Int)).f2) ∧ wr.cell? ⟨(b'.add (m * 5)).block, (b'.add (m * 5)).off + 3, none⟩ = some (.int .i64 (rd_T87 (rd_L3 u.th (j : Int)) (m : Int)).f3) ∧ wr.cell? ⟨(b'.add (m * 5)).block, (b'.add (m * 5)).off + 4, none⟩ = some (.int .i64 (rd_T87 (rd_L3 u.th (j : Int)) (m : Int)).f4) := ⟨pw_cell_below KW hb.1, pw_cell_below KW hb.2.1, pw_cell_below KW hb.2.2.1, pw_cell_below KW hb.2.2.2.1, pw_cell_below KW hb.2.2.2.2⟩
          have hwm := wrapN hlm ML.out
          have HJM := Aside0.mk hlm
          have HA := Aside0.mk ha
          have HB := Aside0.mk hb
          clear KW ha hb
          go_wp2_with fail
          go_region_held3 (fun W' : World => (W'.cell? ⟨w.heap.size, 0, none⟩ = some (.slice (some a) u.th.length c0) ∧ W'.cell? ⟨w.heap.size + 1, 0, none⟩ = some (.slice (some b) u.th.length d0) ∧ W'.cell? (a.add j) = some (.slice (some a') (rd_L3 u.th (j : Int)).length cr) ∧ W'.cell? (b.add j) = some (.slice (some b') (rd_L3 u.th (j : Int)).length dr)) ∧ (W'.cell? (a'.add (m * 5)) = some (.int .i64 (rd_T87 (rd_L3 u.th (j : Int)) (m : Int)).f0) ∧ W'.cell? ⟨(a'.add (m * 5)).block, (a'.add (m * 5)).off + 1, none⟩ = some (.int .i64 (rd_T87 (rd_L3 u.th (j : Int)) (m : Int)).f1) ∧ W'.cell? ⟨(a'.add (m * 5)).block, (a'.add (m * 5)).off + 2, none⟩ = some (.int .i64 (rd_T87 (rd_L3 u.th (j : Int)) (m : Int)).f2) ∧ W'.cell? ⟨(a'.add (m * 5)).block, (a'.add (m * 5)).off + 3, none⟩ = some (.int .i64 (rd_T87 (rd_L3 u.th (j : Int)) (m : Int)).f3) ∧ W'.cell? ⟨(a'.add (m * 5)).block, (a'.add (m * 5)).off + 4, none⟩ = some (.int .i64 (rd_T87 (rd_L3 u.th (j : Int)) (m : Int)).f4)) ∧ W'.cell? (b'.add (m * 5)) = some (.int .i64 (rd_T87 (rd_L3 u.th (j : Int)) (m : Int)).f0) ∧ W'.cell? ⟨(b'.add (m * 5)).block, (b'.add (m * 5)).off + 1, none⟩ = some (.int .i64 (rd_T87 (rd_L3 u.th (j : Int)) (m : Int)).f1) ∧ W'.cell? ⟨(b'.add (m * 5)).block, (b'.add (m * 5)).off + 2, none⟩ = some (.int .i64 (rd_T87 (rd_L3 u.th (j : Int)) (m : Int)).f2) ∧ W'.cell? ⟨(b'.add (m * 5)).block, (b'.add (m * 5)).off + 3, none⟩ = some (.int .i64 (rd_T87 (rd_L3 u.th (j : Int)) (m : Int)).f3) ∧ W'.cell? ⟨(b'.add (m * 5)).block, (b'.add (m * 5)).off + 4, none⟩ = some (.int .i64 (rd_T87 (rd_L3 u.th (j : Int)) (m : Int)).f4))
            (exact ⟨⟨s0, s1, s2, s3⟩, HA.out, HB.out⟩) (fail)
          all_goals clear s0 s1 s2 s3
          all_goals go_wp2_with fail
          all_goals go_roundw
          case rel => exact ⟨m + 1, by rw [hwm]; rfl, HJM.out, ⟨below_drew KB.out⟩⟩
          case measure => rw [hwm]; exact nat_dec HJM.out
        · go_wp2_with fail
          go_roundw
          case rel => exact ⟨j + 1, by rw [hw]; rfl, HJ.out, KB⟩
          case measure => rw [hw]; exact nat_dec HJ.out
    · obtain ⟨a0_, a1_, a2_, a3_, a4_, b0_, b1_, b2_, b3_, b4_⟩ := KP.out _ KB.out
      go_wp2_with fail
      clear a0_ a1_ a2_ a3_ a4_ b0_ b1_ b2_ b3_ b4_ hlt hj
      go_loopw [7] (fun v W => ∃ j : Nat, v = .int .i64 j ∧ j ≤ u.rg.length ∧ Aside0 (Below W0.heap.size W0 W)) (fun v _ => u.rg.length - (intOf v).toNat)
      case atStart => exact ⟨0, rfl, Nat.zero_le _, KB⟩
      case round =>
        clear KB
        obtain ⟨j, rfl, hj, KB⟩ := hrel
        by_cases hlt : j < u.rg.length
        · obtain ⟨a, Ar, cr, rfl, hxa, _, hra⟩ := at_L4 X1.out (j : Int) (Int.natCast_nonneg j) (Int.ofNat_lt.2 hlt)
          obtain ⟨b, Br, dr, rfl, hxb, _, hrb⟩ := at_L4 Y1.out (j : Int) (Int.natCast_nonneg j) (Int.ofNat_lt.2 hlt)
          rw [Int.toNat_natCast] at hxa hxb
          have hw := wrapN hlt M1.out
          have HJ := Aside0.mk hlt
          have RA := Aside0.mk hra
          have RB := Aside0.mk hrb
          have KS : Aside0 (∀ W', Below W0.heap.size W0 W' → (W'.cell? ⟨w.heap.size, 1, none⟩ = some (.slice (some a) u.rg.length c1) ∧ W'.cell? ⟨w.heap.size + 1, 1, none⟩ = some (.slice (some b) u.rg.length d1) ∧ W'.cell? (a.add j) = some (.slice Ar (rd_L4 u.rg (j : Int)).length cr) ∧ W'.cell? (b.add j) = some (.slice Br (rd_L4 u.rg (j : Int)).length dr))) := ⟨fun W' hb => by
            obtain ⟨a0_, a1_, a2_, a3_, a4_, b0_, b1_, b2_, b3_, b4_⟩ := KP.out _ hb
            exact ⟨a1_, b1_, pw_cell_below (belW B.out hb) hxa, pw_cell_below (belW B.out hb) hxb⟩⟩
          clear hra hrb hxa hxb
          obtain ⟨s0, s1, s2, s3⟩ := KS.out _ KB.out
          go_wp2_with fail
          go_region_held3 (fun W' : World => W'.cell? ⟨w.heap.size, 1, none⟩ = some (.slice (some a) u.rg.length c1) ∧ W'.cell? ⟨w.heap.size + 1, 1, none⟩ = some (.slice (some b) u.rg.length d1) ∧ W'.cell? (a.add j) = some (.slice Ar (rd_L4 u.rg (j : Int)).length cr) ∧ W'.cell? (b.add j) = some (.slice Br (rd_L4 u.rg (j : Int)).length dr)) (first | with_reducible exact KS.out _ (below_drew KB.out) | with_reducible exact KS.out _ K2.out)
            (first | (go_at_call 53; (with_reducible refine (sx_c (Kd.C_below RA.out (below_drew (belW B.out KB.out))) (Kd.C_below RB.out (below_drew (belW B.out KB.out)))).mono ?_); rintro e W2 ⟨rfl, hb2⟩; have K2 := Aside0.mk (below_then (below_drew KB.out) KB.out.size hb2); clear hb2))
          all_goals clear s0 s1 s2 s3
          all_goals go_wp2_with fail
          all_goals go_roundw
          case rel => exact ⟨j + 1, by rw [hw]; rfl, HJ.out, K2⟩
          case measure => rw [hw]; exact nat_dec HJ.out
        · obtain ⟨a0_, a1_, a2_, a3_, a4_, b0_, b1_, b2_, b3_, b4_⟩ := KP.out _ KB.out
          go_wp2_with fail
          clear a0_ a1_ a2_ a3_ a4_ b0_ b1_ b2_ b3_ b4_ hlt hj
          go_loopw [8] (fun v W => ∃ j : Nat, v = .int .i64 j ∧ j ≤ u.r0.length ∧ Aside0 (Below W0.heap.size W0 W)) (fun v _ => u.r0.length - (intOf v).toNat)
          case atStart => exact ⟨0, rfl, Nat.zero_le _, KB⟩
          case round =>
            clear KB
            obtain ⟨j, rfl, hj, KB⟩ := hrel
            by_cases hlt : j < u.r0.length
            · obtain ⟨a, Ar, cr, rfl, hxa, _, hra⟩ := at_L5 X3.out (j : Int) (Int.natCast_nonneg j) (Int.ofNat_lt.2 hlt)
              obtain ⟨b, Br, dr, rfl, hxb, _, hrb⟩ := at_L5 Y3.out (j : Int) (Int.natCast_nonneg j) (Int.ofNat_lt.2 hlt)
              rw [Int.toNat_natCast] at hxa hxb
              have hw := wrapN hlt M3.out
              have HJ := Aside0.mk hlt
              have RA := Aside0.mk hra
              have RB := Aside0.mk hrb
              have KS : Aside0 (∀ W', Below W0.heap.size W0 W' → (W'.cell? ⟨w.heap.size, 3, none⟩ = some (.slice (some a) u.r0.length c3) ∧ W'.cell? ⟨w.heap.size + 1, 3, none⟩ = some (.slice (some b) u.r0.length d3) ∧ W'.cell? (a.add j) = some (.slice Ar (rd_L5 u.r0 (j : Int)).length cr) ∧ W'.cell? (b.add j) = some (.slice Br (rd_L5 u.r0 (j : Int)).length dr))) := ⟨fun W' hb => by
                obtain ⟨a0_, a1_, a2_, a3_, a4_, b0_, b1_, b2_, b3_, b4_⟩ := KP.out _ hb
                exact ⟨a3_, b3_, pw_cell_below (belW B.out hb) hxa, pw_cell_below (belW B.out hb) hxb⟩⟩
              clear hra hrb hxa hxb
              obtain ⟨s0, s1, s2, s3⟩ := KS.out _ KB.out
              go_wp2_with fail
              go_region_held3 (fun W' : World => W'.cell? ⟨w.heap.size, 3, none⟩ = some (.slice (some a) u.r0.length c3) ∧ W'.cell? ⟨w.heap.size + 1, 3, none⟩ = some (.slice (some b) u.r0.length d3) ∧ W'.cell? (a.add j) = some (.slice Ar (rd_L5 u.r0 (j : Int)).length cr) ∧ W'.cell? (b.add j) = some (.slice Br (rd_L5 u.r0 (j : Int)).length dr)) (first | with_reducible exact KS.out _ (below_drew KB.out) | with_reducible exact KS.out _ K2.out)
                (first | (go_at_call 54; (with_reducible refine (sw_c (Kd.C_below RA.out (below_drew (belW B.out KB.out))) (Kd.C_below RB.out (below_drew (belW B.out KB.out)))).mono ?_); rintro e W2 ⟨rfl, hb2⟩; have K2 := Aside0.mk (below_then (below_drew KB.out) KB.out.size hb2); clear hb2))
              all_goals clear s0 s1 s2 s3
              all_goals go_wp2_with fail
              all_goals go_roundw
              case rel => exact ⟨j + 1, by rw [hw]; rfl, HJ.out, K2⟩
              case measure => rw [hw]; exact nat_dec HJ.out
            · obtain ⟨a0_, a1_, a2_, a3_, a4_, b0_, b1_, b2_, b3_, b4_⟩ := KP.out _ KB.out
              go_wp2_with fail
              go_ret
              exact ⟨rfl, belW B.out KB.out⟩
end Go.Proofs.Ytemhpbdlonfikaa.P
