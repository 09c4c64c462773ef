/- weirref11.Read, walked by hand. -/
import Derived.Test.YtemhpbdlonfikaaEa
import Derived.Test.YtemhpbdlonfikaaRp
import Derived.Test.YtemhpbdlonfikaaSst
import Derived.Test.YtemhpbdlonfikaaP26
namespace Go.Proofs.Ytemhpbdlonfikaa.P
open Go Go.RowKit Go.Proofs.YtemhpbdlonfikaaW.PrintWords Go.Proofs.YtemhpbdlonfikaaW.PrintLast Go.Proofs.YtemhpbdlonfikaaW.PrintMore
theorem small_o {w W : World} {ps : List Part} {j g : Nat} {s : ByteArray} {r : RS} (hs : s.size ≤ 4611686018427387904) (h : Owned w ps W) (hj : ps[j]? = some (.box g 111 (rdr s r))) (most : Int) :
    Calls Try.prog 48 #[.pointer (some ⟨g, 0, none⟩), .int .i64 most] W fun e W' => e = .returned (.int .i64 (smallM s most r).1) ∧ Owned w (ps.set j (.box g 111 (rdr s (smallM s most r).2))) W' := by
  obtain ⟨K, hK⟩ := (rsm_is hs most r).rounds
  refine (weirref11_reader_small.calls K g s r.1 r.2 most _ _ _ _ w W ⟨h.blk hj, (h.get hj).2.1⟩ h.below hK).mono ?_
  rintro e W' ⟨rfl, ⟨h1, _⟩, h2, h3⟩
  exact ⟨rfl, h.call hj h3 h2 h1⟩
theorem take_o {w W : World} {ps : List Part} {j g : Nat} {s : ByteArray} {r : RS} (hs : s.size ≤ 4611686018427387904) (h : Owned w ps W) (hj : ps[j]? = some (.box g 111 (rdr s r))) :
    Calls Try.prog 49 #[.pointer (some ⟨g, 0, none⟩)] W fun e W' => e = .returned (.int .i64 (valM s r).1) ∧ Owned w (ps.set j (.box g 111 (rdr s (valM s r).2))) W' := by
  obtain ⟨K, hK⟩ := (rval_is hs r).rounds
  refine (weirref11_reader_take.calls K g s r.1 r.2 _ _ _ _ w W ⟨h.blk hj, (h.get hj).2.1⟩ h.below hK).mono ?_
  rintro e W' ⟨rfl, ⟨h1, _⟩, h2, h3⟩
  exact ⟨rfl, h.call hj h3 h2 h1⟩
theorem valid_o {w W : World} {ps : List Part} {p : Pg} {pv : List Value} (hp : PgV w pv p) (h : Owned w ps W) {v : Int} (hvr : Ev (fun k => weirref09_Valid.f k p.th p.rg p.lo p.r0 p.m0) v) :
    Calls Try.prog 26 #[.agg pv.toArray] W fun e W' => e = .returned (.int .i64 v) ∧ Owned w ps W' := by
  obtain ⟨A0, A1, A2, A3, A4, c0, c1, c2, c3, c4, rfl, h0, l0, h1, l1, h2, l2, h3, l3, h4, l4⟩ := hp.below h.below
  obtain ⟨K, hK⟩ := hvr.rounds
  refine (weirref09_Valid.calls K A0 c0 p.th A1 c1 p.rg A2 c2 p.lo A3 c3 p.r0 A4 c4 p.m0 v W h0 l0 h1 l1 h2 l2 h3 l3 h4 l4 hK).mono ?_
  rintro e W' ⟨rfl, hb⟩
  exact ⟨rfl, h.later hb⟩
theorem small88 {l k m : Nat} (e : l = k) (h : k < m) (t : m ≤ 8) : (l + 1) * 8 ≤ 140737488355328 := by omega
theorem small16 {l k m : Nat} (e : l = k) (h : k < m) (t : m ≤ 16) : (l + 1) * 8 ≤ 140737488355328 := by omega
theorem smallM_range {s : ByteArray} {m : Int} (hm : 0 ≤ m) (r : RS) : 0 ≤ (smallM s m r).1 ∧ (smallM s m r).1 ≤ m := by
  unfold smallM
  by_cases h1 : (valM s r).1 < 0
  · rw [if_pos h1]; exact ⟨Int.le_refl _, hm⟩
  · by_cases h2 : m < (valM s r).1
    · rw [if_neg h1, if_pos h2]; exact ⟨Int.le_refl _, hm⟩
    · rw [if_neg h1, if_neg h2]; exact ⟨Int.not_lt.1 h1, Int.not_lt.1 h2⟩
theorem small59 {l k m : Nat} (e : l = k) (h : k < m) (t : m ≤ 64) : (l + 1) * 16 ≤ 140737488355328 := by omega
theorem finN_no {s : ByteArray} {n : Nat} {P Q : List Int} {R : List (List Int)} {M : List Int} {B : List (List S59)} {r : RS} (h : (valM s r).2.2 = true ∨ ¬ (valM s r).2.1 = (s.size : Int) ∨ (valM s r).1 < -1 ∨ (n : Int) ≤ (valM s r).1) : finN s n P Q R M B r = readN 5 := by
  unfold finN numM
  by_cases hc : (valM s r).2.2 = true ∨ (valM s r).1 < -1 ∨ (n : Int) - 1 < (valM s r).1
  · rw [if_pos hc, if_pos rfl]
  · rw [if_neg hc, if_neg (fun e => hc (.inl e))]
    rcases h with h | h | h | h
    · exact absurd (.inl h) hc
    · rw [if_neg h]
    · exact absurd (.inr (.inl h)) hc
    · exact absurd (.inr (.inr (by omega))) hc
theorem finN_ok {s : ByteArray} {n : Nat} {P Q : List Int} {R : List (List Int)} {M : List Int} {B : List (List S59)} {r : RS} (h0 : ¬ (valM s r).2.2 = true) (h : (valM s r).2.1 = (s.size : Int)) (h1 : ¬ (valM s r).1 < -1) (h2 : ¬ (n : Int) ≤ (valM s r).1) : finN s n P Q R M B r = (P, Q, R, M, B, (valM s r).1, 0) := by
  unfold finN numM
  have hc : ¬ ((valM s r).2.2 = true ∨ (valM s r).1 < -1 ∨ (n : Int) - 1 < (valM s r).1) := fun hh => by
    rcases hh with hh | hh | hh
    · exact h0 hh
    · exact h1 hh
    · exact h2 (by omega)
  rw [if_neg hc, if_neg h0, if_pos h]
def rdP (g2 g4 g6 g7 : Nat) (pv : List Value) (s : ByteArray) (r : RS) (u : Array Value) (v0 v1 v2 v3 v4 : Value) (P Q : List Int) (R : List (List Int)) (M : List Int) (B : List (List S59)) : List Part :=
  [.box g2 28 pv.toArray, .box g4 42 (boxS (.slice none 0 0) (.slice none 0 0) (.slice none 0 0) (.slice none 0 0) (.slice none 0 0) 0), .box g6 111 (rdr s r), .box g7 42 u,
    .row (Kd.int .i64) 3 v0 P, .row (Kd.int .i64) 3 v1 Q, .rows (Kd.int .i64) 26 v2 R 2, .row (Kd.int .i64) 2 v3 M, .rows k59 57 v4 B 59]
theorem rd_begin (w : World) (pv : List Value) (W0 : World) (g4 : Nat) (h : W0 = ((w.alloc (.cells pv.toArray 28)).alloc (.cells (boxS (.slice none 0 0) (.slice none 0 0) (.slice none 0 0) (.slice none 0 0) (.slice none 0 0) 0) 42))) (h4 : g4 = w.heap.size + 1) :
    Owned w [.box w.heap.size 28 pv.toArray, .box g4 42 (boxS (.slice none 0 0) (.slice none 0 0) (.slice none 0 0) (.slice none 0 0) (.slice none 0 0) 0)] W0 := by
  have a := ((Owned.nil w).box 28 pv.toArray).box 42 (boxS (.slice none 0 0) (.slice none 0 0) (.slice none 0 0) (.slice none 0 0) (.slice none 0 0) 0)
  rw [← h] at a
  simp only [sz_alloc] at a
  rw [← h4] at a
  exact a
theorem rd_mid (w W : World) (pv : List Value) (s : ByteArray) (W0 : World) (g2 g4 g6 g7 : Nat) (a : Owned w [.box g2 28 pv.toArray, .box g4 42 (boxS (.slice none 0 0) (.slice none 0 0) (.slice none 0 0) (.slice none 0 0) (.slice none 0 0) 0)] W) (h : W0 = ((W.alloc (.cells (rdr s ((0 : Int), false)) 111)).alloc (.cells (boxS (.slice none 0 0) (.slice none 0 0) (.slice none 0 0) (.slice none 0 0) (.slice none 0 0) 0) 42))) (h6 : g6 = W.heap.size) (h7 : g7 = W.heap.size + 1) :
    Owned w (rdP g2 g4 g6 g7 pv s ((0 : Int), false) (boxS (.slice none 0 0) (.slice none 0 0) (.slice none 0 0) (.slice none 0 0) (.slice none 0 0) 0) (.slice none 0 0) (.slice none 0 0) (.slice none 0 0) (.slice none 0 0) (.slice none 0 0) [] [] [] [] []) W0 := by
  have a := (a.box 111 (rdr s ((0 : Int), false))).box 42 (boxS (.slice none 0 0) (.slice none 0 0) (.slice none 0 0) (.slice none 0 0) (.slice none 0 0) 0)
  rw [← h] at a
  simp only [sz_alloc] at a
  rw [← h7, ← h6] at a
  have b := ((((a.with (p := .row (Kd.int .i64) 3 (.slice none 0 0) []) (fun ok => Kd.R_nil _ _ _ _ _)).with (p := .row (Kd.int .i64) 3 (.slice none 0 0) []) (fun ok => Kd.R_nil _ _ _ _ _)).with (p := .rows (Kd.int .i64) 26 (.slice none 0 0) [] 2) (fun ok => Kd.S_nil _ _ _ _ _)).with (p := .row (Kd.int .i64) 2 (.slice none 0 0) []) (fun ok => Kd.R_nil _ _ _ _ _)).with (p := .rows k59 57 (.slice none 0 0) [] 59) (fun ok => Kd.S_nil _ _ _ _ _)
  exact b
def rdT9 : Bool × List (List Nat × List Nat) := (true, [([], []), ([0], [0]), ([], []), ([], []), ([3], [3]), ([], []), ([4, 5], [4, 5]), ([6], [6]), ([7], [7]), ([2, 8], [2, 8]), ([9], [9]), ([1, 10, 9], [1, 10]), ([0, 1, 2, 3, 4, 5, 6, 7, 8, 9, 10, 11], []), ([12, 11, 11, 0, 1, 2, 3, 4, 5, 6, 7, 8, 9, 10, 11], [11, 12])])
def rdB9 : List Nat := [0, 1, 0, 0, 8, 0, 56, 120, 248, 508, 1020, 2047, 4095, 8191]
theorem rd_tab9 : rtab .any (opsOf Try.f17 9) = rdT9 := by kernel_rfl
theorem rd_bits9 : waitsOk rdT9.2 rdB9 = true := by kernel_rfl
def rdT10 : Bool × List (List Nat × List Nat) := (true, [([], []), ([0], [0]), ([], []), ([2], [2]), ([3], [3]), ([1, 4, 3], [1, 4]), ([0, 1, 2, 3, 4, 5], []), ([6, 5, 5, 0, 1, 2, 3, 4, 5], [5, 6])])
def rdB10 : List Nat := [0, 1, 0, 4, 12, 31, 63, 127]
theorem rd_tab10 : rtab .any (opsOf Try.f17 10) = rdT10 := by kernel_rfl
theorem rd_bits10 : waitsOk rdT10.2 rdB10 = true := by kernel_rfl
def rdT20 : Bool × List (List Nat × List Nat) := (true, [([], []), ([0], [0]), ([], []), ([2], [2]), ([3], [3]), ([1, 4, 3], [1, 4]), ([0, 1, 2, 3, 4, 5], []), ([6, 5, 5, 0, 1, 2, 3, 4, 5], [5, 6])])
def rdB20 : List Nat := [0, 1, 0, 4, 12, 31, 63, 127]
theorem rd_tab20 : rtab .any (opsOf Try.f17 20) = rdT20 := by kernel_rfl
theorem rd_bits20 : waitsOk rdT20.2 rdB20 = true := by kernel_rfl
set_option maxHeartbeats 16000000 in
set_option maxRecDepth 100000 in
theorem read_o {w : World} {pv : List Value} {p : Pg} {s : ByteArray} {RES : RdT} (hp : PgV w pv p) (hs : s.size ≤ 4611686018427387904) (hvr : Ev (fun k => weirref09_Valid.f k p.th p.rg p.lo p.r0 p.m0) (validM p))
    (hR : validM p = 0 → p.lo.length ≤ 16 ∧ p.th.length ≤ 4 ∧ p.rg.length = p.th.length ∧ ∀ i : Nat, (rd_L4 p.rg (i : Int)).length ≤ 8) (hRES : (if validM p = 0 then G0 s p 0 [] [] [] ((0 : Int), false) else readN (validM p)) = RES) :
    Calls Try.prog 17 #[.agg pv.toArray, .string s] w fun e W' => ∃ v0 v1 v2 v3 v4 : Value, e = .returned (.tuple #[.agg (boxS v0 v1 v2 v3 v4 RES.2.2.2.2.2.1), .int .i64 RES.2.2.2.2.2.2]) ∧
      Owned w [.row (Kd.int .i64) 3 v0 RES.1, .row (Kd.int .i64) 3 v1 RES.2.1, .rows (Kd.int .i64) 26 v2 RES.2.2.1 2, .row (Kd.int .i64) 2 v3 RES.2.2.2.1, .rows k59 57 v4 RES.2.2.2.2.1 59] W' := by
  have HP := Aside0.mk hp
  obtain ⟨A0, A1, A2, A3, A4, c0, c1, c2, c3, c4, rfl, x0, _, x1, _, x2, _, x3, _, x4, _⟩ := hp
  obtain ⟨vv, hvv⟩ : ∃ x, validM p = x := ⟨_, rfl⟩
  rw [hvv] at hvr hR hRES
  have X0 := Aside0.mk x0
  have X1 := Aside0.mk x1
  have S := Aside0.mk hs
  have N0 := Aside0.mk (Kd.C_max x0)
  have HV := Aside0.mk hvr
  have RR := Aside0.mk hR
  have E := Aside0.mk hRES
  clear x0 x1 x2 x3 x4 hs hvr hR hRES hvv
  have hu28 := Try.underlying28
  have hu42 := Try.underlying42
  go_enter Try.func17, Try.ntmps17
  go_upto_region 1 with fail
  generalize hW : World.alloc (World.alloc w _) _ = W0
  generalize h4 : w.heap.size + 1 = g4
  have HO := Aside0.mk (rd_begin w [.slice A0 p.th.length c0, .slice A1 p.rg.length c1, .slice A2 p.lo.length c2, .slice A3 p.r0.length c3, .slice A4 p.m0.length c4] W0 g4 hW.symm h4.symm)
  clear hW h4
  have hb2 := HO.out.blk (j := 0) rfl
  go_upto_region 2 with (first
    | (refine wpList_load_row rfl 28 (.tmp 2) rfl w.heap.size rfl 28 _ (0, 0) _ hb2 hu28 rfl (by kernel_rfl) ?_)
    | (go_at_call 26; (with_reducible refine (valid_o HP.out HO.out HV.out).mono ?_); rintro e W1 ⟨rfl, h1⟩; have HO1 := Aside0.mk h1; clear h1))
  clear hb2 HO
  have HO := HO1
  clear HO1
  by_cases hv0 : vv = 0
  · obtain ⟨l16, t4, hg, hr8⟩ := RR.out hv0
    have L := Aside0.mk l16
    have T := Aside0.mk t4
    have G := Aside0.mk hg
    have RG := Aside0.mk hr8
    have E2 : Aside0 (G0 s p 0 [] [] [] ((0 : Int), false) = RES) := ⟨by rw [← E.out, if_pos hv0]⟩
    clear l16 t4 hg hr8 RR E
    subst hv0
    go_upto_region 6 with fail
    generalize hW : World.alloc (World.alloc W1 _) _ = W2
    generalize h7 : W1.heap.size + 1 = g7
    generalize h6 : W1.heap.size = g6
    have HO2 := Aside0.mk (rd_mid w W1 [.slice A0 p.th.length c0, .slice A1 p.rg.length c1, .slice A2 p.lo.length c2, .slice A3 p.r0.length c3, .slice A4 p.m0.length c4] s W2 _ g4 g6 g7 HO.out hW.symm h6.symm h7.symm)
    clear hW h7 h6 HO
    have HO := HO2
    clear HO2
    obtain ⟨z0, z1, z2, z3, z4, _⟩ := blkA5 (HO.out.blk (j := 0) rfl)
    go_wp2_with fail
    clear z0 z1 z2 z3 z4
    go_loopw [9] (fun v W => ∃ i : Nat, v = .int .i64 i ∧ i ≤ p.th.length ∧ Aside0 (∃ (r : RS) (v0 v1 v2 : Value) (P Q : List Int) (R : List (List Int)), P.length = i ∧ Q.length = i ∧ R.length = i ∧ G0 s p i P Q R r = RES ∧ Owned w (rdP w.heap.size g4 g6 g7 [.slice A0 p.th.length c0, .slice A1 p.rg.length c1, .slice A2 p.lo.length c2, .slice A3 p.r0.length c3, .slice A4 p.m0.length c4] s r (boxS v0 v1 v2 (.slice none 0 0) (.slice none 0 0) 0) v0 v1 v2 (.slice none 0 0) (.slice none 0 0) P Q R [] []) W)) (fun v _ => p.th.length - (intOf v).toNat)
    case atStart => exact ⟨0, rfl, Nat.zero_le _, ⟨((0 : Int), false), _, _, _, [], [], [], rfl, rfl, rfl, E2.out, HO.out⟩⟩
    case round =>
      clear HO E2
      obtain ⟨i, rfl, hi, HX⟩ := hrel
      obtain ⟨r, v0, v1, v2, P, Q, R, lP, lQ, lR, hE, hO⟩ := HX.out
      have HE := Aside0.mk hE
      have HO := Aside0.mk hO
      have LP := Aside0.mk lP
      have LQ := Aside0.mk lQ
      have LR := Aside0.mk lR
      obtain ⟨V0, d0, rfl⟩ := row_slice (HO.out.get (j := 4) rfl)
      obtain ⟨V1, d1, rfl⟩ := row_slice (HO.out.get (j := 5) rfl)
      obtain ⟨V2, d2, rfl⟩ := rows_slice (HO.out.get (j := 6) rfl)
      clear HX hE hO lP lQ lR
      obtain ⟨z0, z1, z2, z3, z4, _⟩ := blkA5 (HO.out.blk (j := 0) rfl)
      by_cases hlt : i < p.th.length
      · obtain ⟨at_, At, ct, rfl, xt, _, _⟩ := at_L3 X0.out (i : Int) (Int.natCast_nonneg i) (Int.ofNat_lt.2 hlt)
        rw [Int.toNat_natCast] at xt
        have XT := Aside0.mk xt
        have HI := Aside0.mk hlt
        obtain ⟨ag, Ag, cg, rfl, xg, _, _⟩ := at_L4 X1.out (i : Int) (Int.natCast_nonneg i) (Int.ofNat_lt.2 (by rw [G.out]; exact hlt))
        rw [Int.toNat_natCast] at xg
        have XG := Aside0.mk xg
        clear xg xt
        go_upto_region 9 with fail
        clear z0 z1 z2 z3 z4
        have HOd := Aside0.mk HO.out.drew
        clear HO
        have HO := HOd
        clear HOd
        obtain ⟨y0, y1, y2, y3, y4, y5, f0, f1, f2, f3, f4, f5⟩ := blkA6 (HO.out.blk (j := 3) rfl)
        obtain ⟨qa, hqa⟩ : ∃ q, smallM s ((rd_L3 p.th (i : Int)).length : Int) r = q := ⟨_, rfl⟩
        have HQqa := Aside0.mk hqa
        clear hqa
        obtain ⟨z0, z1, z2, z3, z4, _⟩ := blkA5 (HO.out.blk (j := 0) rfl)
        refine start_ (n := 14) (S := fun w' => w'.cell? ⟨g7, 0, none⟩ = some (.slice V0 P.length d0) ∧ w'.cell? ⟨w.heap.size, 0, none⟩ = some (.slice (some at_) p.th.length c0) ∧ w'.cell? (at_.add i) = some (.slice At (rd_L3 p.th (i : Int)).length ct)) (ds := [13]) #[false, false, false, false, false, false, false, false, false, false, false, false, false, false] (by kernel_rfl) rfl rfl ⟨y0, z0, pw_in HO.out XT.out⟩ (fun hHeld => ?_); refine with_tabW rd_tab9 rd_bits9 (fun HT_ HW_ => ?_)
        clear y0 y1 y2 y3 y4 y5 f0 f1 f2 f3 f4 f5 z0 z1 z2 z3 z4
        generalize World.drew _ = W1 at HO hHeld ⊢
        refine pu_ 0 35 ?_
        refine ta_ 1 36 ?_ hHeld
        refine pu_ 2 37 ?_
        refine pu_ 3 38 ?_
        refine ta_ 4 39 ?_ hHeld
        refine pu_ 5 40 ?_
        refine pu_ 6 41 ?_
        refine ta_ 7 42 ?_ hHeld
        refine pu_ 8 43 ?_
        refine on_ 9 44 (fun K hK => ?_)
        refine goes_ Try.func48 (by kernel_rfl) rfl #[.pointer (some ⟨g6, 0, none⟩), .int .i64 ((rd_L3 p.th (i : Int)).length : Int)] (by rfl) rfl rfl ag_ ?_
        refine (small_o S.out HO.out (j := 2) rfl ((rd_L3 p.th (i : Int)).length : Int)).mono ?_
        rw [HQqa.out]
        rintro e W2 ⟨rfl, h2⟩
        refine ⟨_, rfl, ?_⟩
        have HO2 : Aside0 (Owned w (rdP w.heap.size g4 g6 g7 [.slice (some at_) p.th.length c0, .slice (some ag) p.rg.length c1, .slice A2 p.lo.length c2, .slice A3 p.r0.length c3, .slice A4 p.m0.length c4] s qa.2 (boxS (.slice V0 P.length d0) (.slice V1 Q.length d1) (.slice V2 R.length d2) (.slice none 0 0) (.slice none 0 0) 0) (.slice V0 P.length d0) (.slice V1 Q.length d1) (.slice V2 R.length d2) (.slice none 0 0) (.slice none 0 0) P Q R [] []) W2) := ⟨h2⟩
        clear h2 HO
        obtain ⟨y0, y1, y2, y3, y4, y5, _⟩ := blkA6 (HO2.out.blk (j := 3) rfl)
        obtain ⟨z0, z1, z2, z3, z4, _⟩ := blkA5 (HO2.out.blk (j := 0) rfl)
        refine hK.out _ _ ⟨y0, z0, pw_in HO2.out XT.out⟩ (fun hHeld => ?_)
        clear hK K y0 y1 y2 y3 y4 y5 z0 z1 z2 z3 z4
        refine nm_ 44 ?_
        refine li_ (e := 3) (cs := [.int .i64 qa.1].toArray) 10 45 ⟨((below_alloc (Below.refl W2.heap.size W2) _).cell (World.block_lt_of_cell? W2 _ hHeld.1)).trans hHeld.1, ((below_alloc (Below.refl W2.heap.size W2) _).cell (World.block_lt_of_cell? W2 _ hHeld.2.1)).trans hHeld.2.1, ((below_alloc (Below.refl W2.heap.size W2) _).cell (World.block_lt_of_cell? W2 _ hHeld.2.2)).trans hHeld.2.2⟩ ?_
        refine on_ 11 46 (fun K hK => ?_)
        refine Owned.app_step (Kd.int .i64) HO2.out (j := 4) rfl qa.1 [.int .i64 qa.1] (i64cs _ _ _) (.tmp 36) (.tmp 45) 29 (.int .i64 0) 8 Try.underlying29 info3 rfl (by decide) (by decide) (small8 LP.out (Nat.le_of_lt HI.out) T.out) ?_ (by rfl) rfl rfl rfl
        intro v1 W3 h3
        obtain ⟨Z0, e0, rfl⟩ := row_slice (h3.get (j := 4) rfl)
        have HO3 := Aside0.mk h3
        clear h3 HO2 hHeld
        obtain ⟨y0, y1, y2, y3, y4, y5, f0, f1, f2, f3, f4, f5⟩ := blkA6 (HO3.out.blk (j := 3) rfl)
        obtain ⟨z0, z1, z2, z3, z4, _⟩ := blkA5 (HO3.out.blk (j := 0) rfl)
        refine hK.out _ _ ⟨y0, z0, pw_in HO3.out XT.out⟩ (fun _ => ?_)
        clear hK K z0 z1 z2 z3 z4
        refine nm_ 46 ?_
        refine pu_ 12 47 ?_
        refine last_ (i := 13) (N := none) #[true, true, true, true, true, true, true, true, true, true, true, true, true, true] rfl rfl (one_of HT_.out (by kernel_rfl)) (by decide) (fun K hK => ?_)
        refine skip_ (w1 := W3.setCell ⟨g7, 0, none⟩ (.slice Z0 (P ++ [qa.1]).length e0)) (by rfl) rfl ?hs9 ?hl9
        case hs9 => first | (go_simp; done) | (go_simp; rfl)
        have HO : Aside0 (Owned w (rdP w.heap.size g4 g6 g7 [.slice (some at_) p.th.length c0, .slice (some ag) p.rg.length c1, .slice A2 p.lo.length c2, .slice A3 p.r0.length c3, .slice A4 p.m0.length c4] s qa.2 (boxS (.slice Z0 (P ++ [qa.1]).length e0) (.slice V1 Q.length d1) (.slice V2 R.length d2) (.slice none 0 0) (.slice none 0 0) 0) (.slice Z0 (P ++ [qa.1]).length e0) (.slice V1 Q.length d1) (.slice V2 R.length d2) (.slice none 0 0) (.slice none 0 0) (P ++ [qa.1]) Q R [] []) (W3.setCell ⟨g7, 0, none⟩ (.slice Z0 (P ++ [qa.1]).length e0))) := ⟨HO3.out.cell (j := 3) rfl 0 _⟩
        refine hK.out _ _ ?_
        refine done_ (done_of HT_.out (by kernel_rfl)) ?_
        clear hK K HO3 y0 y1 y2 y3 y4 y5 f0 f1 f2 f3 f4 f5
        generalize World.setCell _ _ _ = W4 at HO ⊢
        go_upto_region 10 with fail
        have HOd := Aside0.mk HO.out.drew
        clear HO
        have HO := HOd
        clear HOd
        obtain ⟨y0, y1, y2, y3, y4, y5, f0, f1, f2, f3, f4, f5⟩ := blkA6 (HO.out.blk (j := 3) rfl)
        obtain ⟨qb, hqb⟩ : ∃ q, smallM s 2 qa.2 = q := ⟨_, rfl⟩
        have HQqb := Aside0.mk hqb
        clear hqb
        refine start_ (n := 8) (S := fun w' => w'.cell? ⟨g7, 1, none⟩ = some (.slice V1 Q.length d1)) (ds := [7]) #[false, false, false, false, false, false, false, false] (by kernel_rfl) rfl rfl y1 (fun hHeld => ?_); refine with_tabW rd_tab10 rd_bits10 (fun HT_ HW_ => ?_)
        clear y0 y1 y2 y3 y4 y5 f0 f1 f2 f3 f4 f5
        generalize World.drew _ = W1 at HO hHeld ⊢
        refine pu_ 0 48 ?_
        refine ta_ 1 49 ?_ hHeld
        refine pu_ 2 50 ?_
        refine on_ 3 51 (fun K hK => ?_)
        refine goes_ Try.func48 (by kernel_rfl) rfl #[.pointer (some ⟨g6, 0, none⟩), .int .i64 2] (by rfl) rfl rfl ag_ ?_
        refine (small_o S.out HO.out (j := 2) rfl 2).mono ?_
        rw [HQqb.out]
        rintro e W2 ⟨rfl, h2⟩
        refine ⟨_, rfl, ?_⟩
        have HO2 : Aside0 (Owned w (rdP w.heap.size g4 g6 g7 [.slice (some at_) p.th.length c0, .slice (some ag) p.rg.length c1, .slice A2 p.lo.length c2, .slice A3 p.r0.length c3, .slice A4 p.m0.length c4] s qb.2 (boxS (.slice Z0 (P ++ [qa.1]).length e0) (.slice V1 Q.length d1) (.slice V2 R.length d2) (.slice none 0 0) (.slice none 0 0) 0) (.slice Z0 (P ++ [qa.1]).length e0) (.slice V1 Q.length d1) (.slice V2 R.length d2) (.slice none 0 0) (.slice none 0 0) (P ++ [qa.1]) Q R [] []) W2) := ⟨h2⟩
        clear h2 HO
        obtain ⟨y0, y1, y2, y3, y4, y5, _⟩ := blkA6 (HO2.out.blk (j := 3) rfl)
        refine hK.out _ _ y1 (fun hHeld => ?_)
        clear hK K y0 y1 y2 y3 y4 y5
        refine nm_ 51 ?_
        refine li_ (e := 3) (cs := [.int .i64 qb.1].toArray) 4 52 (((below_alloc (Below.refl W2.heap.size W2) _).cell (World.block_lt_of_cell? W2 _ hHeld)).trans hHeld) ?_
        refine on_ 5 53 (fun K hK => ?_)
        refine Owned.app_step (Kd.int .i64) HO2.out (j := 5) rfl qb.1 [.int .i64 qb.1] (i64cs _ _ _) (.tmp 49) (.tmp 52) 29 (.int .i64 0) 8 Try.underlying29 info3 rfl (by decide) (by decide) (small8 LQ.out (Nat.le_of_lt HI.out) T.out) ?_ (by rfl) rfl rfl rfl
        intro v1 W3 h3
        obtain ⟨Z1, e1, rfl⟩ := row_slice (h3.get (j := 5) rfl)
        have HO3 := Aside0.mk h3
        clear h3 HO2 hHeld
        obtain ⟨y0, y1, y2, y3, y4, y5, f0, f1, f2, f3, f4, f5⟩ := blkA6 (HO3.out.blk (j := 3) rfl)
        refine hK.out _ _ y1 (fun _ => ?_)
        clear hK K
        refine nm_ 53 ?_
        refine pu_ 6 54 ?_
        refine last_ (i := 7) (N := none) #[true, true, true, true, true, true, true, true] rfl rfl (one_of HT_.out (by kernel_rfl)) (by decide) (fun K hK => ?_)
        refine skip_ (w1 := W3.setCell ⟨g7, 1, none⟩ (.slice Z1 (Q ++ [qb.1]).length e1)) (by rfl) rfl ?hs10 ?hl10
        case hs10 => first | (go_simp; done) | (go_simp; rfl)
        have HO : Aside0 (Owned w (rdP w.heap.size g4 g6 g7 [.slice (some at_) p.th.length c0, .slice (some ag) p.rg.length c1, .slice A2 p.lo.length c2, .slice A3 p.r0.length c3, .slice A4 p.m0.length c4] s qb.2 (boxS (.slice Z0 (P ++ [qa.1]).length e0) (.slice Z1 (Q ++ [qb.1]).length e1) (.slice V2 R.length d2) (.slice none 0 0) (.slice none 0 0) 0) (.slice Z0 (P ++ [qa.1]).length e0) (.slice Z1 (Q ++ [qb.1]).length e1) (.slice V2 R.length d2) (.slice none 0 0) (.slice none 0 0) (P ++ [qa.1]) (Q ++ [qb.1]) R [] []) (W3.setCell ⟨g7, 1, none⟩ (.slice Z1 (Q ++ [qb.1]).length e1))) := ⟨HO3.out.cell (j := 3) rfl 1 _⟩
        refine hK.out _ _ ?_
        refine done_ (done_of HT_.out (by kernel_rfl)) ?_
        clear hK K HO3 y0 y1 y2 y3 y4 y5 f0 f1 f2 f3 f4 f5
        generalize World.setCell _ _ _ = W4 at HO ⊢
        generalize hP1 : P ++ [qa.1] = P1 at HO ⊢
        generalize hQ1 : Q ++ [qb.1] = Q1 at HO ⊢
        have HP1 := Aside0.mk hP1
        have HQ1 := Aside0.mk hQ1
        clear hP1 hQ1
        obtain ⟨m, hm⟩ : ∃ m, (rd_L4 p.rg (i : Int)).length = m := ⟨_, rfl⟩
        have HM := Aside0.mk hm
        have HM8 : Aside0 (m ≤ 8) := ⟨by rw [← hm]; exact RG.out i⟩
        have HW := Aside0.mk (HO.out.with (p := .row (Kd.int .i64) 2 (.slice none 0 0) []) (fun ok => Kd.R_nil _ _ _ _ _))
        clear hm
        go_wp2_with fail
        go_loopw [10, 11] (fun v x W => ∃ k : Nat, x = .int .i64 k ∧ k ≤ m ∧ Aside0 (∃ (r : RS) (D : List Int), D.length = k ∧ G1 s p (i + 1) P1 Q1 R D (m - k) r = RES ∧ Owned w (rdP w.heap.size g4 g6 g7 [.slice (some at_) p.th.length c0, .slice (some ag) p.rg.length c1, .slice A2 p.lo.length c2, .slice A3 p.r0.length c3, .slice A4 p.m0.length c4] s r (boxS (.slice Z0 P1.length e0) (.slice Z1 Q1.length e1) (.slice V2 R.length d2) (.slice none 0 0) (.slice none 0 0) 0) (.slice Z0 P1.length e0) (.slice Z1 Q1.length e1) (.slice V2 R.length d2) (.slice none 0 0) (.slice none 0 0) P1 Q1 R [] [] ++ [.row (Kd.int .i64) 2 v D]) W)) (fun _ x _ => m - (intOf x).toNat)
        case atStart => exact ⟨0, rfl, Nat.zero_le _, ⟨qb.2, [], rfl, by rw [← HE.out, G0_step G.out HI.out, HQqa.out, HQqb.out, HM.out, ← HP1.out, ← HQ1.out]; rfl, HW.out⟩⟩
        case round =>
          clear HW HO
          obtain ⟨k, rfl, hk, HX⟩ := hrel
          obtain ⟨r, D, lD, hE, hO⟩ := HX.out
          have HO := Aside0.mk hO
          have HE1 := Aside0.mk hE
          have LD := Aside0.mk lD
          clear HX hO hE lD
          obtain ⟨z0, z1, z2, z3, z4, _⟩ := blkA5 (HO.out.blk (j := 0) rfl)
          have xg := pw_in HO.out XG.out
          rw [HM.out] at xg
          have hig : (i : Int) < (p.rg.length : Int) := by rw [G.out]; exact Int.ofNat_lt.2 HI.out
          by_cases hlk : k < m
          · have HK := Aside0.mk hlk
            have hw := wrapN hlk (Nat.le_trans HM8.out (by decide))
            go_wp2_with (first
              | (go_at_call 49; (with_reducible refine (take_o S.out HO.out (j := 2) rfl).mono ?_); rintro e W6 ⟨rfl, h6⟩; have H6 := Aside0.mk h6; clear h6)
              | ((with_reducible refine gate_builtin (b := .append) (xs := #[.tmp 65, .tmp 68]) rfl ?_); at_builtin; refine Owned.app (Kd.int .i64) H6.out (j := 9) rfl (valM s r).1 [.int .i64 (valM s r).1] (i64cs _ _ _) (.tmp 65) (.tmp 68) 26 (.int .i64 0) 8 Try.underlying26 info2 rfl (by decide) (by decide) (small88 LD.out HK.out HM8.out) ?_ rfl rfl rfl rfl; intro v1 W7 h7; have H7 := Aside0.mk h7; clear h7))
            go_roundw
            case rel => exact ⟨k + 1, by rw [hw]; rfl, HK.out, ⟨(valM s r).2, D ++ [(valM s r).1], by rw [List.length_append, LD.out]; rfl, by rw [← HE1.out, sub_split HK.out, G1_step], H7.out⟩⟩
            case measure => rw [hw]; exact nat_dec HK.out
          · have hkm : k = m := Nat.le_antisymm hk (Nat.le_of_not_lt hlk)
            subst hkm
            obtain ⟨Yv, dv, rfl⟩ := row_slice (HO.out.get (j := 9) rfl)
            have HE2 : Aside0 (G0 s p (i + 1) P1 Q1 (R ++ [D]) r = RES) := ⟨by rw [← HE1.out, Nat.sub_self, G1_end]⟩
            have hw := wrapN HI.out N0.out
            obtain ⟨y0, y1, y2, y3, y4, y5, f0, f1, f2, f3, f4, f5⟩ := blkA6 (HO.out.blk (j := 3) rfl)
            go_wp2_with ((with_reducible refine gate_builtin (b := .append) (xs := #[.tmp 71, .tmp 73]) rfl ?_); at_builtin; refine Owned.push (Kd.int .i64) HO.out (j := 6) (jr := 9) (by decide) rfl rfl (.tmp 71) (.tmp 73) 25 Try.underlying25 info26 (small_lt LR.out HI.out T.out) ?_ rfl rfl rfl rfl; intro v1 W7 h7; clear y0 y1 y2 y3 y4 y5 f0 f1 f2 f3 f4 f5; obtain ⟨Z2, e2, ez⟩ := rows_slice (h7.get (j := 6) rfl); rw [List.length_append, List.length_singleton] at ez; subst ez; have H7 := Aside0.mk (h7.cut 9); obtain ⟨y0, y1, y2, y3, y4, y5, f0, f1, f2, f3, f4, f5⟩ := blkA6 (h7.blk (j := 3) rfl); clear h7)
            go_roundw
            case rel => exact ⟨i + 1, by rw [hw]; rfl, HI.out, ⟨r, .slice Z0 P1.length e0, .slice Z1 Q1.length e1, .slice Z2 (R.length + 1) e2, P1, Q1, R ++ [D], by rw [← HP1.out, List.length_append, LP.out]; rfl, by rw [← HQ1.out, List.length_append, LQ.out]; rfl, by rw [List.length_append, LR.out]; rfl, HE2.out, H7.out.cell (j := 3) rfl 2 (.slice Z2 (R.length + 1) e2)⟩⟩
            case measure => rw [hw]; exact nat_dec HI.out
      · have hin : i = p.th.length := Nat.le_antisymm hi (Nat.le_of_not_lt hlt)
        have HE2 : Aside0 (G2 s p P Q R [] p.lo.length r = RES) := ⟨by rw [← HE.out, hin, G0_end G.out]⟩
        have LB : Aside0 (P.length = p.th.length) := ⟨LP.out.trans hin⟩
        clear hin hi HE LP LQ LR
        go_wp2_with fail
        clear z0 z1 z2 z3 z4
        go_loopw [12] (fun v W => ∃ k : Nat, v = .int .i64 k ∧ k ≤ p.lo.length ∧ Aside0 (∃ (r : RS) (vm : Value) (D : List Int), D.length = k ∧ G2 s p P Q R D (p.lo.length - k) r = RES ∧ Owned w (rdP w.heap.size g4 g6 g7 [.slice A0 p.th.length c0, .slice A1 p.rg.length c1, .slice A2 p.lo.length c2, .slice A3 p.r0.length c3, .slice A4 p.m0.length c4] s r (boxS (.slice V0 P.length d0) (.slice V1 Q.length d1) (.slice V2 R.length d2) vm (.slice none 0 0) 0) (.slice V0 P.length d0) (.slice V1 Q.length d1) (.slice V2 R.length d2) vm (.slice none 0 0) P Q R D []) W)) (fun v _ => p.lo.length - (intOf v).toNat)
        case atStart => exact ⟨0, rfl, Nat.zero_le _, ⟨r, _, [], rfl, HE2.out, HO.out⟩⟩
        case round =>
          clear HO HE2
          obtain ⟨k, rfl, hk, HX⟩ := hrel
          obtain ⟨r, vm, D, lD, hE, hO⟩ := HX.out
          have HO := Aside0.mk hO
          have HE1 := Aside0.mk hE
          have LD := Aside0.mk lD
          obtain ⟨Vm, dm, rfl⟩ := row_slice (HO.out.get (j := 7) rfl)
          clear HX hO hE lD hlt
          obtain ⟨z0, z1, z2, z3, z4, _⟩ := blkA5 (HO.out.blk (j := 0) rfl)
          by_cases hlk : k < p.lo.length
          · have HK := Aside0.mk hlk
            have hw := wrapN hlk (le_max (Nat.le_trans L.out (by decide)))
            go_upto_region 20 with fail
            clear z0 z1 z2 z3 z4
            have HOd := Aside0.mk HO.out.drew
            clear HO
            have HO := HOd
            clear HOd
            obtain ⟨y0, y1, y2, y3, y4, y5, f0, f1, f2, f3, f4, f5⟩ := blkA6 (HO.out.blk (j := 3) rfl)
            obtain ⟨qm, hqm⟩ : ∃ q, valM s r = q := ⟨_, rfl⟩
            have HQqm := Aside0.mk hqm
            clear hqm
            refine start_ (n := 8) (S := fun w' => w'.cell? ⟨g7, 3, none⟩ = some (.slice Vm D.length dm)) (ds := [7]) #[false, false, false, false, false, false, false, false] (by kernel_rfl) rfl rfl y3 (fun hHeld => ?_); refine with_tabW rd_tab20 rd_bits20 (fun HT_ HW_ => ?_)
            clear y0 y1 y2 y3 y4 y5 f0 f1 f2 f3 f4 f5
            generalize World.drew _ = W1 at HO hHeld ⊢
            refine pu_ 0 83 ?_
            refine ta_ 1 84 ?_ hHeld
            refine pu_ 2 85 ?_
            refine on_ 3 86 (fun K hK => ?_)
            refine goes_ Try.func49 (by kernel_rfl) rfl #[.pointer (some ⟨g6, 0, none⟩)] (by rfl) rfl rfl ag_ ?_
            refine (take_o S.out HO.out (j := 2) rfl).mono ?_
            rw [HQqm.out]
            rintro e W2 ⟨rfl, h2⟩
            refine ⟨_, rfl, ?_⟩
            have HO2 : Aside0 (Owned w (rdP w.heap.size g4 g6 g7 [.slice A0 p.th.length c0, .slice A1 p.rg.length c1, .slice A2 p.lo.length c2, .slice A3 p.r0.length c3, .slice A4 p.m0.length c4] s qm.2 (boxS (.slice V0 P.length d0) (.slice V1 Q.length d1) (.slice V2 R.length d2) (.slice Vm D.length dm) (.slice none 0 0) 0) (.slice V0 P.length d0) (.slice V1 Q.length d1) (.slice V2 R.length d2) (.slice Vm D.length dm) (.slice none 0 0) P Q R D []) W2) := ⟨h2⟩
            clear h2 HO
            obtain ⟨y0, y1, y2, y3, y4, y5, _⟩ := blkA6 (HO2.out.blk (j := 3) rfl)
            refine hK.out _ _ y3 (fun hHeld => ?_)
            clear hK K y0 y1 y2 y3 y4 y5
            refine nm_ 86 ?_
            refine li_ (e := 2) (cs := [.int .i64 qm.1].toArray) 4 87 (((below_alloc (Below.refl W2.heap.size W2) _).cell (World.block_lt_of_cell? W2 _ hHeld)).trans hHeld) ?_
            refine on_ 5 88 (fun K hK => ?_)
            refine Owned.app_step (Kd.int .i64) HO2.out (j := 7) rfl qm.1 [.int .i64 qm.1] (i64cs _ _ _) (.tmp 84) (.tmp 87) 26 (.int .i64 0) 8 Try.underlying26 info2 rfl (by decide) (by decide) (small16 LD.out HK.out L.out) ?_ (by rfl) rfl rfl rfl
            intro v1 W3 h3
            obtain ⟨Zm, em, rfl⟩ := row_slice (h3.get (j := 7) rfl)
            have HO3 := Aside0.mk h3
            clear h3 HO2 hHeld
            obtain ⟨y0, y1, y2, y3, y4, y5, f0, f1, f2, f3, f4, f5⟩ := blkA6 (HO3.out.blk (j := 3) rfl)
            refine hK.out _ _ y3 (fun _ => ?_)
            clear hK K
            refine nm_ 88 ?_
            refine pu_ 6 89 ?_
            refine last_ (i := 7) (N := none) #[true, true, true, true, true, true, true, true] rfl rfl (one_of HT_.out (by kernel_rfl)) (by decide) (fun K hK => ?_)
            refine skip_ (w1 := W3.setCell ⟨g7, 3, none⟩ (.slice Zm (D ++ [qm.1]).length em)) (by rfl) rfl ?hs20 ?hl20
            case hs20 => first | (go_simp; done) | (go_simp; rfl)
            have HO : Aside0 (Owned w (rdP w.heap.size g4 g6 g7 [.slice A0 p.th.length c0, .slice A1 p.rg.length c1, .slice A2 p.lo.length c2, .slice A3 p.r0.length c3, .slice A4 p.m0.length c4] s qm.2 (boxS (.slice V0 P.length d0) (.slice V1 Q.length d1) (.slice V2 R.length d2) (.slice Zm (D ++ [qm.1]).length em) (.slice none 0 0) 0) (.slice V0 P.length d0) (.slice V1 Q.length d1) (.slice V2 R.length d2) (.slice Zm (D ++ [qm.1]).length em) (.slice none 0 0) P Q R (D ++ [qm.1]) []) (W3.setCell ⟨g7, 3, none⟩ (.slice Zm (D ++ [qm.1]).length em))) := ⟨HO3.out.cell (j := 3) rfl 3 _⟩
            refine hK.out _ _ ?_
            refine done_ (done_of HT_.out (by kernel_rfl)) ?_
            clear hK K HO3 y0 y1 y2 y3 y4 y5 f0 f1 f2 f3 f4 f5
            generalize World.setCell _ _ _ = W4 at HO ⊢
            go_wp2_with fail
            go_roundw
            case rel => exact ⟨k + 1, by rw [hw]; rfl, HK.out, ⟨qm.2, _, D ++ [qm.1], by rw [List.length_append, LD.out]; rfl, by rw [← HE1.out, sub_split HK.out, G2_step, HQqm.out], HO.out⟩⟩
            case measure => rw [hw]; exact nat_dec HK.out
          · have hkm : k = p.lo.length := Nat.le_antisymm hk (Nat.le_of_not_lt hlk)
            have HE3 : Aside0 (G3 s p P Q R D [] p.th.length r = RES) := ⟨by rw [← HE1.out, hkm, Nat.sub_self, G2_end]⟩
            clear hkm hk HE1 LD
            go_wp2_with fail
            clear z0 z1 z2 z3 z4
            go_loopw [13] (fun v W => ∃ j : Nat, v = .int .i64 j ∧ j ≤ p.th.length ∧ Aside0 (∃ (r : RS) (vb : Value) (B : List (List S59)), B.length = j ∧ G3 s p P Q R D B (p.th.length - j) r = RES ∧ Owned w (rdP w.heap.size g4 g6 g7 [.slice A0 p.th.length c0, .slice A1 p.rg.length c1, .slice A2 p.lo.length c2, .slice A3 p.r0.length c3, .slice A4 p.m0.length c4] s r (boxS (.slice V0 P.length d0) (.slice V1 Q.length d1) (.slice V2 R.length d2) (.slice Vm D.length dm) vb 0) (.slice V0 P.length d0) (.slice V1 Q.length d1) (.slice V2 R.length d2) (.slice Vm D.length dm) vb P Q R D B) W)) (fun v _ => p.th.length - (intOf v).toNat)
            case atStart => exact ⟨0, rfl, Nat.zero_le _, ⟨r, _, [], rfl, HE3.out, HO.out⟩⟩
            case round =>
              clear HO HE3
              obtain ⟨j, rfl, hj, HX⟩ := hrel
              obtain ⟨r, vb, B, lB, hE, hO⟩ := HX.out
              have HO := Aside0.mk hO
              have HE := Aside0.mk hE
              have LBB := Aside0.mk lB
              obtain ⟨VB, db, rfl⟩ := rows_slice (HO.out.get (j := 8) rfl)
              clear HX hO hE lB hlk
              obtain ⟨z0, z1, z2, z3, z4, _⟩ := blkA5 (HO.out.blk (j := 0) rfl)
              by_cases hlt : j < p.th.length
              · have HJ := Aside0.mk hlt
                obtain ⟨⟨qv, r2⟩, hq⟩ : ∃ q, smallM s 64 r = q := ⟨_, rfl⟩
                have hrg : 0 ≤ qv ∧ qv ≤ 64 := by
                  have := smallM_range (s := s) (show (0 : Int) ≤ 64 by decide) r
                  rw [hq] at this
                  exact this
                obtain ⟨nn, rfl, hn64⟩ := nat_of hrg.1 hrg.2
                have HQ := Aside0.mk hq
                have N64 := Aside0.mk hn64
                clear hq hrg hn64
                go_upto_region 26 with (go_at_call 48; (with_reducible refine (small_o S.out HO.out (j := 2) rfl 64).mono ?_); rw [HQ.out]; rintro e W6 ⟨rfl, h6⟩; have H6 : Aside0 (Owned w (rdP w.heap.size g4 g6 g7 [.slice A0 p.th.length c0, .slice A1 p.rg.length c1, .slice A2 p.lo.length c2, .slice A3 p.r0.length c3, .slice A4 p.m0.length c4] s r2 (boxS (.slice V0 P.length d0) (.slice V1 Q.length d1) (.slice V2 R.length d2) (.slice Vm D.length dm) (.slice VB B.length db) 0) (.slice V0 P.length d0) (.slice V1 Q.length d1) (.slice V2 R.length d2) (.slice Vm D.length dm) (.slice VB B.length db) P Q R D B) W6) := ⟨h6⟩; clear h6)
                have HW := Aside0.mk (H6.out.with (p := .row k59 59 (.slice none 0 0) []) (fun ok => Kd.R_nil _ _ _ _ _))
                clear HO H6 z0 z1 z2 z3 z4
                go_wp2_with fail
                go_loopw [14, 16] (fun v x W => ∃ k : Nat, x = .int .i64 k ∧ k ≤ nn ∧ Aside0 (∃ (r : RS) (E : List S59), E.length = k ∧ G4 s p P Q R D B (p.th.length - (j + 1)) E (nn - k) r = RES ∧ Owned w (rdP w.heap.size g4 g6 g7 [.slice A0 p.th.length c0, .slice A1 p.rg.length c1, .slice A2 p.lo.length c2, .slice A3 p.r0.length c3, .slice A4 p.m0.length c4] s r (boxS (.slice V0 P.length d0) (.slice V1 Q.length d1) (.slice V2 R.length d2) (.slice Vm D.length dm) (.slice VB B.length db) 0) (.slice V0 P.length d0) (.slice V1 Q.length d1) (.slice V2 R.length d2) (.slice Vm D.length dm) (.slice VB B.length db) P Q R D B ++ [.row k59 59 v E]) W)) (fun _ x _ => nn - (intOf x).toNat)
                case atStart => exact ⟨0, rfl, Nat.zero_le _, ⟨r2, [], rfl, by rw [← HE.out, sub_split HJ.out, G3_step, HQ.out]; rfl, HW.out⟩⟩
                case round =>
                  clear HW HE
                  obtain ⟨k, rfl, hk, HX⟩ := hrel
                  obtain ⟨⟨rat, rbad⟩, E, lE, hE, hO⟩ := HX.out
                  have HO := Aside0.mk hO
                  have HE1 := Aside0.mk hE
                  have LE := Aside0.mk lE
                  obtain ⟨Yv, dv, rfl⟩ := row_slice (HO.out.get (j := 9) rfl)
                  clear HX hO hE lE hlt
                  obtain ⟨z0, z1, z2, z3, z4, _⟩ := blkA5 (HO.out.blk (j := 0) rfl)
                  obtain ⟨x0, x1, x2, _⟩ := blkA3 (HO.out.blk (j := 2) rfl)
                  by_cases hlk : k < nn
                  · have HK := Aside0.mk hlk
                    cases rbad with
                    | true =>
                      have HE3 : Aside0 (G3 s p P Q R D (B ++ [E]) (p.th.length - (j + 1)) (rat, true) = RES) := ⟨by rw [← HE1.out, G4_end (.inr rfl)]⟩
                      have hw := wrapN HJ.out N0.out
                      obtain ⟨y0, y1, y2, y3, y4, y5, f0, f1, f2, f3, f4, f5⟩ := blkA6 (HO.out.blk (j := 3) rfl)
                      go_wp2_with ((with_reducible refine gate_builtin (b := .append) (xs := #[.tmp 125, .tmp 127]) rfl ?_); at_builtin; refine Owned.push k59 HO.out (j := 8) (jr := 9) (by decide) rfl rfl (.tmp 125) (.tmp 127) 40 Try.underlying40 info57 (b59_lt LBB.out HJ.out T.out) ?_ rfl rfl rfl rfl; intro v1 W7 h7; clear y0 y1 y2 y3 y4 y5 f0 f1 f2 f3 f4 f5; obtain ⟨Z2, e2, ez⟩ := rows_slice (h7.get (j := 8) rfl); rw [List.length_append, List.length_singleton] at ez; subst ez; have H7 := Aside0.mk (h7.cut 9); obtain ⟨y0, y1, y2, y3, y4, y5, f0, f1, f2, f3, f4, f5⟩ := blkA6 (h7.blk (j := 3) rfl); clear h7)
                      go_roundw
                      case rel => exact ⟨j + 1, by rw [hw]; rfl, HJ.out, ⟨(rat, true), .slice Z2 (B.length + 1) e2, B ++ [E], by rw [List.length_append, LBB.out]; rfl, HE3.out, H7.out.cell (j := 3) rfl 4 (.slice Z2 (B.length + 1) e2)⟩⟩
                      case measure => rw [hw]; exact nat_dec HJ.out
                    | false =>
                      have hpw := pred_wrap (lo_small L.out)
                      have hw := wrapN hlk (le_max N64.out)
                      obtain ⟨⟨av, ra⟩, ha⟩ : ∃ a, smallM s ((p.lo.length : Int) - 1) (rat, false) = a := ⟨_, rfl⟩
                      have HA := Aside0.mk ha
                      obtain ⟨⟨bv, rb⟩, hv⟩ : ∃ v, valM s ra = v := ⟨_, rfl⟩
                      have HVV := Aside0.mk hv
                      clear ha hv
                      go_wp2_with (first
                        | (go_at_call 48; (with_reducible refine (small_o S.out HO.out (j := 2) rfl ((p.lo.length : Int) - 1)).mono ?_); rw [HA.out]; rintro e W6 ⟨rfl, h6⟩; have H6 : Aside0 (Owned w (rdP w.heap.size g4 g6 g7 [.slice A0 p.th.length c0, .slice A1 p.rg.length c1, .slice A2 p.lo.length c2, .slice A3 p.r0.length c3, .slice A4 p.m0.length c4] s ra (boxS (.slice V0 P.length d0) (.slice V1 Q.length d1) (.slice V2 R.length d2) (.slice Vm D.length dm) (.slice VB B.length db) 0) (.slice V0 P.length d0) (.slice V1 Q.length d1) (.slice V2 R.length d2) (.slice Vm D.length dm) (.slice VB B.length db) P Q R D B ++ [.row k59 59 (.slice Yv E.length dv) E]) W6) := ⟨h6⟩; clear h6)
                        | (go_at_call 49; (with_reducible refine (take_o S.out H6.out (j := 2) rfl).mono ?_); rw [HVV.out]; rintro e W8 ⟨rfl, h8⟩; have H8 : Aside0 (Owned w (rdP w.heap.size g4 g6 g7 [.slice A0 p.th.length c0, .slice A1 p.rg.length c1, .slice A2 p.lo.length c2, .slice A3 p.r0.length c3, .slice A4 p.m0.length c4] s rb (boxS (.slice V0 P.length d0) (.slice V1 Q.length d1) (.slice V2 R.length d2) (.slice Vm D.length dm) (.slice VB B.length db) 0) (.slice V0 P.length d0) (.slice V1 Q.length d1) (.slice V2 R.length d2) (.slice Vm D.length dm) (.slice VB B.length db) P Q R D B ++ [.row k59 59 (.slice Yv E.length dv) E]) W8) := ⟨h8⟩; clear h8)
                        | ((with_reducible refine gate_builtin (b := .append) (xs := #[.tmp 117, .tmp 122]) rfl ?_); at_builtin; refine Owned.app k59 H8.out (j := 9) rfl (⟨av, bv⟩ : S59) [.int .i64 av, .int .i64 bv] (fun _ => k59_mkM _ _ _ (⟨av, bv⟩ : S59)) (.tmp 117) (.tmp 122) 57 (.agg #[(.int .i64 0), (.int .i64 0)]) 16 Try.underlying57 info59 rfl (by decide) (by decide) (small59 LE.out HK.out N64.out) ?_ rfl rfl rfl rfl; intro v1 W9 h9; have H9 := Aside0.mk h9; clear h9))
                      go_roundw
                      case rel => exact ⟨k + 1, by rw [hw]; rfl, HK.out, ⟨rb, E ++ [(⟨av, bv⟩ : S59)], by rw [List.length_append, LE.out]; rfl, by rw [← HE1.out, sub_split HK.out, G4_step rfl, HA.out, HVV.out], H9.out⟩⟩
                      case measure => rw [hw]; exact nat_dec HK.out
                  · skip
                    have HE3 : Aside0 (G3 s p P Q R D (B ++ [E]) (p.th.length - (j + 1)) (rat, rbad) = RES) := ⟨by rw [← HE1.out, G4_end (.inl (Nat.sub_eq_zero_of_le (Nat.le_of_not_lt hlk)))]⟩
                    have hw := wrapN HJ.out N0.out
                    obtain ⟨y0, y1, y2, y3, y4, y5, f0, f1, f2, f3, f4, f5⟩ := blkA6 (HO.out.blk (j := 3) rfl)
                    go_wp2_with ((with_reducible refine gate_builtin (b := .append) (xs := #[.tmp 125, .tmp 127]) rfl ?_); at_builtin; refine Owned.push k59 HO.out (j := 8) (jr := 9) (by decide) rfl rfl (.tmp 125) (.tmp 127) 40 Try.underlying40 info57 (b59_lt LBB.out HJ.out T.out) ?_ rfl rfl rfl rfl; intro v1 W7 h7; clear y0 y1 y2 y3 y4 y5 f0 f1 f2 f3 f4 f5; obtain ⟨Z2, e2, ez⟩ := rows_slice (h7.get (j := 8) rfl); rw [List.length_append, List.length_singleton] at ez; subst ez; have H7 := Aside0.mk (h7.cut 9); obtain ⟨y0, y1, y2, y3, y4, y5, f0, f1, f2, f3, f4, f5⟩ := blkA6 (h7.blk (j := 3) rfl); clear h7)
                    go_roundw
                    case rel => exact ⟨j + 1, by rw [hw]; rfl, HJ.out, ⟨(rat, rbad), .slice Z2 (B.length + 1) e2, B ++ [E], by rw [List.length_append, LBB.out]; rfl, HE3.out, H7.out.cell (j := 3) rfl 4 (.slice Z2 (B.length + 1) e2)⟩⟩
                    case measure => rw [hw]; exact nat_dec HJ.out
              · have hjn : j = p.th.length := Nat.le_antisymm hj (Nat.le_of_not_lt hlt)
                have HF0 : Aside0 (finN s p.th.length P Q R D B r = RES) := ⟨by rw [← HE.out, hjn, Nat.sub_self, G3_end]⟩
                obtain ⟨⟨lv, lat, lbad⟩, hv⟩ : ∃ v, valM s r = v := ⟨_, rfl⟩
                have HVV := Aside0.mk hv
                clear hv hjn
                go_upto_region 33 with (go_at_call 49; (with_reducible refine (take_o S.out HO.out (j := 2) rfl).mono ?_); rw [HVV.out]; rintro e W6 ⟨rfl, h6⟩; have H6 : Aside0 (Owned w (rdP w.heap.size g4 g6 g7 [.slice A0 p.th.length c0, .slice A1 p.rg.length c1, .slice A2 p.lo.length c2, .slice A3 p.r0.length c3, .slice A4 p.m0.length c4] s (lat, lbad) (boxS (.slice V0 P.length d0) (.slice V1 Q.length d1) (.slice V2 R.length d2) (.slice Vm D.length dm) (.slice VB B.length db) 0) (.slice V0 P.length d0) (.slice V1 Q.length d1) (.slice V2 R.length d2) (.slice Vm D.length dm) (.slice VB B.length db) P Q R D B) W6) := ⟨h6⟩; clear h6)
                clear z0 z1 z2 z3 z4 HO hlt hj
                have HO := H6
                clear H6
                obtain ⟨z0, z1, z2, z3, z4, _⟩ := blkA5 (HO.out.blk (j := 0) rfl)
                obtain ⟨x0, x1, x2, _⟩ := blkA3 (HO.out.blk (j := 2) rfl)
                cases lbad with
                | true =>
                  have HR : Aside0 (RES = readN 5) := ⟨by rw [← HF0.out, finN_no (by rw [HVV.out]; exact .inl rfl)]⟩
                  as_aux_lemma =>
                    have hb4 := HO.out.blk (j := 1) rfl
                    go_wp2_with (refine wpList_store_row rfl 42 (.tmp 4) (.tmp 156) rfl g4 (boxS (.slice none 0 0) (.slice none 0 0) (.slice none 0 0) (.slice none 0 0) (.slice none 0 0) 0) rfl rfl 42 _ hb4 nb_size rfl nb_one ?_)
                    have HF := Aside0.mk (HO.out.setAll (j := 1) rfl (boxS (.slice none 0 0) (.slice none 0 0) (.slice none 0 0) (.slice none 0 0) (.slice none 0 0) 0))
                    refine bodyPost_ret (results_ct rfl _ _ g4 42 _ (0, 0) _ rfl (HF.out.blk (j := 1) rfl) hu42 rfl (by kernel_rfl)) rfl ⟨.slice none 0 0, .slice none 0 0, .slice none 0 0, .slice none 0 0, .slice none 0 0, by rw [HR.out]; rfl, by rw [HR.out]; exact HF.out.nils⟩
                | false =>
                  by_cases hz : lat = (s.size : Int)
                  · subst hz
                    have hz2 : ((s.size : Int) != (s.size : Int)) = false := bne_eq_false_iff_eq.2 rfl
                    by_cases h1 : lv < -1
                    · have h1d : decide (lv < -1) = true := decide_eq_true h1
                      have HR : Aside0 (RES = readN 5) := ⟨by rw [← HF0.out, finN_no (by rw [HVV.out]; exact .inr (.inr (.inl h1)))]⟩
                      as_aux_lemma =>
                        have hb4 := HO.out.blk (j := 1) rfl
                        go_wp2_with (refine wpList_store_row rfl 42 (.tmp 4) (.tmp 156) rfl g4 (boxS (.slice none 0 0) (.slice none 0 0) (.slice none 0 0) (.slice none 0 0) (.slice none 0 0) 0) rfl rfl 42 _ hb4 nb_size rfl nb_one ?_)
                        have HF := Aside0.mk (HO.out.setAll (j := 1) rfl (boxS (.slice none 0 0) (.slice none 0 0) (.slice none 0 0) (.slice none 0 0) (.slice none 0 0) 0))
                        refine bodyPost_ret (results_ct rfl _ _ g4 42 _ (0, 0) _ rfl (HF.out.blk (j := 1) rfl) hu42 rfl (by kernel_rfl)) rfl ⟨.slice none 0 0, .slice none 0 0, .slice none 0 0, .slice none 0 0, .slice none 0 0, by rw [HR.out]; rfl, by rw [HR.out]; exact HF.out.nils⟩
                    · have h1d : decide (lv < -1) = false := decide_eq_false h1
                      by_cases h2 : (p.th.length : Int) ≤ lv
                      · have h2d : decide ((p.th.length : Int) ≤ lv) = true := decide_eq_true h2
                        have HR : Aside0 (RES = readN 5) := ⟨by rw [← HF0.out, finN_no (by rw [HVV.out]; exact .inr (.inr (.inr h2)))]⟩
                        as_aux_lemma =>
                          have hb4 := HO.out.blk (j := 1) rfl
                          go_wp2_with (refine wpList_store_row rfl 42 (.tmp 4) (.tmp 156) rfl g4 (boxS (.slice none 0 0) (.slice none 0 0) (.slice none 0 0) (.slice none 0 0) (.slice none 0 0) 0) rfl rfl 42 _ hb4 nb_size rfl nb_one ?_)
                          have HF := Aside0.mk (HO.out.setAll (j := 1) rfl (boxS (.slice none 0 0) (.slice none 0 0) (.slice none 0 0) (.slice none 0 0) (.slice none 0 0) 0))
                          refine bodyPost_ret (results_ct rfl _ _ g4 42 _ (0, 0) _ rfl (HF.out.blk (j := 1) rfl) hu42 rfl (by kernel_rfl)) rfl ⟨.slice none 0 0, .slice none 0 0, .slice none 0 0, .slice none 0 0, .slice none 0 0, by rw [HR.out]; rfl, by rw [HR.out]; exact HF.out.nils⟩
                      · have h2d : decide ((p.th.length : Int) ≤ lv) = false := decide_eq_false h2
                        have HR : Aside0 (RES = (P, Q, R, D, B, lv, 0)) := ⟨by rw [← HF0.out, finN_ok (by rw [HVV.out]; exact Bool.false_ne_true) (by rw [HVV.out]) (by rw [HVV.out]; exact h1) (by rw [HVV.out]; exact h2), HVV.out]⟩
                        obtain ⟨y0, y1, y2, y3, y4, y5, f0, f1, f2, f3, f4, f5⟩ := blkA6 (HO.out.blk (j := 3) rfl)
                        go_upto_region 36 with fail
                        have HO2 := Aside0.mk (HO.out.cell (j := 3) rfl 5 (.int .i64 lv))
                        clear y0 y1 y2 y3 y4 y5 f0 f1 f2 f3 f4 f5 z0 z1 z2 z3 z4 x0 x1 x2 HO
                        generalize World.setCell _ _ _ = W8 at HO2 ⊢
                        have HO : Aside0 (Owned w (rdP w.heap.size g4 g6 g7 [.slice A0 p.th.length c0, .slice A1 p.rg.length c1, .slice A2 p.lo.length c2, .slice A3 p.r0.length c3, .slice A4 p.m0.length c4] s ((s.size : Int), false) (boxS (.slice V0 P.length d0) (.slice V1 Q.length d1) (.slice V2 R.length d2) (.slice Vm D.length dm) (.slice VB B.length db) lv) (.slice V0 P.length d0) (.slice V1 Q.length d1) (.slice V2 R.length d2) (.slice Vm D.length dm) (.slice VB B.length db) P Q R D B) W8) := ⟨HO2.out⟩
                        clear HO2
                        have hb7 := HO.out.blk (j := 3) rfl
                        have hb4 := HO.out.blk (j := 1) rfl
                        go_wp2_with (first
                          | (refine wpList_load_row rfl 42 (.tmp 8) rfl g7 rfl 42 _ (0, 0) _ hb7 hu42 rfl (box_size ..) ?_)
                          | (refine wpList_store_row rfl 42 (.tmp 4) (.tmp 159) rfl g4 _ rfl rfl 42 _ hb4 (box_size ..) rfl (box_one ..) ?_))
                        have HF := Aside0.mk (HO.out.setAll (j := 1) rfl (boxS (.slice V0 P.length d0) (.slice V1 Q.length d1) (.slice V2 R.length d2) (.slice Vm D.length dm) (.slice VB B.length db) lv))
                        refine bodyPost_ret (results_ct rfl _ _ g4 42 _ (0, 0) _ rfl (HF.out.blk (j := 1) rfl) hu42 rfl (box_size ..)) rfl ⟨.slice V0 P.length d0, .slice V1 Q.length d1, .slice V2 R.length d2, .slice Vm D.length dm, .slice VB B.length db, by rw [HR.out]; rfl, by rw [HR.out]; exact HF.out.tail 4⟩
                  · have hz2 : (lat != (s.size : Int)) = true := bne_iff_ne.2 hz
                    have HR : Aside0 (RES = readN 5) := ⟨by rw [← HF0.out, finN_no (by rw [HVV.out]; exact .inr (.inl hz))]⟩
                    as_aux_lemma =>
                      have hb4 := HO.out.blk (j := 1) rfl
                      go_wp2_with (refine wpList_store_row rfl 42 (.tmp 4) (.tmp 156) rfl g4 (boxS (.slice none 0 0) (.slice none 0 0) (.slice none 0 0) (.slice none 0 0) (.slice none 0 0) 0) rfl rfl 42 _ hb4 nb_size rfl nb_one ?_)
                      have HF := Aside0.mk (HO.out.setAll (j := 1) rfl (boxS (.slice none 0 0) (.slice none 0 0) (.slice none 0 0) (.slice none 0 0) (.slice none 0 0) 0))
                      refine bodyPost_ret (results_ct rfl _ _ g4 42 _ (0, 0) _ rfl (HF.out.blk (j := 1) rfl) hu42 rfl (by kernel_rfl)) rfl ⟨.slice none 0 0, .slice none 0 0, .slice none 0 0, .slice none 0 0, .slice none 0 0, by rw [HR.out]; rfl, by rw [HR.out]; exact HF.out.nils⟩
  · have HR : Aside0 (RES = readN vv) := ⟨by rw [← E.out, if_neg hv0]⟩
    as_aux_lemma =>
      have hb4 := HO.out.blk (j := 1) rfl
      go_wp2_with (refine wpList_store_row rfl 42 (.tmp 4) (.tmp 23) rfl g4 (boxS (.slice none 0 0) (.slice none 0 0) (.slice none 0 0) (.slice none 0 0) (.slice none 0 0) 0) rfl rfl 42 _ hb4 nb_size rfl nb_one ?_)
      have HF := Aside0.mk (HO.out.setAll (j := 1) rfl (boxS (.slice none 0 0) (.slice none 0 0) (.slice none 0 0) (.slice none 0 0) (.slice none 0 0) 0))
      refine bodyPost_ret (results_ct rfl _ _ g4 42 _ (0, 0) _ rfl (HF.out.blk (j := 1) rfl) hu42 rfl (by kernel_rfl)) rfl ⟨.slice none 0 0, .slice none 0 0, .slice none 0 0, .slice none 0 0, .slice none 0 0, by rw [HR.out]; rfl, by rw [HR.out]; exact HF.out.nils⟩
end Go.Proofs.Ytemhpbdlonfikaa.P
/- States in memory of their own, and what weirref11.Read answers. -/
namespace Go.Proofs.Ytemhpbdlonfikaa.P
open Go Go.RowKit Go.Proofs.YtemhpbdlonfikaaW.PrintWords Go.Proofs.YtemhpbdlonfikaaW.PrintLast Go.Proofs.YtemhpbdlonfikaaW.PrintMore
abbrev toSt (u : StT) : St := ⟨u.1, u.2.1, u.2.2.1, u.2.2.2.1, u.2.2.2.2.1, u.2.2.2.2.2⟩
abbrev stOf (r : RdT) : StT := (r.1, r.2.1, r.2.2.1, r.2.2.2.1, r.2.2.2.2.1, r.2.2.2.2.2.1)
/-- A state in memory of its own, from a place on. -/
def StR (B : Nat) (W : World) (vs : List Value) (u : StT) : Prop :=
  ∃ v0 v1 v2 v3 v4 : Value, vs = [v0, v1, v2, v3, v4, .int .i64 u.2.2.2.2.2] ∧ Kd.R (Kd.int .i64) 3 W B (fun k => some k ≠ v1.ownBlock) v0 u.1 ∧ Kd.R (Kd.int .i64) 3 W B (fun k => some k ≠ v0.ownBlock) v1 u.2.1 ∧
    Kd.S (Kd.slice 2 (Kd.int .i64)) 26 W B (fun k => some k ≠ v3.ownBlock) v2 u.2.2.1 ∧ Kd.R (Kd.int .i64) 2 W B (fun _ => True) v3 u.2.2.2.1 ∧ Kd.S (Kd.slice 59 k59) 57 W B (fun _ => True) v4 u.2.2.2.2.1
theorem StR.step {B : Nat} {W W1 : World} {vs : List Value} {u : StT} (h : StR B W vs u) (hm : ∀ k, B ≤ k → k < W.heap.size → W1.heap[k]? = W.heap[k]?) : StR B W1 vs u := by
  obtain ⟨v0, v1, v2, v3, v4, rfl, h0, h1, h2, h3, h4⟩ := h
  exact ⟨v0, v1, v2, v3, v4, rfl, Kd.R_mono (Kd.R_step (Kd.R_bound h0) (fun k ho hk => hm k ho.2.1 hk)) (fun _ hk => hk.1), Kd.R_mono (Kd.R_step (Kd.R_bound h1) (fun k ho hk => hm k ho.2.1 hk)) (fun _ hk => hk.1),
    Kd.S_mono (Kd.S_step (Kd.S_bound h2) (fun k ho hk => hm k ho.2.1 hk)) (fun _ hk => hk.1), Kd.R_mono (Kd.R_step (Kd.R_bound h3) (fun k ho hk => hm k ho.2.1 hk)) (fun _ hk => hk.1),
    Kd.S_mono (Kd.S_step (Kd.S_bound h4) (fun k ho hk => hm k ho.2.1 hk)) (fun _ hk => hk.1)⟩
theorem StR.later {B : Nat} {W W1 : World} {vs : List Value} {u : StT} (h : StR B W vs u) (hb : Below W.heap.size W W1) : StR B W1 vs u := h.step (fun k _ hk => hb.block k hk)
theorem StR.read {B : Nat} {W : World} {vs : List Value} {u : StT} (h : StR B W vs u) : StV W vs (toSt u) := by
  obtain ⟨v0, v1, v2, v3, v4, rfl, h0, h1, h2, h3, h4⟩ := h
  obtain ⟨A0, c0, rfl, l0, k0⟩ := Kd.R_reads h0
  obtain ⟨A1, c1, rfl, l1, k1⟩ := Kd.R_reads h1
  obtain ⟨A2, c2, rfl, l2, k2⟩ := Kd.S_reads h2
  obtain ⟨A3, c3, rfl, l3, k3⟩ := Kd.R_reads h3
  obtain ⟨A4, c4, rfl, l4, k4⟩ := Kd.S_reads h4
  exact ⟨A0, A1, A2, A3, A4, c0, c1, c2, c3, c4, rfl, k0, l0, k1, l1, k2, l2, k3, l3, k4, l4⟩

theorem StR.own {w W : World} {v0 v1 v2 v3 v4 : Value} {P Q : List Int} {R : List (List Int)} {M : List Int} {B : List (List S59)} {K : Int}
    (h : Owned w [.row (Kd.int .i64) 3 v0 P, .row (Kd.int .i64) 3 v1 Q, .rows (Kd.int .i64) 26 v2 R 2, .row (Kd.int .i64) 2 v3 M, .rows k59 57 v4 B 59] W) : StR w.heap.size W [v0, v1, v2, v3, v4, .int .i64 K] (P, Q, R, M, B, K) := by
  obtain ⟨col, _, hc⟩ := h
  have h0 : Kd.R (Kd.int .i64) 3 W w.heap.size (fun k => col k = 0) v0 P := hc 0 _ rfl
  have h1 : Kd.R (Kd.int .i64) 3 W w.heap.size (fun k => col k = 1) v1 Q := hc 1 _ rfl
  have h2 : Kd.S (Kd.slice 2 (Kd.int .i64)) 26 W w.heap.size (fun k => col k = 2) v2 R := hc 2 _ rfl
  have h3 : Kd.R (Kd.int .i64) 2 W w.heap.size (fun k => col k = 3) v3 M := hc 3 _ rfl
  have h4 : Kd.S (Kd.slice 59 k59) 57 W w.heap.size (fun k => col k = 4) v4 B := hc 4 _ rfl
  refine ⟨v0, v1, v2, v3, v4, rfl, Kd.R_mono h0 (fun k hk e => ?_), Kd.R_mono h1 (fun k hk e => ?_), Kd.S_mono h2 (fun k hk e => ?_), Kd.R_mono h3 (fun _ _ => trivial), Kd.S_mono h4 (fun _ _ => trivial)⟩
  · have := h1.1 k e.symm; omega
  · have := h0.1 k e.symm; omega
  · have := h3.1 k e.symm; omega
/-- What Read answers, on both sides. -/
noncomputable def readA (p : Pg) (s : ByteArray) : RdT := if validM p = 0 then readR (stateM (tsP p) p.lo.length s) else readN (validM p)
/-- What a valid program's lengths are. -/
def LenP (p : Pg) : Prop := validM p = 0 → p.lo.length ≤ 16 ∧ p.th.length ≤ 4 ∧ p.rg.length = p.th.length ∧ ∀ i : Nat, (rd_L4 p.rg (i : Int)).length ≤ 8
theorem rread_c {w : World} {p : Pg} {pv : List Value} {s : ByteArray} (hp : PgV w pv p) (hL : LenP p) (hvr : Ev (fun k => weirref09_Valid.f k p.th p.rg p.lo p.r0 p.m0) (validM p)) (hs : s.size ≤ 4611686018427387904) :
    Calls Try.prog 17 #[.agg pv.toArray, .string s] w fun e W' => ∃ av, e = .returned (.tuple #[.agg av.toArray, .int .i64 (readA p s).2.2.2.2.2.2]) ∧ StR w.heap.size W' av (stOf (readA p s)) ∧ Below w.heap.size w W' := by
  have hr : (if validM p = 0 then G0 s p 0 [] [] [] ((0 : Int), false) else readN (validM p)) = readA p s := by
    unfold readA
    by_cases h : validM p = 0
    · rw [if_pos h, if_pos h, G0_start (hL h).2.2.1]
    · rw [if_neg h, if_neg h]
  refine (read_o hp hs hvr hL hr).mono ?_
  rintro e W' ⟨v0, v1, v2, v3, v4, rfl, hO⟩
  exact ⟨[v0, v1, v2, v3, v4, .int .i64 (readA p s).2.2.2.2.2.1], rfl, StR.own hO, hO.below⟩
end Go.Proofs.Ytemhpbdlonfikaa.P
/- The program's and the document's Code, Read and Start answer alike. -/

namespace Go.Proofs.Ytemhpbdlonfikaa.P
open Go Go.RowKit Go.Proofs.YtemhpbdlonfikaaW.PrintWords Go.Proofs.YtemhpbdlonfikaaW.PrintLast Go.Proofs.YtemhpbdlonfikaaW.PrintMore
variable {p : Pg} {P Q : List Int} {R : List (List Int)} {M : List Int} {B : List (List S59)} {K : Int}

/-- What Code answers. -/
noncomputable def codeA (p : Pg) (P Q : List Int) (R : List (List Int)) (M : List Int) (B : List (List S59)) (K : Int) : ByteArray × Int :=
  if validM p = 0 then (if isM p P Q R M B K = true then (textS (P, Q, R, M, B, K), 0) else (noText, 5)) else (noText, validM p)
theorem fit_nil : StFit (([] : List Int), ([] : List Int), ([] : List (List Int)), ([] : List Int), ([] : List (List S59)), (0 : Int)) := ⟨by decide, by decide, by decide, (fun x hx => by cases hx), by decide, by decide, (fun x hx => by cases hx)⟩
/-- What is read fits into memory. -/
theorem read_fit {s : ByteArray} (hs : s.size ≤ 4611686018427387904) : StFit ((readA p s).1, (readA p s).2.1, (readA p s).2.2.1, (readA p s).2.2.2.1, (readA p s).2.2.2.2.1, (readA p s).2.2.2.2.2.1) := by
  unfold readA
  by_cases hv : validM p = 0
  · rw [if_pos hv]
    cases hc : stateM (tsP p) p.lo.length s with
    | none => exact fit_nil
    | some u =>
      obtain ⟨P, Q, R, M, B, K⟩ := u
      obtain ⟨ok, _⟩ := read_inv hc hs
      have t := ok_text (few_of hv (valid_len hv)) ok
      have h1 : P.length ≤ 64 := t.lp
      have h2 : P.length = Q.length := t.lq
      have h3 : P.length = R.length := t.lr
      have h4 : M.length ≤ 64 := t.lm
      have h5 : B.length ≤ 64 := t.lb
      refine ⟨?_, ?_, ?_, fun x hx => ?_, ?_, ?_, fun x hx => ?_⟩
      · show P.length < _; omega
      · show Q.length < _; omega
      · show R.length < _; omega
      · have := t.lrr x hx; omega
      · show M.length < _; omega
      · show B.length < _; omega
      · have := t.lbb x hx; omega
  · rw [if_neg hv]
    exact fit_nil
end Go.Proofs.Ytemhpbdlonfikaa.P
