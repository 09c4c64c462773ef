/- sc.state, walked by hand. -/
import Derived.Test.YtemhpbdlonfikaaEa
import Derived.Test.YtemhpbdlonfikaaRp
namespace Go.Proofs.Ytemhpbdlonfikaa.P
open Go Go.RowKit Go.Proofs.YtemhpbdlonfikaaW.PrintWords Go.Proofs.YtemhpbdlonfikaaW.PrintLast Go.Proofs.YtemhpbdlonfikaaW.PrintMore
def rdr (s : ByteArray) (r : RS) : Array Value := #[.string s, .int .i64 r.1, .bool r.2]
theorem number_o {w W : World} {ps : List Part} {j g : Nat} {s : ByteArray} {r : RS} (hs : s.size ≤ 4611686018427387904) (h : Owned w ps W) (hj : ps[j]? = some (.box g 153 (rdr s r))) (lo hi : Int) :
    Calls Try.prog 91 #[.pointer (some ⟨g, 0, none⟩), .int .i64 lo, .int .i64 hi] W fun e W' => e = .returned (.int .i64 (numM s lo hi r).1) ∧ Owned w (ps.set j (.box g 153 (rdr s (numM s lo hi r).2))) W' := by
  obtain ⟨K, hK⟩ := (num_is hs lo hi r).rounds
  refine (sc_codes_number.calls K g s r.1 r.2 lo hi _ _ _ _ w W ⟨h.blk hj, (h.get hj).2.1⟩ h.below hK).mono ?_
  rintro e W' ⟨rfl, ⟨h1, _⟩, h2, h3⟩
  exact ⟨rfl, h.call hj h3 h2 h1⟩
theorem value_o {w W : World} {ps : List Part} {j g : Nat} {s : ByteArray} {r : RS} (hs : s.size ≤ 4611686018427387904) (h : Owned w ps W) (hj : ps[j]? = some (.box g 153 (rdr s r))) :
    Calls Try.prog 92 #[.pointer (some ⟨g, 0, none⟩)] W fun e W' => e = .returned (.int .i64 (valM s r).1) ∧ Owned w (ps.set j (.box g 153 (rdr s (valM s r).2))) W' := by
  obtain ⟨K, hK⟩ := (val_is hs r).rounds
  refine (sc_codes_value.calls K g s r.1 r.2 _ _ _ _ w W ⟨h.blk hj, (h.get hj).2.1⟩ h.below hK).mono ?_
  rintro e W' ⟨rfl, ⟨h1, _⟩, h2, h3⟩
  exact ⟨rfl, h.call hj h3 h2 h1⟩
def boxS (v0 v1 v2 v3 v4 : Value) (k : Int) : Array Value := #[v0, v1, v2, v3, v4, .int .i64 k]
/-- What sc.state holds: the program's variable, the answer's, the reader, the state that is made, its rows. -/
def stP (g2 g4 g6 g7 : Nat) (pv : List Value) (s : ByteArray) (r : RS) (u : Array Value) (v0 v1 v2 v3 v4 : Value) (P Q : List Int) (R : List (List Int)) (M : List Int) (B : List (List S59)) : List Part :=
  [.box g2 28 pv.toArray, .box g4 42 (boxS (.slice none 0 0) (.slice none 0 0) (.slice none 0 0) (.slice none 0 0) (.slice none 0 0) 0), .box g6 153 (rdr s r), .box g7 42 u,
    .row (Kd.int .i64) 3 v0 P, .row (Kd.int .i64) 3 v1 Q, .rows (Kd.int .i64) 26 v2 R 2, .row (Kd.int .i64) 2 v3 M, .rows k59 57 v4 B 59]
def stT6 : Bool × List (List Nat × List Nat) := (true, [([], []), ([0], [0]), ([], []), ([], []), ([3], [3]), ([2, 4], [2, 4]), ([5], [5]), ([1, 6, 5], [1, 6]), ([0, 1, 2, 3, 4, 5, 6, 7], []), ([8, 7, 7, 0, 1, 2, 3, 4, 5, 6, 7], [7, 8])])
def stB6 : List Nat := [0, 1, 0, 0, 8, 28, 60, 127, 255, 511]
theorem st_tab6 : rtab .any (opsOf Try.f47 6) = stT6 := by kernel_rfl
theorem st_bits6 : waitsOk stT6.2 stB6 = true := by kernel_rfl
def stT7 : Bool × List (List Nat × List Nat) := (true, [([], []), ([0], [0]), ([], []), ([2], [2]), ([3], [3]), ([1, 4, 3], [1, 4]), ([0, 1, 2, 3, 4, 5], []), ([6, 5, 5, 0, 1, 2, 3, 4, 5], [5, 6])])
def stB7 : List Nat := [0, 1, 0, 4, 12, 31, 63, 127]
theorem st_tab7 : rtab .any (opsOf Try.f47 7) = stT7 := by kernel_rfl
theorem st_bits7 : waitsOk stT7.2 stB7 = true := by kernel_rfl
def stT20 : Bool × List (List Nat × List Nat) := (true, [([], []), ([0], [0]), ([], []), ([], []), ([3], [3]), ([1, 2, 0, 1, 2, 3, 4], [1, 2]), ([5, 4, 4, 0, 1, 2, 3, 4], [4, 5])])
def stB20 : List Nat := [0, 1, 0, 0, 8, 31, 63]
theorem st_tab20 : rtab .any (opsOf Try.f47 20) = stT20 := by kernel_rfl
theorem st_bits20 : waitsOk stT20.2 stB20 = true := by kernel_rfl
theorem sz_alloc (w : World) (o : Obj) : (w.alloc o).heap.size = w.heap.size + 1 := Array.size_push _
theorem st_begin (w : World) (pv : List Value) (s : ByteArray) (W0 : World) (g4 g6 g7 : Nat) (h : W0 = (((w.alloc (.cells pv.toArray 28)).alloc (.cells (boxS (.slice none 0 0) (.slice none 0 0) (.slice none 0 0) (.slice none 0 0) (.slice none 0 0) 0) 42)).alloc (.cells (rdr s ((0 : Int), false)) 153)).alloc (.cells (boxS (.slice none 0 0) (.slice none 0 0) (.slice none 0 0) (.slice none 0 0) (.slice none 0 0) 0) 42))
    (h4 : g4 = w.heap.size + 1) (h6 : g6 = w.heap.size + 1 + 1) (h7 : g7 = w.heap.size + 1 + 1 + 1) :
    Owned w (stP w.heap.size g4 g6 g7 pv s ((0 : Int), false) (boxS (.slice none 0 0) (.slice none 0 0) (.slice none 0 0) (.slice none 0 0) (.slice none 0 0) 0) (.slice none 0 0) (.slice none 0 0) (.slice none 0 0) (.slice none 0 0) (.slice none 0 0) [] [] [] [] []) W0 := by
  have a := ((((Owned.nil w).box 28 pv.toArray).box 42 (boxS (.slice none 0 0) (.slice none 0 0) (.slice none 0 0) (.slice none 0 0) (.slice none 0 0) 0)).box 153 (rdr s ((0 : Int), false))).box 42 (boxS (.slice none 0 0) (.slice none 0 0) (.slice none 0 0) (.slice none 0 0) (.slice none 0 0) 0)
  rw [← h] at a
  simp only [sz_alloc] at a
  rw [← h7, ← h6, ← h4] at a
  have b := ((((a.with (p := .row (Kd.int .i64) 3 (.slice none 0 0) []) (fun ok => Kd.R_nil _ _ _ _ _)).with (p := .row (Kd.int .i64) 3 (.slice none 0 0) []) (fun ok => Kd.R_nil _ _ _ _ _)).with (p := .rows (Kd.int .i64) 26 (.slice none 0 0) [] 2) (fun ok => Kd.S_nil _ _ _ _ _)).with (p := .row (Kd.int .i64) 2 (.slice none 0 0) []) (fun ok => Kd.R_nil _ _ _ _ _)).with (p := .rows k59 57 (.slice none 0 0) [] 59) (fun ok => Kd.S_nil _ _ _ _ _)
  exact b
theorem row_at {w W : World} {ps : List Part} {j e n c k : Nat} {Y : Option Addr} {xs : List Int} (h : Owned w ps W) (hj : ps[j]? = some (.row (Kd.int .i64) e (.slice Y n c) xs)) (hk : k < n) :
    ∃ g, Y = some ⟨g, 0, none⟩ ∧ W.cell? ⟨g, k, none⟩ = some (.int .i64 (rd xs (k : Int))) ∧ W.frozen? ⟨g, k, none⟩ = false := by
  have hr : (Kd.int .i64).R e W w.heap.size (fun _ => True) (.slice Y n c) xs := h.get hj
  have ho := Kd.own_of_R hr
  rcases ho.2 with ⟨e1, _⟩ | ⟨g, cap, cur, e1, _, hh, hc, _, hz, ht⟩
  · injection e1 with _ e2; omega
  · injection e1 with e1 e2 _
    subst e1
    refine ⟨g, rfl, (blk_cell hh k).trans ?_, blk_frozen hh k⟩
    have hlt : k < xs.length := by omega
    have e3 : cur[k]? = (cur.toList.take (xs.length * 1))[k]? := by rw [List.getElem?_take, if_pos (by omega), Array.getElem?_toList]
    rw [e3, ht]
    simp only [encs, List.getElem?_map, rd, Int.toNat_natCast, List.getD_eq_getElem?_getD, List.getElem?_eq_getElem hlt]
    rfl
theorem make16 {a : Int} {n : Nat} (e : a = n) (h : a ≤ 64) : a.toNat * 16 ≤ 281474976710656 := by subst e; rw [Int.toNat_natCast]; omega
theorem makeL {m : Nat} (h : m ≤ 16) : ((m : Nat) : Int).toNat * 8 ≤ 281474976710656 := by rw [Int.toNat_natCast]; omega
theorem nat_of {a : Int} (h : 0 ≤ a) (h2 : a ≤ 64) : ∃ n : Nat, a = n ∧ n ≤ 64 := ⟨a.toNat, by omega, by omega⟩
theorem le_max {n : Nat} (h : n ≤ 64) : n ≤ 9223372036854775807 := by omega
theorem pred_wrap {n : Nat} (h : n ≤ 1000) : wrap64 ((n : Int) - 1) = (n : Int) - 1 := by unfold wrap64; omega
theorem lo_small {n : Nat} (h : n ≤ 16) : n ≤ 1000 := by omega
theorem th_small {n : Nat} (h : n ≤ 4) : n ≤ 1000 := by omega
theorem box_one (v0 v1 v2 v3 v4 : Option Addr) (n0 n1 n2 n3 n4 c0 c1 c2 c3 c4 : Nat) (k : Int) : (boxS (.slice v0 n0 c0) (.slice v1 n1 c1) (.slice v2 n2 c2) (.slice v3 n3 c3) (.slice v4 n4 c4) k).all (·.oneCell') = true := by
  unfold boxS
  rw [List.all_toArray]
  rfl
theorem box_size (v0 v1 v2 v3 v4 : Value) (k : Int) : (Try.prog.info? 42).map (·.size) = some (boxS v0 v1 v2 v3 v4 k).size := by kernel_rfl
theorem nb_one : (boxS (.slice none 0 0) (.slice none 0 0) (.slice none 0 0) (.slice none 0 0) (.slice none 0 0) 0).all (·.oneCell') = true := box_one ..
theorem nb_size : (Try.prog.info? 42).map (·.size) = some (boxS (.slice none 0 0) (.slice none 0 0) (.slice none 0 0) (.slice none 0 0) (.slice none 0 0) 0).size := box_size ..
theorem sub_split {k m : Nat} (h : k < m) : m - k = (m - (k + 1)) + 1 := by omega
theorem rdT_set {xs : List S59} {k : Nat} (h : k < xs.length) (y : S59) : rd_T59 (xs.set k y) (k : Int) = y := by
  unfold rd_T59
  rw [Int.toNat_natCast, List.getD_eq_getElem?_getD, List.getElem?_set_self h]
  rfl
theorem len_rep {α : Type} {D : List α} {k n : Nat} {z : α} (e : D.length = k) (h : k < n) : k < (D ++ List.replicate (n - k) z).length := by rw [List.length_append, List.length_replicate]; omega
theorem set_two {α : Type} {D : List α} {k n : Nat} {z y y' : α} (e : D.length = k) (h : k < n) : ((D ++ List.replicate (n - k) z).set k y).set k y' = (D ++ [y']) ++ List.replicate (n - (k + 1)) z := by
  subst e
  rw [sub_split h, set_rep, set_mid]
theorem fld1 {xs : List S59} {k : Nat} (h : k < xs.length) (a b v : Int) : [(.int .i64 a : Value), .int .i64 v] = [(.int .i64 (rd_T59 (xs.set k ⟨a, b⟩) (k : Int)).f0 : Value), .int .i64 (rd_T59 (xs.set k ⟨a, b⟩) (k : Int)).f1].take 1 ++ [.int .i64 v] ++ [(.int .i64 (rd_T59 (xs.set k ⟨a, b⟩) (k : Int)).f0 : Value), .int .i64 (rd_T59 (xs.set k ⟨a, b⟩) (k : Int)).f1].drop 2 := by
  rw [rdT_set h]
  rfl
theorem sl59 {B : Nat} {W : World} {v : Value} {xs : List S59} {ok : Nat → Prop} (h : Kd.R k59 59 W B ok v xs) {k : Nat} {Y : Option Addr} {n c : Nat} (e : v = .slice Y n c) (hk : k < n) : ∃ g, Y = some ⟨g, 0, none⟩ := by
  subst e
  obtain ⟨_, inner, ho, _⟩ := h
  rcases ho.2 with ⟨e1, _⟩ | ⟨g, cap, cur, e1, _⟩
  · injection e1 with _ e2; omega
  · injection e1 with e1 _ _; exact ⟨g, e1⟩
theorem b59_lt {l i n : Nat} (e : l = i) (h : i < n) (t : n ≤ 4) : l < 5864062014805 := by omega
theorem finR_bad {s : ByteArray} {n : Nat} {P Q : List Int} {R : List (List Int)} {M : List Int} {B : List (List S59)} {r : RS} (h : (numM s (-1) ((n : Int) - 1) r).2.2 = true) : finR s n P Q R M B r = failR := by unfold finR; rw [if_pos h]
theorem finR_no {s : ByteArray} {n : Nat} {P Q : List Int} {R : List (List Int)} {M : List Int} {B : List (List S59)} {r : RS} (h : ¬ (numM s (-1) ((n : Int) - 1) r).2.2 = true) (h2 : ¬ (numM s (-1) ((n : Int) - 1) r).2.1 = (s.size : Int)) : finR s n P Q R M B r = failR := by unfold finR; rw [if_neg h, if_neg h2]
theorem finR_ok {s : ByteArray} {n : Nat} {P Q : List Int} {R : List (List Int)} {M : List Int} {B : List (List S59)} {r : RS} (h : ¬ (numM s (-1) ((n : Int) - 1) r).2.2 = true) (h2 : (numM s (-1) ((n : Int) - 1) r).2.1 = (s.size : Int)) : finR s n P Q R M B r = (P, Q, R, M, B, (numM s (-1) ((n : Int) - 1) r).1, true) := by unfold finR; rw [if_neg h, if_pos h2]
theorem small8 {l i n : Nat} (e : l = i) (h : i ≤ n) (t : n ≤ 4) : (l + 1) * 8 ≤ 140737488355328 := by omega
theorem make8 {m : Nat} (h : m ≤ 8) : ((m : Nat) : Int).toNat * 8 ≤ 281474976710656 := by rw [Int.toNat_natCast]; omega
theorem small_lt {l i n : Nat} (e : l = i) (h : i < n) (t : n ≤ 4) : l < 5864062014805 := by omega
theorem i64cs (x : Int) (W : World) (B : Nat) (okp : Nat → Prop) : (Kd.int .i64).M W B okp x [.int .i64 x] := rfl
theorem pw_in {w W : World} {ps : List Part} (h : Owned w ps W) {a : Addr} {v : Value} (hc : w.cell? a = some v) : W.cell? a = some v := pw_cell_below h.below hc
theorem row_slice {B : Nat} {W : World} {α : Type} {d : Kd α} {e : Nat} {v : Value} {xs : List α} {ok : Nat → Prop} (h : (Part.row d e v xs).sem B ok W) : ∃ A c, v = .slice A xs.length c := Kd.R_slice (show d.R e W B ok v xs from h)
theorem rows_slice {B : Nat} {W : World} {α : Type} {d : Kd α} {e e1 : Nat} {v : Value} {xs : List (List α)} {ok : Nat → Prop} (h : (Part.rows d e v xs e1).sem B ok W) : ∃ A c, v = .slice A xs.length c := Kd.S_slice (show Kd.S (Kd.slice e1 d) e W B ok v xs from h)
set_option maxHeartbeats 16000000 in
set_option maxRecDepth 100000 in
theorem state_c {w : World} {pv : List Value} {p : Pg} {s : ByteArray} (hp : PgV w pv p) (hs : s.size ≤ 4611686018427387904) (hl : p.lo.length ≤ 16) (ht : p.th.length ≤ 4) (hg : p.rg.length = p.th.length) (hr : ∀ i : Nat, (rd_L4 p.rg (i : Int)).length ≤ 8) :
    Calls Try.prog 47 #[.agg pv.toArray, .string s] w fun e W' => ∃ v0 v1 v2 v3 v4 : Value, e = .returned (.tuple #[.agg (boxS v0 v1 v2 v3 v4 (stateR (stateM (tsP p) p.lo.length s)).2.2.2.2.2.1), .bool (stateR (stateM (tsP p) p.lo.length s)).2.2.2.2.2.2]) ∧
      Owned w [.row (Kd.int .i64) 3 v0 (stateR (stateM (tsP p) p.lo.length s)).1, .row (Kd.int .i64) 3 v1 (stateR (stateM (tsP p) p.lo.length s)).2.1, .rows (Kd.int .i64) 26 v2 (stateR (stateM (tsP p) p.lo.length s)).2.2.1 2, .row (Kd.int .i64) 2 v3 (stateR (stateM (tsP p) p.lo.length s)).2.2.2.1, .rows k59 57 v4 (stateR (stateM (tsP p) p.lo.length s)).2.2.2.2.1 59] W' := by
  rw [E0_start hg]
  obtain ⟨RES, hRES⟩ : ∃ x, E0 s p 0 [] [] [] ((0 : Int), false) = x := ⟨_, rfl⟩
  rw [hRES]
  obtain ⟨A0, A1, A2, A3, A4, c0, c1, c2, c3, c4, rfl, x0, _, x1, _, x2, _, x3, _, x4, _⟩ := hp
  have E := Aside0.mk hRES
  have X0 := Aside0.mk x0
  have X1 := Aside0.mk x1
  have S := Aside0.mk hs
  have L := Aside0.mk hl
  have T := Aside0.mk ht
  have G := Aside0.mk hg
  have RG := Aside0.mk hr
  have N0 := Aside0.mk (Kd.C_max x0)
  clear x0 x1 x2 x3 x4 hs hl ht hg hr hRES
  have hu28 := Try.underlying28
  have hu42 := Try.underlying42
  go_enter Try.func47, Try.ntmps47
  go_upto_region 3 with fail
  generalize hW : World.alloc (World.alloc (World.alloc (World.alloc w _) _) _) _ = W0
  generalize h7 : w.heap.size + 1 + 1 + 1 = g7
  generalize h6 : w.heap.size + 1 + 1 = g6
  generalize h4 : w.heap.size + 1 = g4
  have HO := Aside0.mk (st_begin w [.slice A0 p.th.length c0, .slice A1 p.rg.length c1, .slice A2 p.lo.length c2, .slice A3 p.r0.length c3, .slice A4 p.m0.length c4] s W0 g4 g6 g7 hW.symm h4.symm h6.symm h7.symm)
  clear hW h7 h6 h4
  obtain ⟨z0, z1, z2, z3, z4, _⟩ := blkA5 (HO.out.blk (j := 0) rfl)
  go_wp2_with fail
  clear z0 z1 z2 z3 z4
  go_loopw [21] (fun v W => ∃ i : Nat, v = .int .i64 i ∧ i ≤ p.th.length ∧ Aside0 (∃ (r : RS) (v0 v1 v2 : Value) (P Q : List Int) (R : List (List Int)), P.length = i ∧ Q.length = i ∧ R.length = i ∧ E0 s p i P Q R r = RES ∧ Owned w (stP w.heap.size g4 g6 g7 [.slice A0 p.th.length c0, .slice A1 p.rg.length c1, .slice A2 p.lo.length c2, .slice A3 p.r0.length c3, .slice A4 p.m0.length c4] s r (boxS v0 v1 v2 (.slice none 0 0) (.slice none 0 0) 0) v0 v1 v2 (.slice none 0 0) (.slice none 0 0) P Q R [] []) W)) (fun v _ => p.th.length - (intOf v).toNat)
  case atStart => exact ⟨0, rfl, Nat.zero_le _, ⟨((0 : Int), false), _, _, _, [], [], [], rfl, rfl, rfl, E.out, HO.out⟩⟩
  case round =>
    clear HO
    obtain ⟨i, rfl, hi, HX⟩ := hrel
    obtain ⟨r, v0, v1, v2, P, Q, R, lP, lQ, lR, hE, hO⟩ := HX.out
    have HE := Aside0.mk hE
    have HO := Aside0.mk hO
    have LP := Aside0.mk lP
    have LQ := Aside0.mk lQ
    have LR := Aside0.mk lR
    obtain ⟨V0, d0, rfl⟩ := row_slice (HO.out.get (j := 4) rfl)
    obtain ⟨V1, d1, rfl⟩ := row_slice (HO.out.get (j := 5) rfl)
    obtain ⟨V2, d2, rfl⟩ := rows_slice (HO.out.get (j := 6) rfl)
    clear HX hE hO lP lQ lR
    obtain ⟨z0, z1, z2, z3, z4, _⟩ := blkA5 (HO.out.blk (j := 0) rfl)
    obtain ⟨y0, y1, y2, y3, y4, y5, f0, f1, f2, f3, f4, f5⟩ := blkA6 (HO.out.blk (j := 3) rfl)
    by_cases hlt : i < p.th.length
    · obtain ⟨at_, At, ct, rfl, xt, _, _⟩ := at_L3 X0.out (i : Int) (Int.natCast_nonneg i) (Int.ofNat_lt.2 hlt)
      rw [Int.toNat_natCast] at xt
      replace xt := pw_in HO.out xt
      have HI := Aside0.mk hlt
      obtain ⟨ag, Ag, cg, rfl, xg, _, _⟩ := at_L4 X1.out (i : Int) (Int.natCast_nonneg i) (Int.ofNat_lt.2 (by rw [G.out]; exact hlt))
      rw [Int.toNat_natCast] at xg
      have XG := Aside0.mk xg
      clear xg
      go_upto_region 6 with fail
      clear z0 z1 z2 z3 z4 xt y0 y1 y2 y3 y4 y5 f0 f1 f2 f3 f4 f5
      have HOd := Aside0.mk HO.out.drew
      clear HO
      have HO := HOd
      clear HOd
      obtain ⟨y0, y1, y2, y3, y4, y5, f0, f1, f2, f3, f4, f5⟩ := blkA6 (HO.out.blk (j := 3) rfl)
      obtain ⟨qa, hqa⟩ : ∃ q, numM s 0 ((rd_L3 p.th (i : Int)).length : Int) r = q := ⟨_, rfl⟩
      have HQqa := Aside0.mk hqa
      clear hqa
      refine start_ (n := 10) (S := fun w' => w'.cell? ⟨g7, 0, none⟩ = some (.slice V0 P.length d0)) (ds := [9]) #[false, false, false, false, false, false, false, false, false, false] (by kernel_rfl) rfl rfl y0 (fun hHeld => ?_); refine with_tabW st_tab6 st_bits6 (fun HT_ HW_ => ?_)
      clear y0 y1 y2 y3 y4 y5 f0 f1 f2 f3 f4 f5
      generalize World.drew _ = W1 at HO hHeld ⊢
      refine pu_ 0 26 ?_
      refine pu_ 2 28 ?_
      refine pu_ 3 29 ?_
      refine pu_ 4 30 ?_
      refine ta_ 1 27 ?_ hHeld
      refine on_ 5 31 (fun K hK => ?_)
      refine goes_ Try.func91 (by kernel_rfl) rfl #[.pointer (some ⟨g6, 0, none⟩), .int .i64 0, .int .i64 ((rd_L3 p.th (i : Int)).length : Int)] (by rfl) rfl rfl ag_ ?_
      refine (number_o S.out HO.out (j := 2) rfl 0 ((rd_L3 p.th (i : Int)).length : Int)).mono ?_
      rw [HQqa.out]
      rintro e W2 ⟨rfl, h2⟩
      refine ⟨_, rfl, ?_⟩
      have HO2 : Aside0 (Owned w (stP w.heap.size g4 g6 g7 [.slice (some at_) p.th.length c0, .slice (some ag) p.rg.length c1, .slice A2 p.lo.length c2, .slice A3 p.r0.length c3, .slice A4 p.m0.length c4] s qa.2 (boxS (.slice V0 P.length d0) (.slice V1 Q.length d1) (.slice V2 R.length d2) (.slice none 0 0) (.slice none 0 0) 0) (.slice V0 P.length d0) (.slice V1 Q.length d1) (.slice V2 R.length d2) (.slice none 0 0) (.slice none 0 0) P Q R [] []) W2) := ⟨h2⟩
      clear h2 HO
      obtain ⟨y0, y1, y2, y3, y4, y5, _⟩ := blkA6 (HO2.out.blk (j := 3) rfl)
      refine hK.out _ _ y0 (fun hHeld => ?_)
      clear hK K y0 y1 y2 y3 y4 y5
      refine nm_ 31 ?_
      refine li_ (e := 3) (cs := [.int .i64 qa.1].toArray) 6 32 (((below_alloc (Below.refl W2.heap.size W2) _).cell (World.block_lt_of_cell? W2 _ hHeld)).trans hHeld) ?_
      refine on_ 7 33 (fun K hK => ?_)
      refine Owned.app_step (Kd.int .i64) HO2.out (j := 4) rfl qa.1 [.int .i64 qa.1] (i64cs _ _ _) (.tmp 27) (.tmp 32) 29 (.int .i64 0) 8 Try.underlying29 info3 rfl (by decide) (by decide) (small8 LP.out (Nat.le_of_lt HI.out) T.out) ?_ (by rfl) rfl rfl rfl
      intro v1 W3 h3
      obtain ⟨Z0, e0, rfl⟩ := row_slice (h3.get (j := 4) rfl)
      have HO3 := Aside0.mk h3
      clear h3 HO2 hHeld
      obtain ⟨y0, y1, y2, y3, y4, y5, f0, f1, f2, f3, f4, f5⟩ := blkA6 (HO3.out.blk (j := 3) rfl)
      refine hK.out _ _ y0 (fun _ => ?_)
      clear hK K
      refine nm_ 33 ?_
      refine pu_ 8 34 ?_
      refine last_ (i := 9) (N := none) #[true, true, true, true, true, true, true, true, true, true] rfl rfl (one_of HT_.out (by kernel_rfl)) (by decide) (fun K hK => ?_)
      refine skip_ (w1 := W3.setCell ⟨g7, 0, none⟩ (.slice Z0 (P ++ [qa.1]).length e0)) (by rfl) rfl ?hs6 ?hl6
      case hs6 => first | (go_simp; done) | (go_simp; rfl)
      have HO : Aside0 (Owned w (stP w.heap.size g4 g6 g7 [.slice (some at_) p.th.length c0, .slice (some ag) p.rg.length c1, .slice A2 p.lo.length c2, .slice A3 p.r0.length c3, .slice A4 p.m0.length c4] s qa.2 (boxS (.slice Z0 (P ++ [qa.1]).length e0) (.slice V1 Q.length d1) (.slice V2 R.length d2) (.slice none 0 0) (.slice none 0 0) 0) (.slice Z0 (P ++ [qa.1]).length e0) (.slice V1 Q.length d1) (.slice V2 R.length d2) (.slice none 0 0) (.slice none 0 0) (P ++ [qa.1]) Q R [] []) (W3.setCell ⟨g7, 0, none⟩ (.slice Z0 (P ++ [qa.1]).length e0))) := ⟨HO3.out.cell (j := 3) rfl 0 _⟩
      refine hK.out _ _ ?_
      refine done_ (done_of HT_.out (by kernel_rfl)) ?_
      clear hK K HO3 y0 y1 y2 y3 y4 y5 f0 f1 f2 f3 f4 f5
      generalize World.setCell _ _ _ = W4 at HO ⊢
      go_upto_region 7 with fail
      have HOd := Aside0.mk HO.out.drew
      clear HO
      have HO := HOd
      clear HOd
      obtain ⟨y0, y1, y2, y3, y4, y5, f0, f1, f2, f3, f4, f5⟩ := blkA6 (HO.out.blk (j := 3) rfl)
      obtain ⟨qb, hqb⟩ : ∃ q, numM s 0 2 qa.2 = q := ⟨_, rfl⟩
      have HQqb := Aside0.mk hqb
      clear hqb
      refine start_ (n := 8) (S := fun w' => w'.cell? ⟨g7, 1, none⟩ = some (.slice V1 Q.length d1)) (ds := [7]) #[false, false, false, false, false, false, false, false] (by kernel_rfl) rfl rfl y1 (fun hHeld => ?_); refine with_tabW st_tab7 st_bits7 (fun HT_ HW_ => ?_)
      clear y0 y1 y2 y3 y4 y5 f0 f1 f2 f3 f4 f5
      generalize World.drew _ = W1 at HO hHeld ⊢
      refine pu_ 0 35 ?_
      refine pu_ 2 37 ?_
      refine ta_ 1 36 ?_ hHeld
      refine on_ 3 38 (fun K hK => ?_)
      refine goes_ Try.func91 (by kernel_rfl) rfl #[.pointer (some ⟨g6, 0, none⟩), .int .i64 0, .int .i64 2] (by rfl) rfl rfl ag_ ?_
      refine (number_o S.out HO.out (j := 2) rfl 0 2).mono ?_
      rw [HQqb.out]
      rintro e W2 ⟨rfl, h2⟩
      refine ⟨_, rfl, ?_⟩
      have HO2 : Aside0 (Owned w (stP w.heap.size g4 g6 g7 [.slice (some at_) p.th.length c0, .slice (some ag) p.rg.length c1, .slice A2 p.lo.length c2, .slice A3 p.r0.length c3, .slice A4 p.m0.length c4] s qb.2 (boxS (.slice Z0 (P ++ [qa.1]).length e0) (.slice V1 Q.length d1) (.slice V2 R.length d2) (.slice none 0 0) (.slice none 0 0) 0) (.slice Z0 (P ++ [qa.1]).length e0) (.slice V1 Q.length d1) (.slice V2 R.length d2) (.slice none 0 0) (.slice none 0 0) (P ++ [qa.1]) Q R [] []) W2) := ⟨h2⟩
      clear h2 HO
      obtain ⟨y0, y1, y2, y3, y4, y5, _⟩ := blkA6 (HO2.out.blk (j := 3) rfl)
      refine hK.out _ _ y1 (fun hHeld => ?_)
      clear hK K y0 y1 y2 y3 y4 y5
      refine nm_ 38 ?_
      refine li_ (e := 3) (cs := [.int .i64 qb.1].toArray) 4 39 (((below_alloc (Below.refl W2.heap.size W2) _).cell (World.block_lt_of_cell? W2 _ hHeld)).trans hHeld) ?_
      refine on_ 5 40 (fun K hK => ?_)
      refine Owned.app_step (Kd.int .i64) HO2.out (j := 5) rfl qb.1 [.int .i64 qb.1] (i64cs _ _ _) (.tmp 36) (.tmp 39) 29 (.int .i64 0) 8 Try.underlying29 info3 rfl (by decide) (by decide) (small8 LQ.out (Nat.le_of_lt HI.out) T.out) ?_ (by rfl) rfl rfl rfl
      intro v1 W3 h3
      obtain ⟨Z1, e1, rfl⟩ := row_slice (h3.get (j := 5) rfl)
      have HO3 := Aside0.mk h3
      clear h3 HO2 hHeld
      obtain ⟨y0, y1, y2, y3, y4, y5, f0, f1, f2, f3, f4, f5⟩ := blkA6 (HO3.out.blk (j := 3) rfl)
      refine hK.out _ _ y1 (fun _ => ?_)
      clear hK K
      refine nm_ 40 ?_
      refine pu_ 6 41 ?_
      refine last_ (i := 7) (N := none) #[true, true, true, true, true, true, true, true] rfl rfl (one_of HT_.out (by kernel_rfl)) (by decide) (fun K hK => ?_)
      refine skip_ (w1 := W3.setCell ⟨g7, 1, none⟩ (.slice Z1 (Q ++ [qb.1]).length e1)) (by rfl) rfl ?hs7 ?hl7
      case hs7 => first | (go_simp; done) | (go_simp; rfl)
      have HO : Aside0 (Owned w (stP w.heap.size g4 g6 g7 [.slice (some at_) p.th.length c0, .slice (some ag) p.rg.length c1, .slice A2 p.lo.length c2, .slice A3 p.r0.length c3, .slice A4 p.m0.length c4] s qb.2 (boxS (.slice Z0 (P ++ [qa.1]).length e0) (.slice Z1 (Q ++ [qb.1]).length e1) (.slice V2 R.length d2) (.slice none 0 0) (.slice none 0 0) 0) (.slice Z0 (P ++ [qa.1]).length e0) (.slice Z1 (Q ++ [qb.1]).length e1) (.slice V2 R.length d2) (.slice none 0 0) (.slice none 0 0) (P ++ [qa.1]) (Q ++ [qb.1]) R [] []) (W3.setCell ⟨g7, 1, none⟩ (.slice Z1 (Q ++ [qb.1]).length e1))) := ⟨HO3.out.cell (j := 3) rfl 1 _⟩
      refine hK.out _ _ ?_
      refine done_ (done_of HT_.out (by kernel_rfl)) ?_
      clear hK K HO3 y0 y1 y2 y3 y4 y5 f0 f1 f2 f3 f4 f5
      generalize World.setCell _ _ _ = W4 at HO ⊢
      obtain ⟨m, hm⟩ : ∃ m, (rd_L4 p.rg (i : Int)).length = m := ⟨_, rfl⟩
      have HM := Aside0.mk hm
      have hm8 : m ≤ 8 := by rw [← hm]; exact RG.out i
      have HM8 := Aside0.mk hm8
      have hig : (i : Int) < (p.rg.length : Int) := by rw [G.out]; exact Int.ofNat_lt.2 HI.out
      obtain ⟨z0, z1, z2, z3, z4, _⟩ := blkA5 (HO.out.blk (j := 0) rfl)
      have xg := pw_in HO.out XG.out
      rw [hm] at xg
      go_upto_region 9 with (((with_reducible refine gate_dst (N := 48) rfl ?_); refine Owned.make (Kd.int .i64) HO.out 2 (N := 48) 26 (m : Int) (.int .i64 0) 8 0 (fun _ _ _ => rfl) _ _ Try.underlying26 info2 rfl (by decide) (by decide) (Int.natCast_nonneg m) (make8 hm8) ?_ rfl rfl rfl rfl rfl; intro v1 W5 h5; rw [Int.toNat_natCast] at h5; obtain ⟨Y, cy, e5⟩ := row_slice (h5.get (j := 9) rfl); rw [List.length_replicate] at e5; subst e5; have HY := Aside0.mk h5; clear h5))
      clear z0 z1 z2 z3 z4 xg hm hm8 hig
      obtain ⟨y0, y1, y2, y3, y4, y5, f0, f1, f2, f3, f4, f5⟩ := blkA6 (HY.out.blk (j := 3) rfl)
      go_wp2_with fail
      clear y0 y1 y2 y3 y4 y5 f0 f1 f2 f3 f4 f5
      go_loopw [51] (fun v W => ∃ k : Nat, v = .int .i64 k ∧ k ≤ m ∧ Aside0 (∃ (r : RS) (D row : List Int), D.length = k ∧ row = D ++ List.replicate (m - k) 0 ∧ E1 s p (i + 1) (P ++ [qa.1]) (Q ++ [qb.1]) R D (m - k) r = RES ∧ Owned w (stP w.heap.size g4 g6 g7 [.slice (some at_) p.th.length c0, .slice (some ag) p.rg.length c1, .slice A2 p.lo.length c2, .slice A3 p.r0.length c3, .slice A4 p.m0.length c4] s r (boxS (.slice Z0 (P ++ [qa.1]).length e0) (.slice Z1 (Q ++ [qb.1]).length e1) (.slice V2 R.length d2) (.slice none 0 0) (.slice none 0 0) 0) (.slice Z0 (P ++ [qa.1]).length e0) (.slice Z1 (Q ++ [qb.1]).length e1) (.slice V2 R.length d2) (.slice none 0 0) (.slice none 0 0) (P ++ [qa.1]) (Q ++ [qb.1]) R [] [] ++ [.row (Kd.int .i64) 2 (.slice Y m cy) row]) W)) (fun v _ => m - (intOf v).toNat)
      case atStart => exact ⟨0, rfl, Nat.zero_le _, ⟨qb.2, [], List.replicate m 0, rfl, rfl, by rw [← HE.out, E0_step G.out HI.out, HQqa.out, HQqb.out, HM.out]; rfl, HY.out⟩⟩
      case round =>
        clear HY HO
        obtain ⟨k, rfl, hk, HX⟩ := hrel
        obtain ⟨r, D, row, lD, eR, hE, hO⟩ := HX.out
        have HO := Aside0.mk hO
        have HE1 := Aside0.mk hE
        have LD := Aside0.mk lD
        have ER := Aside0.mk eR
        clear HX hO hE lD eR
        by_cases hlk : k < m
        · obtain ⟨gy, rfl, hc, hf⟩ := row_at HO.out (j := 9) rfl hlk
          have HK := Aside0.mk hlk
          have hw := wrapN hlk (Nat.le_trans HM8.out (by decide))
          clear hc hf
          go_wp2_with (go_at_call 92; (with_reducible refine (value_o S.out HO.out (j := 2) rfl).mono ?_); rintro e W6 ⟨rfl, h6⟩; have H6 := Aside0.mk h6; obtain ⟨gz, ez, hc, hf⟩ := row_at h6 (j := 9) rfl HK.out; obtain rfl : gy = gz := (by injection ez with ez; injection ez); clear h6 ez)
          go_roundw
          case rel => exact ⟨k + 1, by rw [hw]; rfl, HK.out, ⟨(valM s r).2, D ++ [(valM s r).1], row.set k (valM s r).1, by rw [List.length_append, LD.out]; rfl, by rw [ER.out, ← LD.out, sub_split (by rw [LD.out]; exact HK.out), set_rep], by rw [← HE1.out, sub_split HK.out, E1_step], H6.out.num (j := 9) rfl k _⟩⟩
          case measure => rw [hw]; exact nat_dec HK.out
        · have hkm : k = m := Nat.le_antisymm hk (Nat.le_of_not_lt hlk)
          subst hkm
          have HE2 : Aside0 (E0 s p (i + 1) (P ++ [qa.1]) (Q ++ [qb.1]) (R ++ [row]) r = RES) := ⟨by rw [← HE1.out, Nat.sub_self, E1_end, ER.out, Nat.sub_self, List.replicate_zero, List.append_nil]⟩
          have hw := wrapN HI.out N0.out
          obtain ⟨y0, y1, y2, y3, y4, y5, f0, f1, f2, f3, f4, f5⟩ := blkA6 (HO.out.blk (j := 3) rfl)
          go_wp2_with ((with_reducible refine gate_builtin (b := .append) (xs := #[.tmp 61, .tmp 63]) rfl ?_); at_builtin; refine Owned.push (Kd.int .i64) HO.out (j := 6) (jr := 9) (by decide) rfl rfl (.tmp 61) (.tmp 63) 25 Try.underlying25 info26 (small_lt LR.out HI.out T.out) ?_ rfl rfl rfl rfl; intro v1 W7 h7; clear y0 y1 y2 y3 y4 y5 f0 f1 f2 f3 f4 f5; obtain ⟨Z2, e2, ez⟩ := rows_slice (h7.get (j := 6) rfl); rw [List.length_append, List.length_singleton] at ez; subst ez; have H7 := Aside0.mk (h7.cut 9); obtain ⟨y0, y1, y2, y3, y4, y5, f0, f1, f2, f3, f4, f5⟩ := blkA6 (h7.blk (j := 3) rfl); clear h7)
          go_roundw
          case rel => exact ⟨i + 1, by rw [hw]; rfl, HI.out, ⟨r, .slice Z0 (P ++ [qa.1]).length e0, .slice Z1 (Q ++ [qb.1]).length e1, .slice Z2 (R.length + 1) e2, P ++ [qa.1], Q ++ [qb.1], R ++ [row], by rw [List.length_append, LP.out]; rfl, by rw [List.length_append, LQ.out]; rfl, by rw [List.length_append, LR.out]; rfl, HE2.out, H7.out.cell (j := 3) rfl 2 (.slice Z2 (R.length + 1) e2)⟩⟩
          case measure => rw [hw]; exact nat_dec HI.out
    · have hin : i = p.th.length := Nat.le_antisymm hi (Nat.le_of_not_lt hlt)
      have HE2 : Aside0 (E2 s p P Q R [] p.lo.length r = RES) := ⟨by rw [← HE.out, hin, E0_end G.out]⟩
      have LB : Aside0 (P.length = p.th.length) := ⟨LP.out.trans hin⟩
      clear hin hi HE LP LQ LR
      go_upto_region 17 with ((with_reducible refine gate_dst (N := 70) rfl ?_); refine Owned.make (Kd.int .i64) HO.out 2 (N := 70) 26 (p.lo.length : Int) (.int .i64 0) 8 0 (fun _ _ _ => rfl) _ _ Try.underlying26 info2 rfl (by decide) (by decide) (Int.natCast_nonneg _) (makeL L.out) ?_ rfl rfl rfl rfl rfl; intro v1 W5 h5; rw [Int.toNat_natCast] at h5; obtain ⟨Y, cy, e5⟩ := row_slice (h5.get (j := 9) rfl); rw [List.length_replicate] at e5; subst e5; have HY := Aside0.mk ((h5.give (j := 7) (jr := 9) (by decide) rfl rfl).cut 9); clear y0 y1 y2 y3 y4 y5 f0 f1 f2 f3 f4 f5 z0 z1 z2 z3 z4; obtain ⟨y0, y1, y2, y3, y4, y5, f0, f1, f2, f3, f4, f5⟩ := blkA6 (h5.blk (j := 3) rfl); clear h5)
      have HZ : Aside0 (Owned w (stP w.heap.size g4 g6 g7 [.slice A0 p.th.length c0, .slice A1 p.rg.length c1, .slice A2 p.lo.length c2, .slice A3 p.r0.length c3, .slice A4 p.m0.length c4] s r (boxS (.slice V0 P.length d0) (.slice V1 Q.length d1) (.slice V2 R.length d2) (.slice Y p.lo.length cy) (.slice none 0 0) 0) (.slice V0 P.length d0) (.slice V1 Q.length d1) (.slice V2 R.length d2) (.slice Y p.lo.length cy) (.slice none 0 0) P Q R (List.replicate p.lo.length 0) []) (W5.setCell ⟨g7, 3, none⟩ (.slice Y p.lo.length cy))) := ⟨HY.out.cell (j := 3) rfl 3 _⟩
      clear y0 y1 y2 y3 y4 y5 f0 f1 f2 f3 f4 f5 HY HO
      generalize World.setCell _ _ _ = W6 at HZ ⊢
      obtain ⟨y0, y1, y2, y3, y4, y5, f0, f1, f2, f3, f4, f5⟩ := blkA6 (HZ.out.blk (j := 3) rfl)
      go_wp2_with fail
      clear y0 y1 y2 y3 y4 y5 f0 f1 f2 f3 f4 f5
      go_loopw [75] (fun v W => ∃ k : Nat, v = .int .i64 k ∧ k ≤ p.lo.length ∧ Aside0 (∃ (r : RS) (D M : List Int), D.length = k ∧ M = D ++ List.replicate (p.lo.length - k) 0 ∧ E2 s p P Q R D (p.lo.length - k) r = RES ∧ Owned w (stP w.heap.size g4 g6 g7 [.slice A0 p.th.length c0, .slice A1 p.rg.length c1, .slice A2 p.lo.length c2, .slice A3 p.r0.length c3, .slice A4 p.m0.length c4] s r (boxS (.slice V0 P.length d0) (.slice V1 Q.length d1) (.slice V2 R.length d2) (.slice Y p.lo.length cy) (.slice none 0 0) 0) (.slice V0 P.length d0) (.slice V1 Q.length d1) (.slice V2 R.length d2) (.slice Y p.lo.length cy) (.slice none 0 0) P Q R M []) W)) (fun v _ => p.lo.length - (intOf v).toNat)
      case atStart => exact ⟨0, rfl, Nat.zero_le _, ⟨r, [], _, rfl, rfl, HE2.out, HZ.out⟩⟩
      case round =>
        clear HZ HE2
        obtain ⟨k, rfl, hk, HX⟩ := hrel
        obtain ⟨r, D, M, lD, eR, hE, hO⟩ := HX.out
        have HO := Aside0.mk hO
        have HE1 := Aside0.mk hE
        have LD := Aside0.mk lD
        have ER := Aside0.mk eR
        clear HX hO hE lD eR hlt
        obtain ⟨y0, y1, y2, y3, y4, y5, f0, f1, f2, f3, f4, f5⟩ := blkA6 (HO.out.blk (j := 3) rfl)
        by_cases hlk : k < p.lo.length
        · obtain ⟨gy, rfl, _, _⟩ := row_at HO.out (j := 7) rfl hlk
          have HK := Aside0.mk hlk
          have hw := wrapN hlk (le_max (Nat.le_trans L.out (by decide)))
          go_upto_region 20 with fail
          clear y0 y1 y2 y3 y4 y5 f0 f1 f2 f3 f4 f5
          have HOd := Aside0.mk HO.out.drew
          clear HO
          have HO := HOd
          clear HOd
          obtain ⟨y0, y1, y2, y3, y4, y5, f0, f1, f2, f3, f4, f5⟩ := blkA6 (HO.out.blk (j := 3) rfl)
          refine start_ (n := 7) (S := fun w' => w'.cell? ⟨g7, 3, none⟩ = some (.slice (some ⟨gy, 0, none⟩) p.lo.length cy)) (ds := [6]) #[false, false, false, false, false, false, false] (by kernel_rfl) rfl rfl y3 (fun hHeld => ?_); refine with_tabW st_tab20 st_bits20 (fun HT_ HW_ => ?_)
          clear y0 y1 y2 y3 y4 y5 f0 f1 f2 f3 f4 f5
          generalize World.drew _ = W1 at HO hHeld ⊢
          refine pu_ 0 78 ?_
          refine pu_ 2 80 ?_
          refine pu_ 3 81 ?_
          refine ta_ 1 79 ?_ hHeld
          refine on_ 4 82 (fun K hK => ?_)
          refine goes_ Try.func92 (by kernel_rfl) rfl #[.pointer (some ⟨g6, 0, none⟩)] (by rfl) rfl rfl ag_ ?_
          refine (value_o S.out HO.out (j := 2) rfl).mono ?_
          rintro e W2 ⟨rfl, h2⟩
          refine ⟨_, rfl, ?_⟩
          have H2 := Aside0.mk h2
          clear HO
          obtain ⟨y0, y1, y2, y3, y4, y5, _⟩ := blkA6 (h2.blk (j := 3) rfl)
          obtain ⟨gz, ez, hc, hf⟩ := row_at h2 (j := 7) rfl HK.out
          obtain rfl : gy = gz := (by injection ez with ez; injection ez)
          refine hK.out _ _ y3 (fun hHeld => ?_)
          clear hK K y0 y1 y2 y3 y4 y5 h2 ez
          refine nm_ 82 ?_
          refine pu_ 5 83 ?_
          refine last_ (i := 6) (N := none) #[true, true, true, true, true, true, true] rfl rfl (one_of HT_.out (by kernel_rfl)) (by decide) (fun K hK => ?_)
          refine skip_ (w1 := W2.setCell ⟨gy, k, none⟩ (.int .i64 (valM s r).1)) (by rfl) rfl ?hs20 ?hl20
          case hs20 => first | (go_simp; done) | (go_simp; rfl)
          have HO := Aside0.mk (H2.out.num (j := 7) rfl k (valM s r).1)
          refine hK.out _ _ ?_
          refine done_ (done_of HT_.out (by kernel_rfl)) ?_
          clear hK K H2 hc hf hHeld
          generalize World.setCell _ _ _ = W4 at HO ⊢
          go_wp2_with fail
          go_roundw
          case rel => exact ⟨k + 1, by rw [hw]; rfl, HK.out, ⟨(valM s r).2, D ++ [(valM s r).1], M.set k (valM s r).1, by rw [List.length_append, LD.out]; rfl, by rw [ER.out, ← LD.out, sub_split (by rw [LD.out]; exact HK.out), set_rep], by rw [← HE1.out, sub_split HK.out, E2_step], HO.out⟩⟩
          case measure => rw [hw]; exact nat_dec HK.out
        · have hkm : k = p.lo.length := Nat.le_antisymm hk (Nat.le_of_not_lt hlk)
          have HE3 : Aside0 (E3 s p P Q R M [] p.th.length r = RES) := ⟨by rw [← HE1.out, hkm, Nat.sub_self, E2_end, ER.out, hkm, Nat.sub_self, List.replicate_zero, List.append_nil]⟩
          obtain ⟨z0, z1, z2, z3, z4, _⟩ := blkA5 (HO.out.blk (j := 0) rfl)
          clear hkm hk HE1 LD ER
          go_wp2_with fail
          clear y0 y1 y2 y3 y4 y5 f0 f1 f2 f3 f4 f5 z0 z1 z2 z3 z4
          go_loopw [88] (fun v W => ∃ j : Nat, v = .int .i64 j ∧ j ≤ p.th.length ∧ Aside0 (∃ (r : RS) (vb : Value) (B : List (List S59)), B.length = j ∧ E3 s p P Q R M B (p.th.length - j) r = RES ∧ Owned w (stP w.heap.size g4 g6 g7 [.slice A0 p.th.length c0, .slice A1 p.rg.length c1, .slice A2 p.lo.length c2, .slice A3 p.r0.length c3, .slice A4 p.m0.length c4] s r (boxS (.slice V0 P.length d0) (.slice V1 Q.length d1) (.slice V2 R.length d2) (.slice Y p.lo.length cy) vb 0) (.slice V0 P.length d0) (.slice V1 Q.length d1) (.slice V2 R.length d2) (.slice Y p.lo.length cy) vb P Q R M B) W)) (fun v _ => p.th.length - (intOf v).toNat)
          case atStart => exact ⟨0, rfl, Nat.zero_le _, ⟨r, _, [], rfl, HE3.out, HO.out⟩⟩
          case round =>
            clear HO HE3
            obtain ⟨j, rfl, hj, HX⟩ := hrel
            obtain ⟨r, vb, B, lB, hE, hO⟩ := HX.out
            have HO := Aside0.mk hO
            have HE := Aside0.mk hE
            have LBB := Aside0.mk lB
            obtain ⟨VB, db, rfl⟩ := rows_slice (HO.out.get (j := 8) rfl)
            clear HX hO hE lB
            by_cases hlt : j < p.th.length
            · have HJ := Aside0.mk hlt
              obtain ⟨q, hq⟩ : ∃ q, numM s 0 64 r = q := ⟨_, rfl⟩
              have hrg := numM_range (s := s) (show (0 : Int) ≤ 64 by decide) r
              have HQ := Aside0.mk hq
              rw [hq] at hrg
              obtain ⟨nn, en, hn64⟩ := nat_of hrg.1 hrg.2
              have EN := Aside0.mk en
              have N64 := Aside0.mk hn64
              have RG0 := Aside0.mk hrg
              clear hq hrg en hn64
              go_upto_region 25 with (first
                | (go_at_call 91; (with_reducible refine (number_o S.out HO.out (j := 2) rfl 0 64).mono ?_); rw [HQ.out]; rintro e W6 ⟨rfl, h6⟩; have H6 : Aside0 (Owned w (stP w.heap.size g4 g6 g7 [.slice A0 p.th.length c0, .slice A1 p.rg.length c1, .slice A2 p.lo.length c2, .slice A3 p.r0.length c3, .slice A4 p.m0.length c4] s q.2 (boxS (.slice V0 P.length d0) (.slice V1 Q.length d1) (.slice V2 R.length d2) (.slice Y p.lo.length cy) (.slice VB B.length db) 0) (.slice V0 P.length d0) (.slice V1 Q.length d1) (.slice V2 R.length d2) (.slice Y p.lo.length cy) (.slice VB B.length db) P Q R M B) W6) := ⟨h6⟩; clear h6)
                | ((with_reducible refine gate_dst (N := 92) rfl ?_); refine Owned.make k59 H6.out 59 (N := 92) 57 q.1 (.agg #[(.int .i64 0), (.int .i64 0)]) 16 z59 (fun _ _ _ => k59_mkM _ _ _ z59) _ _ Try.underlying57 info59 rfl (by decide) (by decide) RG0.out.1 (make16 EN.out RG0.out.2) ?_ rfl rfl rfl rfl rfl; intro v1 W7 h7; rw [EN.out, Int.toNat_natCast] at h7; obtain ⟨Yb, cb, e5⟩ := row_slice (h7.get (j := 9) rfl); rw [List.length_replicate] at e5; subst e5; have H7 := Aside0.mk h7; clear h7))
              clear HO H6
              go_wp2_with fail
              go_loopw [95] (fun v W => ∃ k : Nat, v = .int .i64 k ∧ k ≤ nn ∧ Aside0 (∃ (r : RS) (D row : List S59), D.length = k ∧ row = D ++ List.replicate (nn - k) z59 ∧ E4 s p P Q R M B (p.th.length - (j + 1)) D (nn - k) r = RES ∧ Owned w (stP w.heap.size g4 g6 g7 [.slice A0 p.th.length c0, .slice A1 p.rg.length c1, .slice A2 p.lo.length c2, .slice A3 p.r0.length c3, .slice A4 p.m0.length c4] s r (boxS (.slice V0 P.length d0) (.slice V1 Q.length d1) (.slice V2 R.length d2) (.slice Y p.lo.length cy) (.slice VB B.length db) 0) (.slice V0 P.length d0) (.slice V1 Q.length d1) (.slice V2 R.length d2) (.slice Y p.lo.length cy) (.slice VB B.length db) P Q R M B ++ [.row k59 59 (.slice Yb nn cb) row]) W)) (fun v _ => nn - (intOf v).toNat)
              case atStart => exact ⟨0, rfl, Nat.zero_le _, ⟨q.2, [], _, rfl, rfl, by rw [← HE.out, sub_split HJ.out, E3_step, HQ.out, EN.out, Int.toNat_natCast]; rfl, H7.out⟩⟩
              case round =>
                clear H7 HE
                obtain ⟨k, rfl, hk, HX⟩ := hrel
                obtain ⟨r, D, row, lD, eR, hE, hO⟩ := HX.out
                have HO := Aside0.mk hO
                have HE1 := Aside0.mk hE
                have LD := Aside0.mk lD
                have ER := Aside0.mk eR
                clear HX hO hE lD eR hlt
                by_cases hlk : k < nn
                · have HK := Aside0.mk hlk
                  obtain ⟨z0, z1, z2, z3, z4, _⟩ := blkA5 (HO.out.blk (j := 0) rfl)
                  obtain ⟨rat, rbad⟩ := r
                  obtain ⟨x0, x1, x2, _⟩ := blkA3 (HO.out.blk (j := 2) rfl)
                  cases rbad with
                  | true =>
                    have HR : Aside0 (RES = failR) := ⟨by rw [← HE1.out, sub_split HK.out, E4_bad (.inl rfl)]⟩
                    as_aux_lemma =>
                      obtain ⟨w0, w1_, w2_, w3_, w4_, w5_, g0_, g1_, g2_, g3_, g4_, g5_⟩ := blkA6 (HO.out.blk (j := 1) rfl)
                      have hb4 := HO.out.blk (j := 1) rfl
                      clear w0 w1_ w2_ w3_ w4_ w5_ g0_ g1_ g2_ g3_ g4_ g5_
                      go_wp2_with (refine wpList_store_row rfl 42 (.tmp 4) (.tmp 108) rfl g4 (boxS (.slice none 0 0) (.slice none 0 0) (.slice none 0 0) (.slice none 0 0) (.slice none 0 0) 0) rfl rfl 42 _ hb4 nb_size rfl nb_one ?_)
                      have HF := Aside0.mk (HO.out.setAll (j := 1) rfl (boxS (.slice none 0 0) (.slice none 0 0) (.slice none 0 0) (.slice none 0 0) (.slice none 0 0) 0))
                      refine bodyPost_ret (results_ct rfl _ _ g4 42 _ (0, 0) _ rfl (HF.out.blk (j := 1) rfl) hu42 rfl (by kernel_rfl)) rfl ⟨.slice none 0 0, .slice none 0 0, .slice none 0 0, .slice none 0 0, .slice none 0 0, by rw [HR.out]; rfl, by rw [HR.out]; exact HF.out.nils⟩
                  | false =>
                    by_cases hz : p.lo.length = 0
                    · have HR : Aside0 (RES = failR) := ⟨by rw [← HE1.out, sub_split HK.out, E4_bad (.inr hz)]⟩
                      as_aux_lemma =>
                        obtain ⟨w0, w1_, w2_, w3_, w4_, w5_, g0_, g1_, g2_, g3_, g4_, g5_⟩ := blkA6 (HO.out.blk (j := 1) rfl)
                        have hb4 := HO.out.blk (j := 1) rfl
                        clear w0 w1_ w2_ w3_ w4_ w5_ g0_ g1_ g2_ g3_ g4_ g5_
                        go_wp2_with (refine wpList_store_row rfl 42 (.tmp 4) (.tmp 108) rfl g4 (boxS (.slice none 0 0) (.slice none 0 0) (.slice none 0 0) (.slice none 0 0) (.slice none 0 0) 0) rfl rfl 42 _ hb4 nb_size rfl nb_one ?_)
                        have HF := Aside0.mk (HO.out.setAll (j := 1) rfl (boxS (.slice none 0 0) (.slice none 0 0) (.slice none 0 0) (.slice none 0 0) (.slice none 0 0) 0))
                        refine bodyPost_ret (results_ct rfl _ _ g4 42 _ (0, 0) _ rfl (HF.out.blk (j := 1) rfl) hu42 rfl (by kernel_rfl)) rfl ⟨.slice none 0 0, .slice none 0 0, .slice none 0 0, .slice none 0 0, .slice none 0 0, by rw [HR.out]; rfl, by rw [HR.out]; exact HF.out.nils⟩
                    · have hz2 : ((p.lo.length : Int) == 0) = false := beq_eq_false_iff_ne.2 (fun h => hz (Int.ofNat_eq_zero.1 h))
                      have NZ : Aside0 (¬ ((rat, false).2 = true ∨ p.lo.length = 0)) := ⟨fun h => by rcases h with h | h; cases h; exact hz h⟩
                      have hpw := pred_wrap (lo_small L.out)
                      obtain ⟨gy, rfl⟩ := sl59 (HO.out.get (j := 9) rfl) rfl hlk
                      obtain ⟨a, ha⟩ : ∃ a, numM s 0 ((p.lo.length : Int) - 1) (rat, false) = a := ⟨_, rfl⟩
                      have HA := Aside0.mk ha
                      obtain ⟨v, hv⟩ : ∃ v, valM s a.2 = v := ⟨_, rfl⟩
                      have HV := Aside0.mk hv
                      clear ha hv
                      go_upto_region 31 with (first
                        | (go_at_call 91; (with_reducible refine (number_o S.out HO.out (j := 2) rfl 0 ((p.lo.length : Int) - 1)).mono ?_); rw [HA.out]; rintro e W6 ⟨rfl, h6⟩; have H6 : Aside0 (Owned w (stP w.heap.size g4 g6 g7 [.slice A0 p.th.length c0, .slice A1 p.rg.length c1, .slice A2 p.lo.length c2, .slice A3 p.r0.length c3, .slice A4 p.m0.length c4] s a.2 (boxS (.slice V0 P.length d0) (.slice V1 Q.length d1) (.slice V2 R.length d2) (.slice Y p.lo.length cy) (.slice VB B.length db) 0) (.slice V0 P.length d0) (.slice V1 Q.length d1) (.slice V2 R.length d2) (.slice Y p.lo.length cy) (.slice VB B.length db) P Q R M B ++ [.row k59 59 (.slice (some ⟨gy, 0, none⟩) nn cb) row]) W6) := ⟨h6⟩; obtain ⟨c0', c1'⟩ := R59_cells (h6.get (j := 9) rfl) HK.out; have c2' := R59_frozen (i := k * 2) (h6.get (j := 9) rfl); clear h6))
                      have H7 : Aside0 (Owned w (stP w.heap.size g4 g6 g7 [.slice A0 p.th.length c0, .slice A1 p.rg.length c1, .slice A2 p.lo.length c2, .slice A3 p.r0.length c3, .slice A4 p.m0.length c4] s a.2 (boxS (.slice V0 P.length d0) (.slice V1 Q.length d1) (.slice V2 R.length d2) (.slice Y p.lo.length cy) (.slice VB B.length db) 0) (.slice V0 P.length d0) (.slice V1 Q.length d1) (.slice V2 R.length d2) (.slice Y p.lo.length cy) (.slice VB B.length db) P Q R M B ++ [.row k59 59 (.slice (some ⟨gy, 0, none⟩) nn cb) (row.set k ⟨a.1, (rd_T59 row (k : Int)).f1⟩)]) (W6.setCell ⟨gy, k * 2, none⟩ (.int .i64 a.1))) := ⟨H6.out.fld (j := 9) rfl k HK.out 0 a.1 ⟨a.1, (rd_T59 row (k : Int)).f1⟩ (by decide) rfl⟩
                      clear z0 z1 z2 z3 z4 x0 x1 x2 c0' c1' c2' hz hz2 hpw H6 HO hlk
                      generalize World.setCell _ _ _ = W8 at H7 ⊢
                      have hw := wrapN HK.out (le_max N64.out)
                      have hlk := HK.out
                      go_wp2_with (first
                        | (go_at_call 92; (with_reducible refine (value_o S.out H7.out (j := 2) rfl).mono ?_); rw [HV.out]; rintro e W9 ⟨rfl, h9⟩; have H9 : Aside0 (Owned w (stP w.heap.size g4 g6 g7 [.slice A0 p.th.length c0, .slice A1 p.rg.length c1, .slice A2 p.lo.length c2, .slice A3 p.r0.length c3, .slice A4 p.m0.length c4] s v.2 (boxS (.slice V0 P.length d0) (.slice V1 Q.length d1) (.slice V2 R.length d2) (.slice Y p.lo.length cy) (.slice VB B.length db) 0) (.slice V0 P.length d0) (.slice V1 Q.length d1) (.slice V2 R.length d2) (.slice Y p.lo.length cy) (.slice VB B.length db) P Q R M B ++ [.row k59 59 (.slice (some ⟨gy, 0, none⟩) nn cb) (row.set k ⟨a.1, (rd_T59 row (k : Int)).f1⟩)]) W9) := ⟨h9⟩; obtain ⟨c0', c1'⟩ := R59_cells (h9.get (j := 9) rfl) HK.out; have c2' := R59_frozen (i := k * 2 + 1) (h9.get (j := 9) rfl); clear h9))
                      go_roundw
                      case rel => exact ⟨k + 1, by rw [hw]; rfl, HK.out, ⟨v.2, D ++ [⟨a.1, v.1⟩], _, by rw [List.length_append, LD.out]; rfl, by rw [ER.out]; exact set_two LD.out HK.out, by rw [← HE1.out, sub_split HK.out, E4_step NZ.out, HA.out, HV.out], H9.out.fld (j := 9) rfl k HK.out 1 v.1 ⟨a.1, v.1⟩ (by decide) (fld1 (by rw [ER.out]; exact len_rep LD.out HK.out) _ _ _)⟩⟩
                      case measure => rw [hw]; exact nat_dec HK.out
                · have hkn : k = nn := Nat.le_antisymm hk (Nat.le_of_not_lt hlk)
                  have HE3 : Aside0 (E3 s p P Q R M (B ++ [row]) (p.th.length - (j + 1)) r = RES) := ⟨by rw [← HE1.out, hkn, Nat.sub_self, E4_end, ER.out, hkn, Nat.sub_self, List.replicate_zero, List.append_nil]⟩
                  have hw := wrapN HJ.out N0.out
                  obtain ⟨y0, y1, y2, y3, y4, y5, f0, f1, f2, f3, f4, f5⟩ := blkA6 (HO.out.blk (j := 3) rfl)
                  clear hkn
                  go_wp2_with ((with_reducible refine gate_builtin (b := .append) (xs := #[.tmp 127, .tmp 129]) rfl ?_); at_builtin; refine Owned.push k59 HO.out (j := 8) (jr := 9) (by decide) rfl rfl (.tmp 127) (.tmp 129) 40 Try.underlying40 info57 (b59_lt LBB.out HJ.out T.out) ?_ rfl rfl rfl rfl; intro v1 W7 h7; clear y0 y1 y2 y3 y4 y5 f0 f1 f2 f3 f4 f5; obtain ⟨Z2, e2, ez⟩ := rows_slice (h7.get (j := 8) rfl); rw [List.length_append, List.length_singleton] at ez; subst ez; have H7 := Aside0.mk (h7.cut 9); obtain ⟨y0, y1, y2, y3, y4, y5, f0, f1, f2, f3, f4, f5⟩ := blkA6 (h7.blk (j := 3) rfl); clear h7)
                  go_roundw
                  case rel => exact ⟨j + 1, by rw [hw]; rfl, HJ.out, ⟨r, .slice Z2 (B.length + 1) e2, B ++ [row], by rw [List.length_append, LBB.out]; rfl, HE3.out, H7.out.cell (j := 3) rfl 4 (.slice Z2 (B.length + 1) e2)⟩⟩
                  case measure => rw [hw]; exact nat_dec HJ.out
            · have hjn : j = p.th.length := Nat.le_antisymm hj (Nat.le_of_not_lt hlt)
              have HF0 : Aside0 (finR s p.th.length P Q R M B r = RES) := ⟨by rw [← HE.out, hjn, Nat.sub_self, E3_end]⟩
              obtain ⟨a, ha⟩ : ∃ a, numM s (-1) ((p.th.length : Int) - 1) r = a := ⟨_, rfl⟩
              have HA := Aside0.mk ha
              have hpw := pred_wrap (th_small T.out)
              obtain ⟨z0, z1, z2, z3, z4, _⟩ := blkA5 (HO.out.blk (j := 0) rfl)
              clear ha hjn
              go_upto_region 36 with (first
                | (go_at_call 91; (with_reducible refine (number_o S.out HO.out (j := 2) rfl (-1) ((p.th.length : Int) - 1)).mono ?_); rw [HA.out]; rintro e W6 ⟨rfl, h6⟩; have H6 : Aside0 (Owned w (stP w.heap.size g4 g6 g7 [.slice A0 p.th.length c0, .slice A1 p.rg.length c1, .slice A2 p.lo.length c2, .slice A3 p.r0.length c3, .slice A4 p.m0.length c4] s a.2 (boxS (.slice V0 P.length d0) (.slice V1 Q.length d1) (.slice V2 R.length d2) (.slice Y p.lo.length cy) (.slice VB B.length db) 0) (.slice V0 P.length d0) (.slice V1 Q.length d1) (.slice V2 R.length d2) (.slice Y p.lo.length cy) (.slice VB B.length db) P Q R M B) W6) := ⟨h6⟩; obtain ⟨y0, y1, y2, y3, y4, y5, f0, f1, f2, f3, f4, f5⟩ := blkA6 (h6.blk (j := 3) rfl); clear h6))
              have H8 := Aside0.mk (H6.out.cell (j := 3) rfl 5 (.int .i64 a.1))
              clear z0 z1 z2 z3 z4 y0 y1 y2 y3 y4 y5 f0 f1 f2 f3 f4 f5 H6 HO hpw hlt hj
              generalize World.setCell _ _ _ = W8 at H8 ⊢
              obtain ⟨av, aat, abad⟩ := a
              have HO : Aside0 (Owned w (stP w.heap.size g4 g6 g7 [.slice A0 p.th.length c0, .slice A1 p.rg.length c1, .slice A2 p.lo.length c2, .slice A3 p.r0.length c3, .slice A4 p.m0.length c4] s (aat, abad) (boxS (.slice V0 P.length d0) (.slice V1 Q.length d1) (.slice V2 R.length d2) (.slice Y p.lo.length cy) (.slice VB B.length db) av) (.slice V0 P.length d0) (.slice V1 Q.length d1) (.slice V2 R.length d2) (.slice Y p.lo.length cy) (.slice VB B.length db) P Q R M B) W8) := ⟨H8.out⟩
              clear H8
              obtain ⟨x0, x1, x2, _⟩ := blkA3 (HO.out.blk (j := 2) rfl)
              cases abad with
              | true =>
                have HR : Aside0 (RES = failR) := ⟨by rw [← HF0.out, finR_bad (by rw [HA.out])]⟩
                as_aux_lemma =>
                  obtain ⟨w0, w1_, w2_, w3_, w4_, w5_, g0_, g1_, g2_, g3_, g4_, g5_⟩ := blkA6 (HO.out.blk (j := 1) rfl)
                  have hb4 := HO.out.blk (j := 1) rfl
                  clear w0 w1_ w2_ w3_ w4_ w5_ g0_ g1_ g2_ g3_ g4_ g5_
                  go_wp2_with (refine wpList_store_row rfl 42 (.tmp 4) (.tmp 153) rfl g4 (boxS (.slice none 0 0) (.slice none 0 0) (.slice none 0 0) (.slice none 0 0) (.slice none 0 0) 0) rfl rfl 42 _ hb4 nb_size rfl nb_one ?_)
                  have HF := Aside0.mk (HO.out.setAll (j := 1) rfl (boxS (.slice none 0 0) (.slice none 0 0) (.slice none 0 0) (.slice none 0 0) (.slice none 0 0) 0))
                  refine bodyPost_ret (results_ct rfl _ _ g4 42 _ (0, 0) _ rfl (HF.out.blk (j := 1) rfl) hu42 rfl (by kernel_rfl)) rfl ⟨.slice none 0 0, .slice none 0 0, .slice none 0 0, .slice none 0 0, .slice none 0 0, by rw [HR.out]; rfl, by rw [HR.out]; exact HF.out.nils⟩
              | false =>
                by_cases hz : aat = (s.size : Int)
                · have HR : Aside0 (RES = (P, Q, R, M, B, av, true)) := ⟨by rw [← HF0.out, finR_ok (by rw [HA.out]; exact Bool.false_ne_true) (by rw [HA.out]; exact hz), HA.out]⟩
                  subst hz
                  have hb7 := HO.out.blk (j := 3) rfl
                  have hb4 := HO.out.blk (j := 1) rfl
                  go_wp2_with (first
                    | (refine wpList_load_row rfl 42 (.tmp 7) rfl g7 rfl 42 _ (0, 0) _ hb7 hu42 rfl (box_size ..) ?_)
                    | (refine wpList_store_row rfl 42 (.tmp 4) (.tmp 154) rfl g4 _ rfl rfl 42 _ hb4 (box_size ..) rfl (box_one ..) ?_))
                  have HF := Aside0.mk (HO.out.setAll (j := 1) rfl (boxS (.slice V0 P.length d0) (.slice V1 Q.length d1) (.slice V2 R.length d2) (.slice Y p.lo.length cy) (.slice VB B.length db) av))
                  refine bodyPost_ret (results_ct rfl _ _ g4 42 _ (0, 0) _ rfl (HF.out.blk (j := 1) rfl) hu42 rfl (box_size ..)) rfl ⟨.slice V0 P.length d0, .slice V1 Q.length d1, .slice V2 R.length d2, .slice Y p.lo.length cy, .slice VB B.length db, by rw [HR.out]; rfl, by rw [HR.out]; exact HF.out.tail 4⟩
                · have HR : Aside0 (RES = failR) := ⟨by rw [← HF0.out, finR_no (by rw [HA.out]; exact Bool.false_ne_true) (by rw [HA.out]; exact hz)]⟩
                  have hz2 : (aat != (s.size : Int)) = true := bne_iff_ne.2 hz
                  as_aux_lemma =>
                    obtain ⟨w0, w1_, w2_, w3_, w4_, w5_, g0_, g1_, g2_, g3_, g4_, g5_⟩ := blkA6 (HO.out.blk (j := 1) rfl)
                    have hb4 := HO.out.blk (j := 1) rfl
                    clear w0 w1_ w2_ w3_ w4_ w5_ g0_ g1_ g2_ g3_ g4_ g5_
                    go_wp2_with (refine wpList_store_row rfl 42 (.tmp 4) (.tmp 153) rfl g4 (boxS (.slice none 0 0) (.slice none 0 0) (.slice none 0 0) (.slice none 0 0) (.slice none 0 0) 0) rfl rfl 42 _ hb4 nb_size rfl nb_one ?_)
                    have HF := Aside0.mk (HO.out.setAll (j := 1) rfl (boxS (.slice none 0 0) (.slice none 0 0) (.slice none 0 0) (.slice none 0 0) (.slice none 0 0) 0))
                    refine bodyPost_ret (results_ct rfl _ _ g4 42 _ (0, 0) _ rfl (HF.out.blk (j := 1) rfl) hu42 rfl (by kernel_rfl)) rfl ⟨.slice none 0 0, .slice none 0 0, .slice none 0 0, .slice none 0 0, .slice none 0 0, by rw [HR.out]; rfl, by rw [HR.out]; exact HF.out.nils⟩
end Go.Proofs.Ytemhpbdlonfikaa.P
