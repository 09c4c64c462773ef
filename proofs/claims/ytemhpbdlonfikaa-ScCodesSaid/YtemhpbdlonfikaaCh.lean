/- Start and First, walked by hand. -/
import Derived.Test.YtemhpbdlonfikaaSo
import Derived.Test.YtemhpbdlonfikaaCc
import Derived.Test.YtemhpbdlonfikaaHreg
import Derived.Test.YtemhpbdlonfikaaCy
import Derived.Test.YtemhpbdlonfikaaPua
namespace Go.Proofs.Ytemhpbdlonfikaa.P
open Go Go.RowKit Go.Proofs.YtemhpbdlonfikaaW.PrintWords Go.Proofs.YtemhpbdlonfikaaW.PrintLast Go.Proofs.YtemhpbdlonfikaaW.PrintMore
section
variable {P : Program} {ops : Array Oper} {Q : Exit → Act → World → Prop} {T : Bool × List (List Nat × List Nat)} {a0 : Act} {w0 : World} {ev : List (Nat × Tmp)} {use : Nat → List Nat} {F : Nat → (Nat → Value) → (Nat → Prop) → World → Prop} {i : Nat} {N : Tmp} {oi : Oper} {α : Type}
/-- make([]T, n), as an event. -/
theorem ev_make (d : Kd α) (e t : TypeId) (n : Nat) (z : Value) (bytes : Nat) (z0 : α) (x y : Operand) (hoi : ops[i]? = some oi) (hN : oi.dst = some N) (hg : oi.guard = none) (ho : oi.op = .makeSlice t x y) (hF : F i = fun vs ok W => d.R e W w0.heap.size ok (vs i) (List.replicate n z0))
    (hx : ∀ l vs, (actF a0 ev l vs).eval x = .int .i64 (n : Int)) (hy : ∀ l vs, (actF a0 ev l vs).eval y = .int .i64 (n : Int)) (ht : P.underlying t = some (.slice e)) (hinfo : (P.info? e).map (fun i => (i.zero, i.size, i.bytes)) = some (some z, d.sz, bytes)) (hz : z.cells.size = d.sz) (hs0 : 0 < d.sz) (hb0 : 0 < bytes)
    (hzero : ∀ W b, d.M W b (fun _ => False) z0 z.cells.toList) (hl : n * bytes ≤ 281474976710656) : EvOk P ops Q T a0 w0 ev use F i N := by
  refine ev_fresh (fun v ok W => d.R e W w0.heap.size ok v (List.replicate n z0)) (fun _ _ _ _ _ h hm => R_mv h hm) hoi hN hF (fun l vs W hb K hK => ?_)
  rw [← hN]
  refine Kd.R_make_step d (w0 := W) W.heap.size e (wanted_of hg _) hN t x y ho n (hx l vs) (hy l vs) ht z bytes hinfo hz hs0 hb0 z0 (ok := fun _ => True) (okp := fun _ => False) (hzero _ _) (fun _ h => h.elim) trivial (Int.natCast_nonneg n) (by rw [Int.toNat_natCast]; exact hl) (Below.refl _ _) (Nat.le_refl _) (fun v1 w1 hr hb1 _ _ => ?_)
  rw [Int.toNat_natCast] at hr
  rw [hN]
  exact hK.out v1 w1 hb1 (Kd.R_lower (Kd.R_mono (Kd.R_bound hr) (fun k hk => hk.2.1)) hb.size)
theorem ev_makes (d : Kd α) (e t : TypeId) (n : Nat) (z : Value) (bytes : Nat) (z0 : α) (x y : Operand) (hoi : ops[i]? = some oi) (hN : oi.dst = some N) (hg : oi.guard = none) (ho : oi.op = .makeSlice t x y) (hF : F i = fun vs ok W => Kd.S d e W w0.heap.size ok (vs i) (List.replicate n z0))
    (hx : ∀ l vs, (actF a0 ev l vs).eval x = .int .i64 (n : Int)) (hy : ∀ l vs, (actF a0 ev l vs).eval y = .int .i64 (n : Int)) (ht : P.underlying t = some (.slice e)) (hinfo : (P.info? e).map (fun i => (i.zero, i.size, i.bytes)) = some (some z, d.sz, bytes)) (hz : z.cells.size = d.sz) (hs0 : 0 < d.sz) (hb0 : 0 < bytes)
    (hzero : ∀ W b, d.M W b (fun _ => False) z0 z.cells.toList) (hl : n * bytes ≤ 281474976710656) : EvOk P ops Q T a0 w0 ev use F i N := by
  refine ev_fresh (fun v ok W => Kd.S d e W w0.heap.size ok v (List.replicate n z0)) (fun _ _ _ _ _ h hm => S_mv h hm) hoi hN hF (fun l vs W hb K hK => ?_)
  rw [← hN]
  refine Kd.S_make_step d (w0 := W) W.heap.size e (wanted_of hg _) hN t x y ho n (hx l vs) (hy l vs) ht z bytes hinfo hz hs0 hb0 z0 (ok := fun _ => True) (okp := fun _ => False) (hzero _ _) (fun _ h => h.elim) trivial (Int.natCast_nonneg n) (by rw [Int.toNat_natCast]; exact hl) (Below.refl _ _) (Nat.le_refl _) (fun v1 w1 hr hb1 _ _ => ?_)
  rw [Int.toNat_natCast] at hr
  rw [hN]
  exact hK.out v1 w1 hb1 (Kd.S_lower (Kd.S_mono (Kd.S_bound hr) (fun k hk => hk.2.1)) hb.size)
end
theorem few8 {n : Nat} (h : n ≤ 4) : n * 8 ≤ 281474976710656 := by omega
theorem few24 {n : Nat} (h : n ≤ 4) : n * 24 ≤ 281474976710656 := by omega
theorem few_m {m l : Nat} (h : m = l) (t : l ≤ 16) : m * 8 ≤ 140737488355328 := by omega
theorem rowsS_c {W : World} {p : Pg} {A : Option Addr} {c : Nat} (h : Kd.C (Kd.slice 2 (Kd.int .i64)) W A p.r0.length p.r0) (hc : p.r0.length ≤ c) (S : SmallPg p) :
    Calls Try.prog 50 #[.slice A p.r0.length c] W fun e W1 => ∃ v, e = .returned v ∧ Below W.heap.size W W1 ∧ Kd.S (Kd.slice 2 (Kd.int .i64)) 26 W1 W.heap.size (fun k => W.heap.size ≤ k) v p.r0 := by
  obtain ⟨K, hK⟩ := (rows_is p.r0 (by rw [S.r0]; exact S.th) S.r0row).rounds
  refine (sc_rows_int64.calls K A c p.r0 p.r0 W h hc hK).mono ?_
  rintro e W1 ⟨v, rfl, hS, hb⟩
  exact ⟨v, rfl, hb, Kd.S_mono (Kd.S_bound hS) (fun k hk => hk.2.1)⟩
theorem rowsR_c {W : World} {p : Pg} {A : Option Addr} {c : Nat} (h : Kd.C (Kd.slice 2 (Kd.int .i64)) W A p.r0.length p.r0) (hc : p.r0.length ≤ c) (S : SmallPg p) :
    Calls Try.prog 44 #[.slice A p.r0.length c] W fun e W1 => ∃ v, e = .returned v ∧ Below W.heap.size W W1 ∧ Kd.S (Kd.slice 2 (Kd.int .i64)) 26 W1 W.heap.size (fun k => W.heap.size ≤ k) v p.r0 := by
  obtain ⟨K, hK⟩ := (copy_rows p.r0 (by rw [S.r0]; exact S.th) S.r0row).rounds
  refine (weirref09_Copy.calls K A c p.r0 p.r0 W h hc hK).mono ?_
  rintro e W1 ⟨v, rfl, hS, hb⟩
  exact ⟨v, rfl, hb, Kd.S_mono (Kd.S_bound hS) (fun k hk => hk.2.1)⟩
theorem cloneS_c {W : World} {p : Pg} {A : Option Addr} {c : Nat} (h : Kd.C (Kd.int .i64) W A p.m0.length p.m0) (hc : p.m0.length ≤ c) (S : SmallPg p) :
    Calls Try.prog 51 #[.slice A p.m0.length c] W fun e W1 => ∃ v, e = .returned v ∧ Below W.heap.size W W1 ∧ Kd.R (Kd.int .i64) 2 W1 W.heap.size (fun k => W.heap.size ≤ k) v p.m0 := by
  refine (slices_Clone_int64_int64.calls A c p.m0 p.m0 W h hc (clone_is p.m0 (by rw [S.m0]; exact S.lo))).mono ?_
  rintro e W1 ⟨v, rfl, hS, hb⟩
  exact ⟨v, rfl, hb, Kd.R_mono (Kd.R_bound hS) (fun k hk => hk.2.1)⟩
/-- What Start answers. -/
noncomputable def startA (p : Pg) : RdT := if validM p = 0 then ((firstM p).p, (firstM p).q, (firstM p).rg, (firstM p).me, (firstM p).bf, (firstM p).lk, 0) else readN (validM p)
theorem startA_ok {p : Pg} (h : validM p = 0) : startA p = (List.replicate p.th.length 0, List.replicate p.th.length 0, p.r0, p.m0, List.replicate p.th.length [], -1, 0) := by unfold startA; rw [if_pos h]; rfl
theorem startA_no {p : Pg} (h : ¬ validM p = 0) : startA p = ([], [], [], [], [], 0, validM p) := by unfold startA; rw [if_neg h]; rfl
def swT : Bool × List (List Nat × List Nat) := (true, [([], []), ([0, 0], [0]), ([], []), ([2, 2], [2]), ([], []), ([4], [4]), ([5], [5]), ([], []), ([7], [7]), ([8, 6], [8]), ([], []), ([10, 10], [10]), ([1, 3, 6, 9, 11], [1, 3, 6, 9, 11]), ([12, 9, 0, 1, 2, 3, 4, 5, 6, 7, 8, 9, 10, 11, 12], [12]), ([13, 0, 1, 2, 3, 4, 5, 6, 7, 8, 9, 10, 11, 12, 13], [])])
def swB : List Nat := [0, 1, 0, 4, 0, 16, 48, 0, 128, 496, 0, 1024, 4095, 8191, 16383]
theorem sw_tab : rtab .any (opsOf Try.f18 5) = swT := by kernel_rfl
theorem sw_bits : waitsOk swT.2 swB = true := by kernel_rfl
def fwT : Bool × List (List Nat × List Nat) := (true, [([], []), ([0, 0], [0]), ([], []), ([2, 2], [2]), ([], []), ([4], [4]), ([5], [5]), ([], []), ([], []), ([8], [8]), ([7, 9, 6], [7, 9]), ([], []), ([11, 11], [11]), ([1, 3, 6, 10, 12], [1, 3, 6, 10, 12]), ([13, 10, 0, 1, 2, 3, 4, 5, 6, 7, 8, 9, 10, 11, 12, 13], [13])])
def fwB : List Nat := [0, 1, 0, 4, 0, 16, 48, 0, 0, 256, 1008, 0, 2048, 8191, 16383]
theorem fw_tab : rtab .any (opsOf Try.f28 2) = fwT := by kernel_rfl
theorem fw_bits : waitsOk fwT.2 fwB = true := by kernel_rfl
theorem nil_m {W : World} {b : Nat} {okp : Nat → Prop} : (Kd.slice 59 k59).M W b okp ([] : List S59) (Value.slice none 0 0).cells.toList := Kd.M_row (Kd.R_nil _ _ _ _ _)
set_option maxHeartbeats 8000000 in
set_option maxRecDepth 100000 in
theorem first_c {w : World} {p : Pg} {pv : List Value} (hp : PgV w pv p) (hS : SmallPg p) : Calls Try.prog 28 #[.agg pv.toArray] w fun e W' => ∃ av, e = .returned (.agg av.toArray) ∧ av.toArray.all (·.oneCell') = true ∧ (Try.prog.info? 42).map (·.size) = some av.toArray.size ∧ zS.size = av.toArray.size ∧ StR w.heap.size W' av (List.replicate p.th.length 0, List.replicate p.th.length 0, p.r0, p.m0, List.replicate p.th.length [], -1) ∧ Below w.heap.size w W' := by
  obtain ⟨A0, A1, A2, A3, A4, c0, c1, c2, c3, c4, rfl, x0, l0, x1, l1, x2, l2, x3, l3, x4, l4⟩ := hp
  have SM := Aside0.mk hS
  have X3 := Aside0.mk (And.intro x3 l3)
  have X4 := Aside0.mk (And.intro x4 l4)
  clear x0 x1 x2 x3 x4 l0 l1 l2 l3 l4 hS
  have hu42 := Try.underlying42
  go_enter Try.func28, Try.ntmps28
  go_upto_region 1 with fail
  generalize hW : World.alloc (World.alloc w _) _ = W0
  generalize h4 : w.heap.size + 1 = g
  have HO := Aside0.mk (two_box w 28 42 #[.slice A0 p.th.length c0, .slice A1 p.rg.length c1, .slice A2 p.lo.length c2, .slice A3 p.r0.length c3, .slice A4 p.m0.length c4] zS W0 g hW.symm h4.symm)
  clear hW h4
  obtain ⟨y0, y1, y2, y3, y4, _⟩ := blkA5 (HO.out.blk (j := 0) rfl)
  go_upto_region 2 with fail
  clear y0 y1 y2 y3 y4
  have HD := Aside0.mk HO.out.drew
  clear HO
  have HO := HD
  clear HD
  obtain ⟨y0, y1, y2, y3, y4, _⟩ := blkA5 (HO.out.blk (j := 0) rfl)
  refine start_ (n := 15) (S := fun w' => w'.cell? ⟨w.heap.size, 3, none⟩ = some (.slice A3 p.r0.length c3) ∧ w'.cell? ⟨w.heap.size, 4, none⟩ = some (.slice A4 p.m0.length c4)) (ds := [14]) #[false, false, false, false, false, false, false, false, false, false, false, false, false, false, false] (by kernel_rfl) rfl rfl ⟨y3, y4⟩ (fun hHeld => ?_); refine with_tabW fw_tab fw_bits (fun HT_ HW_ => ?_)
  clear y0 y1 y2 y3 y4
  generalize World.drew _ = W1 at HO hHeld ⊢
  refine pu_ 0 7 ?_
  refine pu_ 2 9 ?_
  refine pu_ 4 11 ?_
  refine pu_ 8 15 ?_
  refine pu_ 11 18 ?_
  refine ta_ 5 12 ?_ hHeld
  refine ta_ 9 16 ?_ hHeld
  refine inv_ 1 #[true, true, true, true, true, true, true, true, true, true, true, true, true, true, false] (w0 := W1) [(1, 8), (3, 10), (6, 13), (7, 14), (10, 17), (12, 19), (13, 20)] (fun e => match e with | 10 => [7] | _ => []) (fun e vs ok W => match e with | 1 => Kd.R (Kd.int .i64) 3 W W1.heap.size ok (vs 1) (List.replicate p.th.length 0) | 3 => Kd.R (Kd.int .i64) 3 W W1.heap.size ok (vs 3) (List.replicate p.th.length 0) | 6 => Kd.S (Kd.slice 2 (Kd.int .i64)) 26 W W1.heap.size ok (vs 6) p.r0 | 7 => Kd.R (Kd.int .i64) 2 W W1.heap.size ok (vs 7) [] | 10 => Kd.R (Kd.int .i64) 2 W W1.heap.size ok (vs 10) ([] ++ p.m0) | 12 => Kd.S (Kd.slice 59 k59) 57 W W1.heap.size ok (vs 12) (List.replicate p.th.length []) | 13 => vs 13 = .agg #[vs 1, vs 3, vs 6, vs 10, vs 12, .int .i64 (-1)] | _ => True) HT_.out (by kernel_rfl) (by rfl) ?iS ?iE ?iC
  case iS => exact fun W hb => ⟨pw_cell_below hb hHeld.1, pw_cell_below hb hHeld.2⟩
  case iE =>
    have hx : ∀ W, Below W1.heap.size W1 W → Below w.heap.size w W := fun W hb => below_then HO.out.below HO.out.below.size hb
    refine evs_cons ?_ (evs_cons ?_ (evs_cons ?_ (evs_cons ?_ (evs_cons ?_ (evs_cons ?_ (evs_cons ?_ (evs_nil)))))))
    · exact ev_make (Kd.int .i64) 3 29 p.th.length (.int .i64 0) 8 0 (.tmp 7) (.tmp 7) rfl rfl rfl rfl rfl (fun _ _ => rfl) (fun _ _ => rfl) Try.underlying29 info3 rfl (by decide) (by decide) (fun _ _ => rfl) (few8 SM.out.th)
    · exact ev_make (Kd.int .i64) 3 29 p.th.length (.int .i64 0) 8 0 (.tmp 9) (.tmp 9) rfl rfl rfl rfl rfl (fun _ _ => rfl) (fun _ _ => rfl) Try.underlying29 info3 rfl (by decide) (by decide) (fun _ _ => rfl) (few8 SM.out.th)
    · exact ev_call (fun v ok W => Kd.S (Kd.slice 2 (Kd.int .i64)) 26 W W1.heap.size ok v p.r0) (fun _ _ _ _ _ h hm => S_mv h hm) Try.func44 (by kernel_rfl) rfl #[.slice A3 p.r0.length c3] rfl rfl rfl rfl rfl (fun _ _ => ag_) (fun W hb => (rowsR_c (Kd.C_below X3.out.1 (hx W hb)) X3.out.2 SM.out).mono (by rintro e W2 ⟨v, rfl, hb2, hS⟩; exact ⟨v, rfl, hb2, Kd.S_lower hS hb.size⟩))
    · exact ev_lit (Kd.int .i64) 2 rfl rfl rfl rfl (fun _ _ => by first | (go_simp; done) | (go_simp; rfl))
    · exact ev_append (Kd.int .i64) 7 14 (.tmp 16) 26 2 (.int .i64 0) 8 [] p.m0 _ _ _ (by kernel_rfl) rfl rfl rfl rfl (by kernel_rfl) (by decide) (by simp) rfl rfl rfl Try.underlying26 info2 rfl (by decide) (by decide) (fun _ _ => rfl) (fun W hb => Kd.C_below X4.out.1 (hx W hb)) (fun _ _ _ h_ => h_) (by rw [List.length_nil, Nat.zero_add]; exact few_m SM.out.m0 SM.out.lo)
    · exact ev_makes (Kd.slice 59 k59) 57 40 p.th.length (.slice none 0 0) 24 [] (.tmp 18) (.tmp 18) rfl rfl rfl rfl rfl (fun _ _ => rfl) (fun _ _ => rfl) Try.underlying40 info57 rfl (by decide) (by decide) (fun _ _ => nil_m) (few24 SM.out.th)
    · refine ev_val (fun vs => .agg #[vs 1, vs 3, vs 6, vs 10, vs 12, .int .i64 (-1)]) rfl rfl rfl rfl (fun vs vs' h_ => by simp only [h_ 1 (by decide), h_ 3 (by decide), h_ 6 (by decide), h_ 10 (by decide), h_ 12 (by decide)]) (by kernel_rfl) (by kernel_rfl) (by simp) (fun A vs W h1 _ h3 => ?_)
      have q1 := h1 (1, 8) (by decide) (by kernel_rfl)
      obtain ⟨_, k1⟩ := h3 (1, 8) (by decide) (by kernel_rfl) (by decide)
      have q3 := h1 (3, 10) (by decide) (by kernel_rfl)
      obtain ⟨_, k3⟩ := h3 (3, 10) (by decide) (by kernel_rfl) (by decide)
      have q6 := h1 (6, 13) (by decide) (by kernel_rfl)
      obtain ⟨_, k6⟩ := h3 (6, 13) (by decide) (by kernel_rfl) (by decide)
      have q10 := h1 (10, 17) (by decide) (by kernel_rfl)
      obtain ⟨_, k10⟩ := h3 (10, 17) (by decide) (by kernel_rfl) (by decide)
      have q12 := h1 (12, 19) (by decide) (by kernel_rfl)
      obtain ⟨_, k12⟩ := h3 (12, 19) (by decide) (by kernel_rfl) (by decide)
      obtain ⟨A1, c1, e1⟩ := Kd.R_slice (show Kd.R (Kd.int .i64) 3 W W1.heap.size _ (vs 1) _ from k1)
      obtain ⟨A3, c3, e3⟩ := Kd.R_slice (show Kd.R (Kd.int .i64) 3 W W1.heap.size _ (vs 3) _ from k3)
      obtain ⟨A6, c6, e6⟩ := Kd.S_slice (show Kd.S (Kd.slice 2 (Kd.int .i64)) 26 W W1.heap.size _ (vs 6) _ from k6)
      obtain ⟨A10, c10, e10⟩ := Kd.R_slice (show Kd.R (Kd.int .i64) 2 W W1.heap.size _ (vs 10) _ from k10)
      obtain ⟨A12, c12, e12⟩ := Kd.S_slice (show Kd.S (Kd.slice 59 k59) 57 W W1.heap.size _ (vs 12) _ from k12)
      simp only [e1] at q1 ⊢
      simp only [e3] at q3 ⊢
      simp only [e6] at q6 ⊢
      simp only [e10] at q10 ⊢
      simp only [e12] at q12 ⊢
      simp [execOp, q1, q3, q6, q10, q12]
      go_simp
      first | done | rfl
  case iC =>
    intro vs col W2 hb hF
    have e17 : vs 13 = .agg #[vs 1, vs 3, vs 6, vs 10, vs 12, .int .i64 (-1)] := hF (13, 20) (by decide) (by decide)
    have hO := HO.out.many hb (col := col) [(1, .row (Kd.int .i64) 3 (vs 1) (List.replicate p.th.length 0)), (3, .row (Kd.int .i64) 3 (vs 3) (List.replicate p.th.length 0)), (6, .rows (Kd.int .i64) 26 (vs 6) p.r0 2), (10, .row (Kd.int .i64) 2 (vs 10) p.m0), (12, .rows k59 57 (vs 12) (List.replicate p.th.length []) 59)] (fun e => match e with | 1 => 0 | 3 => 1 | 6 => 2 | 10 => 3 | _ => 4) (fun j e q hj => by
      match j with
      | 0 => cases hj; exact ⟨hF (1, 8) (by decide) (by decide), rfl⟩
      | 1 => cases hj; exact ⟨hF (3, 10) (by decide) (by decide), rfl⟩
      | 2 => cases hj; exact ⟨hF (6, 13) (by decide) (by decide), rfl⟩
      | 3 => cases hj; exact ⟨hF (10, 17) (by decide) (by decide), rfl⟩
      | 4 => cases hj; exact ⟨hF (12, 19) (by decide) (by decide), rfl⟩
      | n + 5 => cases hj)
    have HP := Aside0.mk hO
    clear hO HO hF hHeld
    obtain ⟨v1, h1⟩ : ∃ v, vs 1 = v := ⟨_, rfl⟩
    obtain ⟨v3, h3⟩ : ∃ v, vs 3 = v := ⟨_, rfl⟩
    obtain ⟨v6, h6⟩ : ∃ v, vs 6 = v := ⟨_, rfl⟩
    obtain ⟨v10, h10⟩ : ∃ v, vs 10 = v := ⟨_, rfl⟩
    obtain ⟨v12, h12⟩ : ∃ v, vs 12 = v := ⟨_, rfl⟩
    simp only [h1, h3, h6, h10, h12] at HP e17
    refine norm_ (a' := ?_) ?_ ?_; rotate_left
    · simp only [putAll, List.map_cons, List.map_nil, e17, h1, h3, h6, h10, h12, Act.put, List.setIfInBounds_toArray, List.set_cons_zero, List.set_cons_succ]
      rfl
    obtain ⟨V0, d0, rfl⟩ := row_slice (HP.out.get (j := 2) rfl)
    obtain ⟨V1, d1, rfl⟩ := row_slice (HP.out.get (j := 3) rfl)
    obtain ⟨V2, d2, rfl⟩ := rows_slice (HP.out.get (j := 4) rfl)
    obtain ⟨V3, d3, rfl⟩ := row_slice (HP.out.get (j := 5) rfl)
    obtain ⟨V4, d4, rfl⟩ := rows_slice (HP.out.get (j := 6) rfl)
    refine la_ 14 (W2.setRow g (boxS (.slice V0 (List.replicate p.th.length (0 : Int)).length d0) (.slice V1 (List.replicate p.th.length (0 : Int)).length d1) (.slice V2 p.r0.length d2) (.slice V3 p.m0.length d3) (.slice V4 (List.replicate p.th.length ([] : List S59)).length d4) (-1))) ?_ rfl rfl (hrun := exec_store_row g (HP.out.blk (j := 1) rfl) (box_size ..) rfl (box_one ..) rfl rfl rfl)
    have HF := Aside0.mk (HP.out.setAll (j := 1) rfl (boxS (.slice V0 (List.replicate p.th.length (0 : Int)).length d0) (.slice V1 (List.replicate p.th.length (0 : Int)).length d1) (.slice V2 p.r0.length d2) (.slice V3 p.m0.length d3) (.slice V4 (List.replicate p.th.length ([] : List S59)).length d4) (-1)))
    generalize World.setRow _ _ _ = W3 at HF ⊢
    go_wp2_with fail
    refine bodyPost_ret (results_c1 rfl _ _ g 42 _ (0, 0) _ rfl (HF.out.blk (j := 1) rfl) hu42 rfl (box_size ..)) rfl ?_
    exact ⟨_, rfl, box_one .., box_size .., rfl, StR.own (HF.out.tail 2), HF.out.below⟩
set_option maxHeartbeats 8000000 in
set_option maxRecDepth 100000 in
theorem start_c {w : World} {p : Pg} {pv : List Value} (hp : PgV w pv p) (hz : VSz p) :
    Calls Try.prog 18 #[.agg pv.toArray] w fun e W' => ∃ av, e = .returned (.tuple #[.agg av.toArray, .int .i64 (startA p).2.2.2.2.2.2]) ∧ StR w.heap.size W' av (stOf (startA p)) ∧ Below w.heap.size w W' := by
  have hvr := valid_prog hz
  obtain ⟨X, hX⟩ : ∃ X, startA p = X := ⟨_, rfl⟩
  rw [hX]
  have EX := Aside0.mk hX
  have HP := Aside0.mk hp
  obtain ⟨A0, A1, A2, A3, A4, c0, c1, c2, c3, c4, rfl, x0, l0, x1, l1, x2, l2, x3, l3, x4, l4⟩ := hp
  obtain ⟨vv, hvv⟩ : ∃ x, validM p = x := ⟨_, rfl⟩
  have HZ := Aside0.mk hvv
  rw [hvv] at hvr
  have HV := Aside0.mk hvr
  have X3 := Aside0.mk (And.intro x3 l3)
  have X4 := Aside0.mk (And.intro x4 l4)
  clear hvv hvr hX x0 x1 x2 x3 x4 l0 l1 l2 l3 l4
  have hu28 := Try.underlying28
  have hu42 := Try.underlying42
  go_enter Try.func18, Try.ntmps18
  go_upto_region 1 with fail
  generalize hW : World.alloc (World.alloc w _) _ = W0
  generalize h4 : w.heap.size + 1 = g
  have HO := Aside0.mk (two_box w 28 42 #[.slice A0 p.th.length c0, .slice A1 p.rg.length c1, .slice A2 p.lo.length c2, .slice A3 p.r0.length c3, .slice A4 p.m0.length c4] zS W0 g hW.symm h4.symm)
  clear hW h4
  have hb2 := HO.out.blk (j := 0) rfl
  go_upto_region 2 with (first
    | (refine wpList_load_row rfl 28 (.tmp 1) rfl w.heap.size rfl 28 _ (0, 0) _ hb2 hu28 rfl (by kernel_rfl) ?_)
    | (go_at_call 36; (with_reducible refine (svalid_o HP.out HO.out HV.out).mono ?_); rintro e W1 ⟨rfl, h1⟩; have HO1 := Aside0.mk h1; clear h1))
  clear hb2 HO
  have HO := HO1
  clear HO1
  by_cases hv0 : vv = 0
  · subst hv0
    have hX := EX.out
    rw [startA_ok HZ.out] at hX
    subst hX
    have SM := Aside0.mk (valid_right HZ.out).2
    have hle : p.th.length ≤ 4 := SM.out.th
    obtain ⟨y0, y1, y2, y3, y4, _⟩ := blkA5 (HO.out.blk (j := 0) rfl)
    go_upto_region 5 with fail
    clear y0 y1 y2 y3 y4 hle
    have HD := Aside0.mk HO.out.drew
    clear HO
    have HO := HD
    clear HD
    obtain ⟨y0, y1, y2, y3, y4, _⟩ := blkA5 (HO.out.blk (j := 0) rfl)
    refine start_ (n := 15) (S := fun w' => w'.cell? ⟨w.heap.size, 3, none⟩ = some (.slice A3 p.r0.length c3) ∧ w'.cell? ⟨w.heap.size, 4, none⟩ = some (.slice A4 p.m0.length c4)) (ds := [13, 14]) #[false, false, false, false, false, false, false, false, false, false, false, false, false, false, false] (by kernel_rfl) rfl rfl ⟨y3, y4⟩ (fun hHeld => ?_); refine with_tabW sw_tab sw_bits (fun HT_ HW_ => ?_)
    clear y0 y1 y2 y3 y4
    generalize World.drew _ = W1 at HO hHeld ⊢
    refine pu_ 0 15 ?_
    refine pu_ 2 17 ?_
    refine pu_ 4 19 ?_
    refine pu_ 7 22 ?_
    refine pu_ 10 25 ?_
    refine ta_ 5 20 ?_ hHeld
    refine ta_ 8 23 ?_ hHeld
    refine inv_ 2 #[true, true, true, true, true, true, true, true, true, true, true, true, true, false, false] (w0 := W1) [(1, 16), (3, 18), (6, 21), (9, 24), (11, 26), (12, 27)] (fun _ => []) (fun e vs ok W => match e with | 1 => Kd.R (Kd.int .i64) 3 W W1.heap.size ok (vs 1) (List.replicate p.th.length 0) | 3 => Kd.R (Kd.int .i64) 3 W W1.heap.size ok (vs 3) (List.replicate p.th.length 0) | 6 => Kd.S (Kd.slice 2 (Kd.int .i64)) 26 W W1.heap.size ok (vs 6) p.r0 | 9 => Kd.R (Kd.int .i64) 2 W W1.heap.size ok (vs 9) p.m0 | 11 => Kd.S (Kd.slice 59 k59) 57 W W1.heap.size ok (vs 11) (List.replicate p.th.length []) | 12 => vs 12 = .agg #[vs 1, vs 3, vs 6, vs 9, vs 11, .int .i64 (-1)] | _ => True) HT_.out (by kernel_rfl) (by rfl) ?iS ?iE ?iC
    case iS => exact fun W hb => ⟨pw_cell_below hb hHeld.1, pw_cell_below hb hHeld.2⟩
    case iE =>
      have hx : ∀ W, Below W1.heap.size W1 W → Below w.heap.size w W := fun W hb => below_then HO.out.below HO.out.below.size hb
      refine evs_cons ?_ (evs_cons ?_ (evs_cons ?_ (evs_cons ?_ (evs_cons ?_ (evs_cons ?_ (evs_nil))))))
      · exact ev_make (Kd.int .i64) 3 29 p.th.length (.int .i64 0) 8 0 (.tmp 15) (.tmp 15) rfl rfl rfl rfl rfl (fun _ _ => rfl) (fun _ _ => rfl) Try.underlying29 info3 rfl (by decide) (by decide) (fun _ _ => rfl) (few8 SM.out.th)
      · exact ev_make (Kd.int .i64) 3 29 p.th.length (.int .i64 0) 8 0 (.tmp 17) (.tmp 17) rfl rfl rfl rfl rfl (fun _ _ => rfl) (fun _ _ => rfl) Try.underlying29 info3 rfl (by decide) (by decide) (fun _ _ => rfl) (few8 SM.out.th)
      · exact ev_call (fun v ok W => Kd.S (Kd.slice 2 (Kd.int .i64)) 26 W W1.heap.size ok v p.r0) (fun _ _ _ _ _ h hm => S_mv h hm) Try.func50 (by kernel_rfl) rfl #[.slice A3 p.r0.length c3] rfl rfl rfl rfl rfl (fun _ _ => ag_) (fun W hb => (rowsS_c (Kd.C_below X3.out.1 (hx W hb)) X3.out.2 SM.out).mono (by rintro e W2 ⟨v, rfl, hb2, hS⟩; exact ⟨v, rfl, hb2, Kd.S_lower hS hb.size⟩))
      · exact ev_call (fun v ok W => Kd.R (Kd.int .i64) 2 W W1.heap.size ok v p.m0) (fun _ _ _ _ _ h hm => R_mv h hm) Try.func51 (by kernel_rfl) rfl #[.slice A4 p.m0.length c4] rfl rfl rfl rfl rfl (fun _ _ => ag_) (fun W hb => (cloneS_c (Kd.C_below X4.out.1 (hx W hb)) X4.out.2 SM.out).mono (by rintro e W2 ⟨v, rfl, hb2, hS⟩; exact ⟨v, rfl, hb2, Kd.R_lower hS hb.size⟩))
      · exact ev_makes (Kd.slice 59 k59) 57 40 p.th.length (.slice none 0 0) 24 [] (.tmp 25) (.tmp 25) rfl rfl rfl rfl rfl (fun _ _ => rfl) (fun _ _ => rfl) Try.underlying40 info57 rfl (by decide) (by decide) (fun _ _ => nil_m) (few24 SM.out.th)
      · refine ev_val (fun vs => .agg #[vs 1, vs 3, vs 6, vs 9, vs 11, .int .i64 (-1)]) rfl rfl rfl rfl (fun vs vs' h_ => by simp only [h_ 1 (by decide), h_ 3 (by decide), h_ 6 (by decide), h_ 9 (by decide), h_ 11 (by decide)]) (by kernel_rfl) (by kernel_rfl) (by simp) (fun A vs W h1 _ h3 => ?_)
        have q1 := h1 (1, 16) (by decide) (by kernel_rfl)
        obtain ⟨_, k1⟩ := h3 (1, 16) (by decide) (by kernel_rfl) (by decide)
        have q3 := h1 (3, 18) (by decide) (by kernel_rfl)
        obtain ⟨_, k3⟩ := h3 (3, 18) (by decide) (by kernel_rfl) (by decide)
        have q6 := h1 (6, 21) (by decide) (by kernel_rfl)
        obtain ⟨_, k6⟩ := h3 (6, 21) (by decide) (by kernel_rfl) (by decide)
        have q9 := h1 (9, 24) (by decide) (by kernel_rfl)
        obtain ⟨_, k9⟩ := h3 (9, 24) (by decide) (by kernel_rfl) (by decide)
        have q11 := h1 (11, 26) (by decide) (by kernel_rfl)
        obtain ⟨_, k11⟩ := h3 (11, 26) (by decide) (by kernel_rfl) (by decide)
        obtain ⟨A1, c1, e1⟩ := Kd.R_slice (show Kd.R (Kd.int .i64) 3 W W1.heap.size _ (vs 1) _ from k1)
        obtain ⟨A3, c3, e3⟩ := Kd.R_slice (show Kd.R (Kd.int .i64) 3 W W1.heap.size _ (vs 3) _ from k3)
        obtain ⟨A6, c6, e6⟩ := Kd.S_slice (show Kd.S (Kd.slice 2 (Kd.int .i64)) 26 W W1.heap.size _ (vs 6) _ from k6)
        obtain ⟨A9, c9, e9⟩ := Kd.R_slice (show Kd.R (Kd.int .i64) 2 W W1.heap.size _ (vs 9) _ from k9)
        obtain ⟨A11, c11, e11⟩ := Kd.S_slice (show Kd.S (Kd.slice 59 k59) 57 W W1.heap.size _ (vs 11) _ from k11)
        simp only [e1] at q1 ⊢
        simp only [e3] at q3 ⊢
        simp only [e6] at q6 ⊢
        simp only [e9] at q9 ⊢
        simp only [e11] at q11 ⊢
        simp [execOp, q1, q3, q6, q9, q11]
        go_simp
        first | done | rfl
    case iC =>
      intro vs col W2 hb hF
      have e17 : vs 12 = .agg #[vs 1, vs 3, vs 6, vs 9, vs 11, .int .i64 (-1)] := hF (12, 27) (by decide) (by decide)
      have hO := HO.out.many hb (col := col) [(1, .row (Kd.int .i64) 3 (vs 1) (List.replicate p.th.length 0)), (3, .row (Kd.int .i64) 3 (vs 3) (List.replicate p.th.length 0)), (6, .rows (Kd.int .i64) 26 (vs 6) p.r0 2), (9, .row (Kd.int .i64) 2 (vs 9) p.m0), (11, .rows k59 57 (vs 11) (List.replicate p.th.length []) 59)] (fun e => match e with | 1 => 0 | 3 => 1 | 6 => 2 | 9 => 3 | _ => 4) (fun j e q hj => by
        match j with
        | 0 => cases hj; exact ⟨hF (1, 16) (by decide) (by decide), rfl⟩
        | 1 => cases hj; exact ⟨hF (3, 18) (by decide) (by decide), rfl⟩
        | 2 => cases hj; exact ⟨hF (6, 21) (by decide) (by decide), rfl⟩
        | 3 => cases hj; exact ⟨hF (9, 24) (by decide) (by decide), rfl⟩
        | 4 => cases hj; exact ⟨hF (11, 26) (by decide) (by decide), rfl⟩
        | n + 5 => cases hj)
      have HP := Aside0.mk hO
      clear hO HO hF hHeld
      obtain ⟨v1, h1⟩ : ∃ v, vs 1 = v := ⟨_, rfl⟩
      obtain ⟨v3, h3⟩ : ∃ v, vs 3 = v := ⟨_, rfl⟩
      obtain ⟨v6, h6⟩ : ∃ v, vs 6 = v := ⟨_, rfl⟩
      obtain ⟨v9, h9⟩ : ∃ v, vs 9 = v := ⟨_, rfl⟩
      obtain ⟨v11, h11⟩ : ∃ v, vs 11 = v := ⟨_, rfl⟩
      simp only [h1, h3, h6, h9, h11] at HP e17
      refine norm_ (a' := ?_) ?_ ?_; rotate_left
      · simp only [putAll, List.map_cons, List.map_nil, e17, h1, h3, h6, h9, h11, Act.put, List.setIfInBounds_toArray, List.set_cons_zero, List.set_cons_succ]
        rfl
      obtain ⟨V0, d0, rfl⟩ := row_slice (HP.out.get (j := 2) rfl)
      obtain ⟨V1, d1, rfl⟩ := row_slice (HP.out.get (j := 3) rfl)
      obtain ⟨V2, d2, rfl⟩ := rows_slice (HP.out.get (j := 4) rfl)
      obtain ⟨V3, d3, rfl⟩ := row_slice (HP.out.get (j := 5) rfl)
      obtain ⟨V4, d4, rfl⟩ := rows_slice (HP.out.get (j := 6) rfl)
      refine last_ (i := 13) (N := none) #[true, true, true, true, true, true, true, true, true, true, true, true, true, true, false] rfl rfl (one_of HT_.out (by kernel_rfl)) (by decide) (fun K_ hK => ?_)
      refine skip_ (w1 := W2.setRow g (boxS (.slice V0 (List.replicate p.th.length (0 : Int)).length d0) (.slice V1 (List.replicate p.th.length (0 : Int)).length d1) (.slice V2 p.r0.length d2) (.slice V3 p.m0.length d3) (.slice V4 (List.replicate p.th.length ([] : List S59)).length d4) (-1))) (by rfl) rfl (exec_store_row g (HP.out.blk (j := 1) rfl) (box_size ..) rfl (box_one ..) rfl rfl rfl) ?_
      refine hK.out _ _ ?_
      refine pu_ 14 3 ?_
      refine done_ (done_of HT_.out (by kernel_rfl)) ?_
      have HF := Aside0.mk (HP.out.setAll (j := 1) rfl (boxS (.slice V0 (List.replicate p.th.length (0 : Int)).length d0) (.slice V1 (List.replicate p.th.length (0 : Int)).length d1) (.slice V2 p.r0.length d2) (.slice V3 p.m0.length d3) (.slice V4 (List.replicate p.th.length ([] : List S59)).length d4) (-1)))
      generalize World.setRow _ _ _ = W3 at HF ⊢
      go_wp2_with fail
      exact bodyPost_ret (results_ct rfl _ _ g 42 _ (0, 0) _ rfl (HF.out.blk (j := 1) rfl) hu42 rfl (box_size ..)) rfl ⟨_, rfl, StR.own (HF.out.tail 2), HF.out.below⟩
  · have hX := EX.out
    rw [startA_no (by rw [HZ.out]; exact hv0), HZ.out] at hX
    subst hX
    have hb4 := HO.out.blk (j := 1) rfl
    go_wp2_with (refine wpList_store_row rfl 42 (.tmp 2) (.tmp 10) rfl g zS rfl rfl 42 _ hb4 nb_size rfl nb_one ?_)
    have HF := Aside0.mk (HO.out.setAll (j := 1) rfl zS)
    refine bodyPost_ret (results_ct rfl _ _ g 42 _ (0, 0) _ rfl (HF.out.blk (j := 1) rfl) hu42 rfl (by kernel_rfl)) rfl ⟨_, rfl, StR.nils HF.out.below, HF.out.below⟩
theorem StR.low {B B' : Nat} {W : World} {vs : List Value} {u : StT} (h : StR B W vs u) (hB : B' ≤ B) : StR B' W vs u := by
  obtain ⟨v0, v1, v2, v3, v4, rfl, h0, h1, h2, h3, h4⟩ := h
  exact ⟨v0, v1, v2, v3, v4, rfl, Kd.R_lower h0 hB, Kd.R_lower h1 hB, Kd.S_lower h2 hB, Kd.R_lower h3 hB, Kd.S_lower h4 hB⟩
theorem setRow_ne {W : World} {g k : Nat} {cs : Array Value} (h : g ≠ k) : (W.setRow g cs).heap[k]? = W.heap[k]? := by
  unfold World.setRow
  simp only [Array.getElem?_modify]
  rw [if_neg h]
set_option maxHeartbeats 8000000 in
set_option maxRecDepth 100000 in
theorem rstart_c {w : World} {p : Pg} {pv : List Value} (hp : PgV w pv p) (hvr : Ev (fun k => weirref09_Valid.f k p.th p.rg p.lo p.r0 p.m0) (validM p)) :
    Calls Try.prog 19 #[.agg pv.toArray] w fun e W' => ∃ av, e = .returned (.tuple #[.agg av.toArray, .int .i64 (startA p).2.2.2.2.2.2]) ∧ StR w.heap.size W' av (stOf (startA p)) ∧ Below w.heap.size w W' := by
  obtain ⟨X, hX⟩ : ∃ X, startA p = X := ⟨_, rfl⟩
  rw [hX]
  have EX := Aside0.mk hX
  have HP := Aside0.mk hp
  obtain ⟨A0, A1, A2, A3, A4, c0, c1, c2, c3, c4, rfl, x0, l0, x1, l1, x2, l2, x3, l3, x4, l4⟩ := hp
  obtain ⟨vv, hvv⟩ : ∃ x, validM p = x := ⟨_, rfl⟩
  have HZ := Aside0.mk hvv
  rw [hvv] at hvr
  have HV := Aside0.mk hvr
  have X3 := Aside0.mk (And.intro x3 l3)
  have X4 := Aside0.mk (And.intro x4 l4)
  clear hvv hvr hX x0 x1 x2 x3 x4 l0 l1 l2 l3 l4
  have hu28 := Try.underlying28
  have hu42 := Try.underlying42
  go_enter Try.func19, Try.ntmps19
  go_upto_region 1 with fail
  generalize hW : World.alloc (World.alloc w _) _ = W0
  generalize h4 : w.heap.size + 1 = g
  have HO := Aside0.mk (two_box w 28 42 #[.slice A0 p.th.length c0, .slice A1 p.rg.length c1, .slice A2 p.lo.length c2, .slice A3 p.r0.length c3, .slice A4 p.m0.length c4] zS W0 g hW.symm h4.symm)
  clear hW h4
  have hb2 := HO.out.blk (j := 0) rfl
  go_upto_region 2 with (first
    | (refine wpList_load_row rfl 28 (.tmp 1) rfl w.heap.size rfl 28 _ (0, 0) _ hb2 hu28 rfl (by kernel_rfl) ?_)
    | (go_at_call 26; (with_reducible refine (valid_o HP.out HO.out HV.out).mono ?_); rintro e W1 ⟨rfl, h1⟩; have HO1 := Aside0.mk h1; clear h1))
  clear hb2 HO
  have HO := HO1
  clear HO1
  by_cases hv0 : vv = 0
  · subst hv0
    have hX := EX.out
    rw [startA_ok HZ.out] at hX
    subst hX
    have SM := Aside0.mk (valid_right HZ.out).2
    clear X3 X4
    have hb2 := HO.out.blk (j := 0) rfl
    have LG := Aside0.mk (blk_lt (HO.out.blk (j := 1) rfl))
    go_wp2_with (first
      | (refine wpList_load_row rfl 28 (.tmp 1) rfl w.heap.size rfl 28 _ (0, 0) _ hb2 hu28 rfl (by kernel_rfl) ?_)
      | (go_at_call 28; (with_reducible refine (first_c (HP.out.below HO.out.below) SM.out).mono ?_); rintro e W2 ⟨av, rfl, k1, k2, k6, hs, hb⟩; have HS := Aside0.mk hs; have HO2 := Aside0.mk (HO.out.later hb); have K1 := Aside0.mk k1; have K2 := Aside0.mk k2; have K6 := Aside0.mk k6; clear hs hb k1 k2 k6)
      | (refine wpList_store_row rfl 42 (.tmp 2) (.tmp 12) rfl g av.toArray rfl rfl 42 _ (HO2.out.blk (j := 1) rfl) K2.out K6.out K1.out ?_))
    have HF := Aside0.mk (HO2.out.setAll (j := 1) rfl av.toArray)
    have HT := Aside0.mk ((HS.out.step (W1 := W2.setRow g av.toArray) (fun k hk _ => setRow_ne (Nat.ne_of_lt (Nat.lt_of_lt_of_le LG.out hk)))).low HO.out.below.size)
    exact bodyPost_ret (results_ct rfl _ _ g 42 _ (0, 0) _ rfl (HF.out.blk (j := 1) rfl) hu42 rfl K2.out) rfl ⟨_, rfl, HT.out, HF.out.below⟩
  · have hX := EX.out
    rw [startA_no (by rw [HZ.out]; exact hv0), HZ.out] at hX
    subst hX
    have hb4 := HO.out.blk (j := 1) rfl
    go_wp2_with (refine wpList_store_row rfl 42 (.tmp 2) (.tmp 9) rfl g zS rfl rfl 42 _ hb4 nb_size rfl nb_one ?_)
    have HF := Aside0.mk (HO.out.setAll (j := 1) rfl zS)
    refine bodyPost_ret (results_ct rfl _ _ g 42 _ (0, 0) _ rfl (HF.out.blk (j := 1) rfl) hu42 rfl (by kernel_rfl)) rfl ⟨_, rfl, StR.nils HF.out.below, HF.out.below⟩
end Go.Proofs.Ytemhpbdlonfikaa.P
/- The contracts that ScCodes needs, each argument told as one fact. -/
namespace Go.Proofs.Ytemhpbdlonfikaa.P
open Go Go.RowKit Go.Proofs.YtemhpbdlonfikaaW.PrintWords Go.Proofs.YtemhpbdlonfikaaW.PrintLast Go.Proofs.YtemhpbdlonfikaaW.PrintMore

theorem len_p {p : Pg} : LenP p := fun h => ⟨(few_of h (valid_len h)).lo, (few_of h (valid_len h)).th, valid_len h, (few_of h (valid_len h)).row⟩
theorem text_p {p : Pg} {u : StT} (hN : Nums u) (h : validM p = 0) (hi : isM p u.1 u.2.1 u.2.2.1 u.2.2.2.1 u.2.2.2.2.1 u.2.2.2.2.2 = true) : TextOK u.1 u.2.1 u.2.2.1 u.2.2.2.1 u.2.2.2.2.1 u.2.2.2.2.2 := ok_text (few_of h (valid_len h)) (is_ok (valid_len h) hN hi)
theorem code_c {w : World} {p : Pg} {pv sv : List Value} {u : StT} (hp : PgV w pv p) (hs : StV w sv (toSt u)) (hz : VSz p) (hN : Nums u) :
    Calls Try.prog 14 #[.agg pv.toArray, .agg sv.toArray] w fun e W' => e = .returned (.tuple #[.string (codeA p u.1 u.2.1 u.2.2.1 u.2.2.2.1 u.2.2.2.2.1 u.2.2.2.2.2).1, .int .i64 (codeA p u.1 u.2.1 u.2.2.1 u.2.2.2.1 u.2.2.2.2.1 u.2.2.2.2.2).2]) ∧ Below w.heap.size w W' :=
  code_o hp hs (valid_prog hz) len_p (text_p hN) rfl
theorem rcode_c {w : World} {p : Pg} {pv sv : List Value} {u : StT} (hp : PgV w pv p) (hs : StV w sv (toSt u)) (_hz : VSz p) (hvr : Ev (fun k => weirref09_Valid.f k p.th p.rg p.lo p.r0 p.m0) (validM p)) (hN : Nums u) :
    Calls Try.prog 15 #[.agg pv.toArray, .agg sv.toArray] w fun e W' => e = .returned (.tuple #[.string (codeA p u.1 u.2.1 u.2.2.1 u.2.2.2.1 u.2.2.2.2.1 u.2.2.2.2.2).1, .int .i64 (codeA p u.1 u.2.1 u.2.2.1 u.2.2.2.1 u.2.2.2.2.1 u.2.2.2.2.2).2]) ∧ Below w.heap.size w W' :=
  rcode_o hp hs hvr len_p (text_p hN) rfl
theorem start_fit {p : Pg} : StFit (stOf (startA p)) := by
  unfold startA
  by_cases h : validM p = 0
  · rw [if_pos h]
    have hS := (valid_right h).2
    have h1 := hS.th
    have h2 := hS.r0
    have h3 := hS.m0
    have h4 := hS.lo
    refine ⟨?_, ?_, ?_, fun x hx => ?_, ?_, ?_, fun x hx => ?_⟩
    · show (List.replicate p.th.length (0 : Int)).length < _; rw [List.length_replicate]; omega
    · show (List.replicate p.th.length (0 : Int)).length < _; rw [List.length_replicate]; omega
    · show p.r0.length < _; omega
    · obtain ⟨i, hi, rfl⟩ := List.mem_iff_getElem.1 (show x ∈ p.r0 from hx)
      have := hS.r0row i
      unfold rd_L5 at this
      rw [Int.toNat_natCast, List.getD_eq_getElem?_getD, List.getElem?_eq_getElem hi, Option.getD_some] at this
      omega
    · show p.m0.length < _; omega
    · show (List.replicate p.th.length ([] : List S59)).length < _; rw [List.length_replicate]; omega
    · have : x = [] := (List.mem_replicate.1 (show x ∈ List.replicate p.th.length ([] : List S59) from hx)).2
      subst this
      decide
  · rw [if_neg h]
    exact fit_nil
theorem same_c {w : World} {av bv : List Value} {u : StT} (ha : StV w av (toSt u)) (hb : StV w bv (toSt u)) (_F : StFit u) : Calls Try.prog 20 #[.agg av.toArray, .agg bv.toArray] w fun e W' => e = .returned (.bool true) ∧ Below w.heap.size w W' := ss_c ha hb
theorem samep_c {w : World} {pv qv : List Value} {p : Pg} (hp : PgV w pv p) (hq : PgV w qv p) (_F : PgFit p) : Calls Try.prog 21 #[.agg pv.toArray, .agg qv.toArray] w fun e W' => e = .returned (.bool true) ∧ Below w.heap.size w W' := sp_c hp hq
end Go.Proofs.Ytemhpbdlonfikaa.P
/- A state that a call has made: its rows, all apart. -/
namespace Go.Proofs.Ytemhpbdlonfikaa.P
open Go Go.RowKit Go.Proofs.YtemhpbdlonfikaaW.PrintWords Go.Proofs.YtemhpbdlonfikaaW.PrintLast Go.Proofs.YtemhpbdlonfikaaW.PrintMore

/-- Rows of rows, laid open: the row of their values, each row, and that no two are one. -/
theorem S_rows {W : World} {α : Type} {d : Kd α} {e e2 B : Nat} {ok : Nat → Prop} {v : Value} {l : List (List α)} (h : Kd.S (Kd.slice e d) e2 W B ok v l) :
    ∃ vs : List Value, W.ownsRow B e2 1 v l.length vs ∧ (∀ k, v.ownBlock = some k → ok k) ∧ vs.length = l.length ∧
      (∀ (j : Nat) (u : Value) (x : List α), vs[j]? = some u → l[j]? = some x → Kd.R d e W B (fun k => ok k) u x) ∧
      ∀ (i j : Nat) (p q : Value), i ≠ j → vs[i]? = some p → vs[j]? = some q → ∀ k, p.ownBlock = some k → q.ownBlock ≠ some k := by
  obtain ⟨f, h0, inner, ho, hr⟩ := h
  rw [List.length_zipIdx] at ho
  have hlen : inner.length = l.length := by have := hr.1; rw [List.length_zipIdx] at this; exact this.trans (Nat.mul_one _)
  have key : ∀ (j : Nat) (u : Value) (x : List α), inner[j]? = some u → l[j]? = some x → Kd.R d e W B (fun k => (ok k ∧ some k ≠ v.ownBlock) ∧ f k = j) u x := fun j u x hu hx => by
    have h1 := hr.2 j (x, j) (Kd.zip_at hx)
    obtain ⟨v', e1, h2⟩ := h1
    have h3 : (inner.drop (j * 1)).take 1 = [u] := by
      rw [Nat.mul_one]
      obtain ⟨hj, rfl⟩ := List.getElem?_eq_some_iff.1 hu
      rw [List.drop_eq_getElem_cons hj]
      rfl
    have h4 : [u] = [v'] := h3.symm.trans e1
    injection h4 with h4 _
    rw [h4]
    exact h2
  refine ⟨inner, ho, h0, hlen, fun j u x hu hx => Kd.R_mono (key j u x hu hx) (fun k hk => hk.1.1), fun i j p q hij hp hq k hk hk' => ?_⟩
  obtain ⟨hi, _⟩ := List.getElem?_eq_some_iff.1 hp
  obtain ⟨hj, _⟩ := List.getElem?_eq_some_iff.1 hq
  have h1 := (key i p _ hp (List.getElem?_eq_getElem (by omega))).1 k hk
  have h2 := (key j q _ hq (List.getElem?_eq_getElem (by omega))).1 k hk'
  exact hij (h1.2.symm.trans h2.2)
end Go.Proofs.Ytemhpbdlonfikaa.P
/- ScCodes' own walk: rows told by their blocks' types, whatever their numbers are; what else there was stays as it was. -/
namespace Go.Proofs.Ytemhpbdlonfikaa.P
open Go Go.RowKit Go.Proofs.YtemhpbdlonfikaaW.PrintWords Go.Proofs.YtemhpbdlonfikaaW.PrintLast Go.Proofs.YtemhpbdlonfikaaW.PrintMore

/-- All blocks but one's own are as they were. -/
structure Fr (own : Nat → Prop) (W0 W : World) : Prop where
  os : W.os = W0.os
  tape : W.tape = W0.tape
  output : W.output = W0.output
  size : W0.heap.size ≤ W.heap.size
  block : ∀ k, k < W0.heap.size → ¬ own k → W.heap[k]? = W0.heap[k]?
section
variable {own : Nat → Prop} {W0 W W' : World}
theorem Fr.refl (own : Nat → Prop) (W : World) : Fr own W W := ⟨rfl, rfl, rfl, Nat.le_refl _, fun _ _ _ => rfl⟩
theorem Fr.drew (h : Fr own W0 W) : Fr own W0 W.drew := ⟨h.os, h.tape, h.output, h.size, h.block⟩
theorem Fr.below {B : Nat} (h : Fr own W0 W) (ho : ∀ k, k < B → ¬ own k) (hB : B ≤ W0.heap.size) : Below B W0 W := ⟨h.os, h.tape, h.output, h.size, fun k hk => h.block k (Nat.lt_of_lt_of_le hk hB) (ho k hk)⟩
theorem grown_set (W : World) (g j : Nat) (u : Value) : W.grownBy (W.setCell ⟨g, j, none⟩ u) (some g) := ⟨rfl, rfl, rfl, by unfold World.setCell; simp, fun k hk hne => by
    unfold World.setCell
    simp only [Array.getElem?_modify]
    rw [if_neg (fun e => hne (by rw [← e]))]⟩
theorem Fr.grown {row : Option Nat} (h : Fr own W0 W) (hg : W.grownBy W' row) (hr : ∀ k, row = some k → own k) : Fr own W0 W' :=
  ⟨hg.os.trans h.os, hg.tape.trans h.tape, hg.output.trans h.output, Nat.le_trans h.size hg.size, fun k hk hn => (hg.block k (Nat.lt_of_lt_of_le hk h.size) (fun e => hn (hr k e.symm))).trans (h.block k hk hn)⟩
theorem Fr.set {g : Nat} (h : Fr own W0 W) (hg : own g) (j : Nat) (u : Value) : Fr own W0 (W.setCell ⟨g, j, none⟩ u) := h.grown (grown_set W g j u) (fun k e => by cases e; exact hg)
theorem Fr.keep {g : Nat} {o : Obj} (h : Fr own W0 W) (hg : W0.heap[g]? = some o) (hn : ¬ own g) : W.heap[g]? = some o := (h.block g (blk_lt hg) hn).trans hg

/-- A row of whole numbers, whatever they are. -/
def NR (own : Nat → Prop) (W : World) (e : TypeId) (v : Value) (n : Nat) : Prop :=
  ∃ A c, v = .slice A n c ∧ (0 < n → ∃ g cs, A = some ⟨g, 0, none⟩ ∧ own g ∧ W.heap[g]? = some (.cells cs e (0, 0)) ∧ ∀ j, j < n → ∃ x, cs[j]? = some (.int .i64 x))
/-- A row of values, known from a place on. -/
def VR (own : Nat → Prop) (W : World) (e : TypeId) (v : Value) (n : Nat) (i : Nat) (vals : List Value) : Prop :=
  ∃ A c, v = .slice A n c ∧ (0 < n → ∃ g cs, A = some ⟨g, 0, none⟩ ∧ own g ∧ W.heap[g]? = some (.cells cs e (0, 0)) ∧ ∀ j, i ≤ j → j < n → cs[j]? = vals[j]?)
theorem take_at {cur : Array Value} {n j : Nat} {xs : List Value} (h : cur.toList.take n = xs) (hj : j < n) : cur[j]? = xs[j]? := by
  rw [← h, List.getElem?_take, if_pos hj, Array.getElem?_toList]
theorem NR.of_own {B : Nat} {e : TypeId} {v : Value} {l : List Int} (h : W.ownsRow B e 1 v l.length (nums .i64 l)) (ho : ∀ k, v.ownBlock = some k → own k) : NR own W e v l.length := by
  rcases h.2 with ⟨rfl, h0⟩ | ⟨g, cap, cur, rfl, _, hh, _, _, _, ht⟩
  · rw [h0]; exact ⟨none, 0, rfl, fun h => absurd h (Nat.lt_irrefl 0)⟩
  · refine ⟨_, _, rfl, fun _ => ⟨g, cur, rfl, ho g rfl, hh, fun j hj => ⟨l[j], ?_⟩⟩⟩
    rw [take_at ht (by omega)]
    simp [nums, hj]
theorem VR.of_own {B : Nat} {e : TypeId} {v : Value} {n : Nat} {xs : List Value} (h : W.ownsRow B e 1 v n xs) (ho : ∀ k, v.ownBlock = some k → own k) : VR own W e v n 0 xs := by
  rcases h.2 with ⟨rfl, h0⟩ | ⟨g, cap, cur, rfl, _, hh, _, _, _, ht⟩
  · rw [h0]; exact ⟨none, 0, rfl, fun h => absurd h (Nat.lt_irrefl 0)⟩
  · exact ⟨_, _, rfl, fun _ => ⟨g, cur, rfl, ho g rfl, hh, fun j _ hj => take_at ht (by omega)⟩⟩
theorem NR.grown {row : Option Nat} {e : TypeId} {v : Value} {n : Nat} (h : NR own W e v n) (hg : W.grownBy W' row) (hr : ∀ k cs, row = some k → W.heap[k]? = some (.cells cs e (0, 0)) → False) : NR own W' e v n := by
  obtain ⟨A, c, rfl, h1⟩ := h
  refine ⟨A, c, rfl, fun hn => ?_⟩
  obtain ⟨g, cs, hA, ho, hh, hx⟩ := h1 hn
  exact ⟨g, cs, hA, ho, (hg.block g (blk_lt hh) (fun e => hr g cs e.symm hh)).trans hh, hx⟩
theorem VR.grown {row : Option Nat} {e : TypeId} {v : Value} {n i : Nat} {vals : List Value} (h : VR own W e v n i vals) (hg : W.grownBy W' row) (hr : ∀ k cs, row = some k → W.heap[k]? = some (.cells cs e (0, 0)) → False) : VR own W' e v n i vals := by
  obtain ⟨A, c, rfl, h1⟩ := h
  refine ⟨A, c, rfl, fun hn => ?_⟩
  obtain ⟨g, cs, hA, ho, hh, hx⟩ := h1 hn
  exact ⟨g, cs, hA, ho, (hg.block g (blk_lt hh) (fun e => hr g cs e.symm hh)).trans hh, hx⟩
/-- A number is stored into a row of numbers. -/
theorem NR.set {e e' : TypeId} {v : Value} {n g : Nat} {cs : Array Value} (h : NR own W e v n) (_hg : W.heap[g]? = some (.cells cs e' (0, 0))) (j : Nat) (x : Int) : NR own (W.setCell ⟨g, j, none⟩ (.int .i64 x)) e v n := by
  obtain ⟨A, c, rfl, h1⟩ := h
  refine ⟨A, c, rfl, fun hn => ?_⟩
  obtain ⟨g', cs', hA, ho, hh, hx⟩ := h1 hn
  by_cases hgg : g' = g
  · subst hgg
    refine ⟨g', _, hA, ho, blk_set hh j _, fun k hk => ?_⟩
    obtain ⟨y, hy⟩ := hx k hk
    rw [Array.getElem?_setIfInBounds]
    split
    · rename_i hjk
      subst hjk
      rw [if_pos (Array.getElem?_eq_some_iff.1 hy).1]
      exact ⟨x, rfl⟩
    · exact ⟨y, hy⟩
  · exact ⟨g', cs', hA, ho, ((grown_set W g j _).block g' (blk_lt hh) (fun e => hgg (Option.some.inj e))).trans hh, hx⟩
/-- A value is stored into a row of another type. -/
theorem NR.setO {e e' : TypeId} {v : Value} {n g : Nat} {cs : Array Value} (h : NR own W e v n) (hg : W.heap[g]? = some (.cells cs e' (0, 0))) (hne : e ≠ e') (j : Nat) (u : Value) : NR own (W.setCell ⟨g, j, none⟩ u) e v n :=
  h.grown (grown_set W g j u) (fun k cs' e1 h1 => by cases e1; rw [h1] at hg; cases hg; exact hne rfl)
theorem VR.setO {e e' : TypeId} {v : Value} {n i g : Nat} {cs : Array Value} {vals : List Value} (h : VR own W e v n i vals) (hg : W.heap[g]? = some (.cells cs e' (0, 0))) (hne : e ≠ e') (j : Nat) (u : Value) : VR own (W.setCell ⟨g, j, none⟩ u) e v n i vals :=
  h.grown (grown_set W g j u) (fun k cs' e1 h1 => by cases e1; rw [h1] at hg; cases hg; exact hne rfl)
/-- A value is stored into it, below what is known. -/
theorem VR.put {e : TypeId} {v : Value} {n i : Nat} {vals : List Value} {g c : Nat} (h : VR own W e v n i vals) (hv : v = .slice (some ⟨g, 0, none⟩) n c) (u : Value) : VR own (W.setCell ⟨g, i, none⟩ u) e v n (i + 1) vals := by
  obtain ⟨A, c', rfl, h1⟩ := h
  simp only [Value.slice.injEq, true_and] at hv
  obtain ⟨rfl, rfl⟩ := hv
  refine ⟨_, _, rfl, fun hn => ?_⟩
  obtain ⟨g', cs', hA, ho, hh, hx⟩ := h1 hn
  have hA := Option.some.inj hA
  simp only [Addr.mk.injEq, and_true] at hA
  subst hA
  refine ⟨g, _, rfl, ho, blk_set hh i _, fun j hj hjn => ?_⟩
  rw [Array.getElem?_setIfInBounds, if_neg (by omega)]
  exact hx j (by omega) hjn
/-- What the walk asks of a row of numbers. -/
theorem NR.at {e : TypeId} {v : Value} {n : Nat} (h : NR own W e v n) {j : Nat} (hj : j < n) :
    ∃ g c cs x, v = .slice (some ⟨g, 0, none⟩) n c ∧ own g ∧ W.heap[g]? = some (.cells cs e (0, 0)) ∧ W.cell? ⟨g, j, none⟩ = some (.int .i64 x) ∧ W.frozen? ⟨g, j, none⟩ = false := by
  obtain ⟨A, c, rfl, h1⟩ := h
  obtain ⟨g, cs, rfl, ho, hh, hx⟩ := h1 (by omega)
  obtain ⟨x, hx⟩ := hx j hj
  exact ⟨g, c, cs, x, rfl, ho, hh, (blk_cell hh j).trans hx, blk_frozen hh j⟩
theorem VR.at {e : TypeId} {v : Value} {n i : Nat} {vals : List Value} (h : VR own W e v n i vals) {j : Nat} (hij : i ≤ j) (hj : j < n) (hl : n = vals.length) :
    ∃ g c cs u, v = .slice (some ⟨g, 0, none⟩) n c ∧ own g ∧ W.heap[g]? = some (.cells cs e (0, 0)) ∧ vals[j]? = some u ∧ W.cell? ⟨g, j, none⟩ = some u ∧ W.frozen? ⟨g, j, none⟩ = false := by
  obtain ⟨A, c, rfl, h1⟩ := h
  obtain ⟨g, cs, rfl, ho, hh, hx⟩ := h1 (by omega)
  have hx := hx j hij hj
  have hu : vals[j]? = some (vals[j]'(by omega)) := List.getElem?_eq_getElem _
  exact ⟨g, c, cs, _, rfl, ho, hh, hu, (blk_cell hh j).trans (hx.trans hu), blk_frozen hh j⟩
theorem NR.slice {e : TypeId} {v : Value} {n : Nat} (h : NR own W e v n) : ∃ A c, v = .slice A n c := by
  obtain ⟨A, c, rfl, _⟩ := h
  exact ⟨A, c, rfl⟩
theorem VR.slice {e : TypeId} {v : Value} {n i : Nat} {vals : List Value} (h : VR own W e v n i vals) : ∃ A c, v = .slice A n c := by
  obtain ⟨A, c, rfl, _⟩ := h
  exact ⟨A, c, rfl⟩
/-- A row of writes: its block is told by its value. -/
theorem R59_own {B : Nat} {ok ok' : Nat → Prop} {v : Value} {l : List S59} (h : Kd.R k59 59 W B ok v l) (ho : ∀ k, v.ownBlock = some k → ok' k) : Kd.R k59 59 W B ok' v l := by
  obtain ⟨_, inner, h1, h2, h3⟩ := h
  refine ⟨ho, inner, h1, h2, fun j p hp => ?_⟩
  have := h3 j p hp
  rw [k59_openM this]
  exact k59_mkM _ _ _ _
end
/-- A state in memory of its own, from a place on and up to another. -/
def StE (B E : Nat) (W : World) (vs : List Value) (u : St) : Prop :=
  ∃ v0 v1 v2 v3 v4 : Value, vs = [v0, v1, v2, v3, v4, .int .i64 u.lk] ∧ Kd.R (Kd.int .i64) 3 W B (fun k => (B ≤ k ∧ k < E) ∧ some k ≠ v1.ownBlock) v0 u.p ∧ Kd.R (Kd.int .i64) 3 W B (fun k => (B ≤ k ∧ k < E) ∧ some k ≠ v0.ownBlock) v1 u.q ∧
    Kd.S (Kd.slice 2 (Kd.int .i64)) 26 W B (fun k => (B ≤ k ∧ k < E) ∧ some k ≠ v3.ownBlock) v2 u.rg ∧ Kd.R (Kd.int .i64) 2 W B (fun k => B ≤ k ∧ k < E) v3 u.me ∧ Kd.S (Kd.slice 59 k59) 57 W B (fun k => B ≤ k ∧ k < E) v4 u.bf
theorem StE.move {B E : Nat} {W W1 : World} {vs : List Value} {u : St} (h : StE B E W vs u) (hm : ∀ k, B ≤ k → k < E → W1.heap[k]? = W.heap[k]?) : StE B E W1 vs u := by
  obtain ⟨v0, v1, v2, v3, v4, rfl, h0, h1, h2, h3, h4⟩ := h
  exact ⟨v0, v1, v2, v3, v4, rfl, R_mv h0 (fun k hk _ => ⟨hm k hk.1.1 hk.1.2, hk⟩), R_mv h1 (fun k hk _ => ⟨hm k hk.1.1 hk.1.2, hk⟩), S_mv h2 (fun k hk _ => ⟨hm k hk.1.1 hk.1.2, hk⟩), R_mv h3 (fun k hk _ => ⟨hm k hk.1 hk.2, hk⟩), S_mv h4 (fun k hk _ => ⟨hm k hk.1 hk.2, hk⟩)⟩
theorem StE.read {B E : Nat} {W : World} {vs : List Value} {s : St} (h : StE B E W vs s) : StV W vs s := by
  obtain ⟨v0, v1, v2, v3, v4, rfl, h0, h1, h2, h3, h4⟩ := h
  obtain ⟨E0, f0, rfl, m0, k0⟩ := Kd.R_reads h0
  obtain ⟨E1, f1, rfl, m1, k1⟩ := Kd.R_reads h1
  obtain ⟨E2, f2, rfl, m2, k2⟩ := Kd.S_reads h2
  obtain ⟨E3, f3, rfl, m3, k3⟩ := Kd.R_reads h3
  obtain ⟨E4, f4, rfl, m4, k4⟩ := Kd.S_reads h4
  exact ⟨E0, E1, E2, E3, E4, f0, f1, f2, f3, f4, rfl, k0, m0, k1, m1, k2, m2, k3, m3, k4, m4⟩
/-- The same, and the variable that holds it, which was made behind it. -/
structure BoxS (B : Nat) (vs : List Value) (u : St) (g : Nat) (W : World) : Prop where
  st : StE B g W vs u
  box : W.heap[g]? = some (.cells vs.toArray 42 (0, 0))
  le : B ≤ g
theorem BoxS.later {B : Nat} {vs : List Value} {u : St} {g : Nat} {W W' : World} (h : BoxS B vs u g W) (hb : Below W.heap.size W W') : BoxS B vs u g W' :=
  ⟨h.st.move (fun k _ hk => hb.block k (Nat.lt_trans hk (blk_lt h.box))), (hb.block g (blk_lt h.box)).trans h.box, h.le⟩
theorem BoxS.keep {own : Nat → Prop} {B : Nat} {vs : List Value} {u : St} {g : Nat} {W W' : World} (h : BoxS B vs u g W) (hf : Fr own W W') (ho : ∀ k, B ≤ k → k ≤ g → ¬ own k) : BoxS B vs u g W' :=
  ⟨h.st.move (fun k h1 hk => hf.block k (Nat.lt_trans hk (blk_lt h.box)) (ho k h1 (Nat.le_of_lt hk))), (hf.block g (blk_lt h.box) (ho g h.le (Nat.le_refl _))).trans h.box, h.le⟩
end Go.Proofs.Ytemhpbdlonfikaa.P
/- ScCodes' own walk: what is known of the state that is written, while it is written. -/
namespace Go.Proofs.Ytemhpbdlonfikaa.P
open Go Go.RowKit Go.Proofs.YtemhpbdlonfikaaW.PrintWords Go.Proofs.YtemhpbdlonfikaaW.PrintLast Go.Proofs.YtemhpbdlonfikaaW.PrintMore

theorem read_len {p : Pg} {s : ByteArray} (hs : s.size ≤ 4611686018427387904) : (readA p s).2.2.1.length = (readA p s).1.length ∧ (readA p s).2.2.2.2.1.length = (readA p s).1.length := by
  unfold readA
  by_cases hv : validM p = 0
  · rw [if_pos hv]
    cases hc : stateM (tsP p) p.lo.length s with
    | none => exact ⟨rfl, rfl⟩
    | some u =>
      obtain ⟨P, Q, R, M, B, K⟩ := u
      obtain ⟨ok, _⟩ := read_inv hc hs
      obtain ⟨e1, e2, e3⟩ := ok.thr.len
      have e4 := ok.lb
      simp only at e1 e2 e3 e4
      exact ⟨show R.length = P.length by omega, show B.length = P.length by omega⟩
  · rw [if_neg hv]
    exact ⟨rfl, rfl⟩
/-- A state while it is written: numbers are numbers, rows are rows; of the buffers those from a place on are as they were. -/
structure Loose (own : Nat → Prop) (B : Nat) (v0 v2 v3 v4 x3 : Value) (vrs bfx : List Value) (rg : List (List Int)) (bf : List (List S59)) (n nm nx i i' : Nat) (W : World) : Prop where
  pc : NR own W 3 v0 n
  rs : VR own W 26 v2 n 0 vrs
  rr : ∀ (j : Nat) (u : Value) (x : List Int), vrs[j]? = some u → rg[j]? = some x → NR own W 2 u x.length
  me : NR own W 2 v3 nm
  bs : VR own W 57 v4 n i bfx
  br : ∀ (j : Nat) (u : Value) (x : List S59), i' ≤ j → bfx[j]? = some u → bf[j]? = some x → Kd.R k59 59 W B (fun k => some k = u.ownBlock) u x
  xm : NR own W 2 x3 nx
/-- What does not change. -/
structure LooseC (own : Nat → Prop) (W0 : World) (vrs bfx : List Value) (rg : List (List Int)) (bf : List (List S59)) (n : Nat) : Prop where
  lr : vrs.length = n
  lg : rg.length = n
  lb : bfx.length = n
  lf : bf.length = n
  sm : ∀ x ∈ bf, x.length < 8796093022208
  bo : ∀ u ∈ bfx, ∀ k, u.ownBlock = some k → own k
  ap : ∀ (i j : Nat) (p q : Value), i ≠ j → bfx[i]? = some p → bfx[j]? = some q → ∀ k, p.ownBlock = some k → q.ownBlock ≠ some k
  nw : ∀ k, W0.heap.size ≤ k → own k
section
variable {own : Nat → Prop} {B : Nat} {v0 v2 v3 v4 x3 : Value} {vrs bfx : List Value} {rg : List (List Int)} {bf : List (List S59)} {n nm nx i i' : Nat} {W W' : World}
theorem R59_typed {v : Value} {x : List S59} {ok : Nat → Prop} (h : Kd.R k59 59 W B ok v x) (k : Nat) (hk : v.ownBlock = some k) : ∃ cs, W.heap[k]? = some (.cells cs 59 (0, 0)) := by obtain ⟨_, inner, ho, _⟩ := h; exact own_typed ho k hk
theorem Loose.setNum (h : Loose own B v0 v2 v3 v4 x3 vrs bfx rg bf n nm nx i i' W) {g : Nat} {cs : Array Value} {e : TypeId} (hg : W.heap[g]? = some (.cells cs e (0, 0))) (he : e = 2 ∨ e = 3) (j : Nat) (x : Int) :
    Loose own B v0 v2 v3 v4 x3 vrs bfx rg bf n nm nx i i' (W.setCell ⟨g, j, none⟩ (.int .i64 x)) := by
  refine ⟨h.pc.set hg j x, h.rs.setO hg (by rcases he with rfl | rfl <;> decide) j _, fun j' u y h1 h2 => (h.rr j' u y h1 h2).set hg j x, h.me.set hg j x, h.bs.setO hg (by rcases he with rfl | rfl <;> decide) j _, fun j' u y h0 h1 h2 => ?_, h.xm.set hg j x⟩
  have hr := h.br j' u y h0 h1 h2
  refine Kd.R_step hr (fun k hk hlt => (grown_set W g j _).block k hlt (fun e1 => ?_))
  have e1 := Option.some.inj e1
  subst e1
  obtain ⟨cs', h3⟩ := R59_typed hr k hk.symm
  rw [hg] at h3
  rcases he with rfl | rfl <;> cases h3
theorem Loose.drew (h : Loose own B v0 v2 v3 v4 x3 vrs bfx rg bf n nm nx i i' W) : Loose own B v0 v2 v3 v4 x3 vrs bfx rg bf n nm nx i i' W.drew :=
  ⟨h.pc, h.rs, h.rr, h.me, h.bs, fun j u x h0 h1 h2 => Kd.R_drew (h.br j u x h0 h1 h2), h.xm⟩
theorem Loose.alloc (h : Loose own B v0 v2 v3 v4 x3 vrs bfx rg bf n nm nx i i' W) (hg : W.grownBy W' none) : Loose own B v0 v2 v3 v4 x3 vrs bfx rg bf n nm nx i i' W' :=
  ⟨h.pc.grown hg (fun _ _ e => by cases e), h.rs.grown hg (fun _ _ e => by cases e), fun j u x h1 h2 => (h.rr j u x h1 h2).grown hg (fun _ _ e => by cases e), h.me.grown hg (fun _ _ e => by cases e), h.bs.grown hg (fun _ _ e => by cases e),
    fun j u x h0 h1 h2 => Kd.R_step (h.br j u x h0 h1 h2) (fun k _ hlt => hg.block k hlt (by simp)), h.xm.grown hg (fun _ _ e => by cases e)⟩
/-- One buffer has grown. -/
theorem Loose.grown {W0 : World} (h : Loose own B v0 v2 v3 v4 x3 vrs bfx rg bf n nm nx i i' W) (hc : LooseC own W0 vrs bfx rg bf n) {u : Value} (hu : bfx[i']? = some u) {y : List S59} (hy : bf[i']? = some y) (hg : W.grownBy W' u.ownBlock) :
    Loose own B v0 v2 v3 v4 x3 vrs bfx rg bf n nm nx i (i' + 1) W' := by
  have hr := h.br i' u y (Nat.le_refl _) hu hy
  have ht : ∀ k cs e, u.ownBlock = some k → W.heap[k]? = some (.cells cs e (0, 0)) → e = 59 := fun k cs e hk hh => by
    obtain ⟨cs', h3⟩ := R59_typed hr k hk
    rw [hh] at h3
    cases h3
    rfl
  refine ⟨h.pc.grown hg (fun k cs e h1 => by cases ht k cs _ e h1), h.rs.grown hg (fun k cs e h1 => by cases ht k cs _ e h1), fun j u x h1 h2 => (h.rr j u x h1 h2).grown hg (fun k cs e h1 => by cases ht k cs _ e h1), h.me.grown hg (fun k cs e h1 => by cases ht k cs _ e h1),
    h.bs.grown hg (fun k cs e h1 => by cases ht k cs _ e h1), fun j u2 x h0 h1 h2 => ?_, h.xm.grown hg (fun k cs e h1 => by cases ht k cs _ e h1)⟩
  refine Kd.R_step (h.br j u2 x (by omega) h1 h2) (fun k hk hlt => hg.block k hlt (fun e1 => ?_))
  exact hc.ap j i' u2 u (by omega) h1 hu k hk.symm e1.symm
theorem Loose.putB (h : Loose own B v0 v2 v3 v4 x3 vrs bfx rg bf n nm nx i i' W) {g c : Nat} {cs : Array Value} (hv : v4 = .slice (some ⟨g, 0, none⟩) n c) (hg : W.heap[g]? = some (.cells cs 57 (0, 0))) (u : Value) :
    Loose own B v0 v2 v3 v4 x3 vrs bfx rg bf n nm nx (i + 1) i' (W.setCell ⟨g, i, none⟩ u) := by
  refine ⟨h.pc.setO hg (by decide) _ _, h.rs.setO hg (by decide) _ _, fun j' u y h1 h2 => (h.rr j' u y h1 h2).setO hg (by decide) _ _, h.me.setO hg (by decide) _ _, h.bs.put hv u, fun j' u2 y h0 h1 h2 => ?_, h.xm.setO hg (by decide) _ _⟩
  have hr := h.br j' u2 y h0 h1 h2
  refine Kd.R_step hr (fun k hk hlt => (grown_set W g i _).block k hlt (fun e1 => ?_))
  have e1 := Option.some.inj e1
  subst e1
  obtain ⟨cs', h3⟩ := R59_typed hr k hk.symm
  rw [hg] at h3
  cases h3
end
/-- The state that is written, laid open. -/
theorem loose_open {own : Nat → Prop} {B E Bx gx : Nat} {W : World} {av xv : List Value} {u ux : St} (ha : StE B E W av u) (hx : StE Bx gx W xv ux) (hl : u.rg.length = u.p.length) (hlb : u.bf.length = u.p.length) (hsm : ∀ x ∈ u.bf, x.length < 8796093022208)
    (ho : ∀ k, B ≤ k → k < E → own k) (hox : ∀ k, Bx ≤ k → k < gx → own k) (hn : ∀ k, W.heap.size ≤ k → own k) :
    ∃ v0 v1 v2 v3 v4 x0 x1 x2 x3 x4 : Value, ∃ vrs bfx : List Value, av = [v0, v1, v2, v3, v4, .int .i64 u.lk] ∧ xv = [x0, x1, x2, x3, x4, .int .i64 ux.lk] ∧ LooseC own W vrs bfx u.rg u.bf u.p.length ∧
      Loose own B v0 v2 v3 v4 x3 vrs bfx u.rg u.bf u.p.length u.me.length ux.me.length 0 0 W := by
  obtain ⟨v0, v1, v2, v3, v4, rfl, h0, h1, h2, h3, h4⟩ := ha
  obtain ⟨x0, x1, x2, x3, x4, rfl, q0, q1, q2, q3, q4⟩ := hx
  obtain ⟨vrs, o2, w2, l2, r2, _⟩ := S_rows h2
  obtain ⟨bfx, o4, w4, l4, r4, a4⟩ := S_rows h4
  have hob : ∀ v ∈ bfx, ∀ k, v.ownBlock = some k → own k := fun v hv k hk => by
    obtain ⟨j, hj, rfl⟩ := List.mem_iff_getElem.1 hv
    have := (r4 j _ _ (List.getElem?_eq_getElem hj) (List.getElem?_eq_getElem (by omega))).1 k hk
    exact ho k this.1 this.2
  refine ⟨v0, v1, v2, v3, v4, x0, x1, x2, x3, x4, vrs, bfx, rfl, rfl, ⟨l2.trans hl, hl, l4.trans hlb, hlb, hsm, hob, a4, hn⟩, ⟨?_, ?_, fun j u' x hj hx => ?_, ?_, ?_, fun j u' x _ hj hx => ?_, ?_⟩⟩
  · exact NR.of_own (Kd.own_of_R h0) (fun k hk => ho k (h0.1 k hk).1.1 (h0.1 k hk).1.2)
  · rw [← hl]
    exact VR.of_own o2 (fun k hk => ho k (w2 k hk).1.1 (w2 k hk).1.2)
  · have hr := r2 j u' x hj hx
    exact NR.of_own (Kd.own_of_R hr) (fun k hk => ho k (hr.1 k hk).1.1 (hr.1 k hk).1.2)
  · exact NR.of_own (Kd.own_of_R h3) (fun k hk => ho k (h3.1 k hk).1 (h3.1 k hk).2)
  · rw [← hlb]
    exact VR.of_own o4 (fun k hk => ho k (w4 k hk).1 (w4 k hk).2)
  · exact R59_own (r4 j u' x hj hx) (fun k hk => hk.symm)
  · exact NR.of_own (Kd.own_of_R q3) (fun k hk => hox k (q3.1 k hk).1 (q3.1 k hk).2)
end Go.Proofs.Ytemhpbdlonfikaa.P
