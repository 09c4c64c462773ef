/- sc.turn: a thread does its next instruction. -/
import Derived.Test.YtemhpbdlonfikaaSt
namespace Go.Proofs.Ytemhpbdlonfikaa.P
open Go Go.RowKit Go.Proofs.YtemhpbdlonfikaaW.PrintWords Go.Proofs.YtemhpbdlonfikaaW.PrintLast Go.Proofs.YtemhpbdlonfikaaW.PrintMore

/-- The instruction that stands next. -/
def nextOp (p : Pg) (s : St) (i : Int) : S87 := rd_T87 (rd_L3 p.th i) (rd s.p i)
/-- A thread's next instruction is done; none: it has none. -/
def turnM (p : Pg) (s : St) (i : Int) : Option St :=
  if 0 ≤ i ∧ i < p.th.length ∧ rd s.p i < ((rd_L3 p.th i).length : Int) then
    some { s with p := s.p.set i.toNat (rd s.p i + 1), rg := s.rg.set i.toNat (doM (nextOp p s i) (rd_L5 s.rg i) s.me).1, me := (doM (nextOp p s i) (rd_L5 s.rg i) s.me).2 }
  else none
/-- Each instruction's numbers lie within. -/
structure RightPg (p : Pg) : Prop where
  len : p.rg.length = p.th.length
  op : ∀ i k : Int, 0 ≤ i → i < p.th.length → 0 ≤ k → k < (rd_L3 p.th i).length → OpOK (rd_T87 (rd_L3 p.th i) k) (rd_L4 p.rg i).length p.lo.length
/-- A state of a program. -/
structure StOK (p : Pg) (s : St) : Prop where
  lp : s.p.length = p.th.length
  lq : s.q.length = p.th.length
  lr : s.rg.length = p.th.length
  lb : s.bf.length = p.th.length
  lm : s.me.length = p.lo.length
  pc : ∀ i : Int, 0 ≤ i → i < p.th.length → 0 ≤ rd s.p i ∧ rd s.p i ≤ (rd_L3 p.th i).length
  rl : ∀ i : Int, 0 ≤ i → i < p.th.length → (rd_L5 s.rg i).length = (rd_L4 p.rg i).length

theorem doM_len (o : S87) (r me : List Int) : (doM o r me).1.length = r.length ∧ (doM o r me).2.length = me.length := by
  unfold doM
  repeat (first | split | exact ⟨by simp, by simp⟩)
theorem rd_set (l : List Int) (i j : Int) (x : Int) (hi : 0 ≤ i) (hil : i < l.length) (hj : 0 ≤ j) : rd (l.set i.toNat x) j = if j = i then x else rd l j := by
  unfold rd
  rw [List.getD_eq_getElem?_getD, List.getElem?_set]
  by_cases h : j = i
  · subst h
    rw [if_pos rfl, if_pos rfl, if_pos (by omega)]; rfl
  · rw [if_neg (by omega), if_neg h, ← List.getD_eq_getElem?_getD]
theorem rd5_set (l : List (List Int)) (i j : Int) (x : List Int) (hi : 0 ≤ i) (hil : i < l.length) (hj : 0 ≤ j) : rd_L5 (l.set i.toNat x) j = if j = i then x else rd_L5 l j := by
  unfold rd_L5
  rw [List.getD_eq_getElem?_getD, List.getElem?_set]
  by_cases h : j = i
  · subst h
    rw [if_pos rfl, if_pos rfl, if_pos (by omega)]; rfl
  · rw [if_neg (by omega), if_neg h, ← List.getD_eq_getElem?_getD]
theorem StOK.turn {p : Pg} {s t : St} {i : Int} (h : StOK p s) (ht : turnM p s i = some t) : StOK p t := by
  unfold turnM at ht
  split at ht
  · rename_i hc
    obtain ⟨h0, h1, h2⟩ := hc
    injection ht with ht
    subst ht
    have hd := doM_len (nextOp p s i) (rd_L5 s.rg i) s.me
    refine ⟨by simp [h.lp], h.lq, by simp [h.lr], h.lb, by simp [hd.2, h.lm], fun j hj hjn => ?_, fun j hj hjn => ?_⟩
    · show 0 ≤ rd (s.p.set i.toNat (rd s.p i + 1)) j ∧ _ ≤ _
      rw [rd_set _ _ _ _ h0 (by rw [h.lp]; exact h1) hj]
      have := h.pc j hj hjn
      split
      · rename_i e; subst e; omega
      · exact this
    · show (rd_L5 (s.rg.set i.toNat _) j).length = _
      rw [rd5_set _ _ _ _ h0 (by rw [h.lr]; exact h1) hj]
      split
      · rename_i e; subst e; rw [hd.1]; exact h.rl j hj hjn
      · exact h.rl j hj hjn
  · cases ht

section
variable {w W : World} {cells : List (Nat × TypeId × Array Value)}
/-- What a turn leaves. -/
theorem StO.put {vp vq vr vm vb : Value} {vrs bfx : List Value} {s : St} {i : Nat} {vi : Value} {ri' me' : List Int} (hl : vrs.length = s.rg.length) (hi : i < s.rg.length)
    (_hlr : ri'.length = (s.rg.getD i []).length) (_hlm : me'.length = s.me.length) (hvi : vrs[i]? = some vi)
    (hb : Bag w (((stRows vp vq vr vm vb vrs bfx s).set (i + 5) (ri 2 vi ri')).set 3 (ri 2 vm me')) cells W) :
    Bag w (stRows vp vq vr vm vb vrs bfx { s with rg := s.rg.set i ri', me := me' }) cells W := by
  have e : ((stRows vp vq vr vm vb vrs bfx s).set (i + 5) (ri 2 vi ri')).set 3 (ri 2 vm me') = stRows vp vq vr vm vb vrs bfx { s with rg := s.rg.set i ri', me := me' } := by
    unfold stRows
    simp only [List.set_cons_succ, List.set_cons_zero, List.length_set]
    congr 5
    apply List.ext_getElem?
    intro j
    rw [List.getElem?_zipWith, List.getElem?_set, List.getElem?_set, List.getElem?_zipWith]
    have hzl : (List.zipWith (ri 2) vrs s.rg).length = s.rg.length := by rw [List.length_zipWith]; omega
    by_cases hj : i = j
    · subst hj
      rw [if_pos rfl, if_pos rfl, hzl, if_pos hi, if_pos hi, hvi]
    · rw [if_neg hj, if_neg hj]
  rwa [e] at hb
end

set_option maxHeartbeats 4000000 in
set_option maxRecDepth 100000 in
theorem sc_turn.calls {w W : World} {p : Pg} {s : St} {pv sv : List Value} {gs : Nat} {i : Int} {cells : List (Nat × TypeId × Array Value)} (hp : PgV w pv p) (hR : RightPg p) (hS : StOK p s) (ho : StO w cells W sv s) (hc : (gs, 42, sv.toArray) ∈ cells) :
    Calls Try.prog 40 #[.agg pv.toArray, .pointer (some ⟨gs, 0, none⟩), .int .i64 i] W fun e W' => e = .returned (.bool (turnM p s i).isSome) ∧ StO w cells W' sv ((turnM p s i).getD s) := by
  obtain ⟨vp, vq, vr, vm, vb, vrs, bfx, rfl, hb, hl, hlb, hbf, hbe⟩ := ho
  obtain ⟨A0, A1, A2, A3, A4, c0, c1, c2, c3, c4, rfl, h0, l0, h1, l1, h2, l2, h3, l3, h4, l4⟩ := hp
  have hu28 := Try.underlying28
  have hu42 := Try.underlying42
  have hu87 := Try.underlying87
  have HB := Aside0.mk (hb.fresh 28 #[.slice A0 p.th.length c0, .slice A1 p.rg.length c1, .slice A2 p.lo.length c2, .slice A3 p.r0.length c3, .slice A4 p.m0.length c4])
  have HBE := Aside0.mk hbe
  have HBF := Aside0.mk hbf
  have H0 := Aside0.mk h0
  clear hb h0 h1 h2 h3 h4 l1 l2 l3 l4 hbe hbf
  go_enter Try.func40, Try.ntmps40
  go_wp2
  generalize hW1 : W.alloc (.cells #[.slice A0 p.th.length c0, .slice A1 p.rg.length c1, .slice A2 p.lo.length c2, .slice A3 p.r0.length c3, .slice A4 p.m0.length c4] 28) = W1 at HB ⊢
  generalize W.heap.size = g0 at HB ⊢
  clear hW1
  obtain ⟨b0, _⟩ := HB.out.cellOf (c := (g0, 28, _)) (List.mem_cons_self) 0 _ rfl
  obtain ⟨s0, _⟩ := HB.out.cellOf (c := (gs, 42, _)) (List.mem_cons_of_mem _ hc) 0 _ rfl
  obtain ⟨s2, _⟩ := HB.out.cellOf (c := (gs, 42, _)) (List.mem_cons_of_mem _ hc) 2 _ rfl
  obtain ⟨s3, _⟩ := HB.out.cellOf (c := (gs, 42, _)) (List.mem_cons_of_mem _ hc) 3 _ rfl
  by_cases i0 : i < 0
  · have hd : decide (i < 0) = true := decide_eq_true i0
    have hE : Aside0 (turnM p s i = none) := ⟨by unfold turnM; rw [if_neg (by omega)]⟩
    go_quiet (fail)
    go_wp2
    go_ret
    rw [hE.out]
    exact ⟨rfl, vp, vq, vr, vm, vb, vrs, bfx, rfl, (HB.out.drewN _).loseCell, hl, hlb, HBF.out, HBE.out⟩
  have hd : decide (i < 0) = false := decide_eq_false i0
  by_cases i1 : (p.th.length : Int) ≤ i
  · have hE : Aside0 (turnM p s i = none) := ⟨by unfold turnM; rw [if_neg (by omega)]⟩
    have hd2 : decide ((p.th.length : Int) ≤ i) = true := decide_eq_true i1
    go_quiet (fail)
    go_wp2
    go_ret
    rw [hE.out]
    exact ⟨rfl, vp, vq, vr, vm, vb, vrs, bfx, rfl, (HB.out.drewN _).loseCell, hl, hlb, HBF.out, HBE.out⟩
  have hd2 : decide ((p.th.length : Int) ≤ i) = false := decide_eq_false i1
  have i2 : 0 ≤ i := by omega
  have i3 : i < (p.th.length : Int) := by omega
  have i4 : i < (s.p.length : Int) := by rw [hS.lp]; exact i3
  have i5 : i < (s.rg.length : Int) := by rw [hS.lr]; exact i3
  obtain ⟨gp, cp, rfl, pc0, pf0⟩ := HB.out.ptr (j := 0) (e := 3) (v := vp) (l := s.p) rfl i2 i4
  obtain ⟨ad, AT, cT, rfl, t0w, _, tC⟩ := at_L3 H0.out i i2 i3
  obtain ⟨q, hq⟩ : ∃ q, rd s.p i = q := ⟨_, rfl⟩
  obtain ⟨ops, hops⟩ : ∃ ops, rd_L3 p.th i = ops := ⟨_, rfl⟩
  have hpc := hS.pc i i2 i3
  rw [hq, hops] at hpc
  rw [hq] at pc0
  rw [hops] at t0w tC
  have t0 := pw_cell_below HB.out.below t0w
  have HQ := Aside0.mk hq
  have HOP := Aside0.mk hops
  clear hq hops
  by_cases i6 : (ops.length : Int) ≤ q
  · have hE : Aside0 (turnM p s i = none) := ⟨by unfold turnM; rw [if_neg (by rw [HQ.out, HOP.out]; omega)]⟩
    have hd3 : decide ((ops.length : Int) ≤ q) = true := decide_eq_true i6
    go_quiet (fail)
    go_wp2
    go_ret
    rw [hE.out]
    exact ⟨rfl, _, vq, vr, vm, vb, vrs, bfx, rfl, (HB.out.drewN _).loseCell, hl, hlb, HBF.out, HBE.out⟩
  have hd3 : decide ((ops.length : Int) ≤ q) = false := decide_eq_false i6
  go_quiet (fail)
  go_wp2
  have HB2 := Aside0.mk (HB.out.drewN nq)
  clear HB t0 pc0 pf0 b0 s0 s2 s3 hd hd2
  generalize W1.drewN nq = W2 at HB2 ⊢
  clear hd3
  have t0 := pw_cell_below HB2.out.below t0w
  obtain ⟨b0, _⟩ := HB2.out.cellOf (c := (g0, 28, _)) (List.mem_cons_self) 0 _ rfl
  obtain ⟨s0, _⟩ := HB2.out.cellOf (c := (gs, 42, _)) (List.mem_cons_of_mem _ hc) 0 _ rfl
  obtain ⟨s2, _⟩ := HB2.out.cellOf (c := (gs, 42, _)) (List.mem_cons_of_mem _ hc) 2 _ rfl
  obtain ⟨s3, _⟩ := HB2.out.cellOf (c := (gs, 42, _)) (List.mem_cons_of_mem _ hc) 3 _ rfl
  obtain ⟨_, _, e9, pc0, pf0⟩ := HB2.out.ptr (j := 0) (e := 3) (l := s.p) rfl i2 i4
  injection e9 with e9 _ e8
  injection e9 with e9
  injection e9 with e9
  subst e9 e8
  rw [HQ.out] at pc0
  have q1 : q < (ops.length : Int) := by omega
  have q0 : 0 ≤ q := hpc.1
  obtain ⟨ad2, rfl, o0w, o1w, o2w, o3w, o4w⟩ := at_T87 tC q q0 q1
  have o0 := pw_cell_below HB2.out.below o0w
  have o1 := pw_cell_below HB2.out.below o1w
  have o2 := pw_cell_below HB2.out.below o2w
  have o3 := pw_cell_below HB2.out.below o3w
  have o4 := pw_cell_below HB2.out.below o4w
  obtain ⟨r, hr⟩ : ∃ r, rd_L5 s.rg i = r := ⟨_, rfl⟩
  have hrg : s.rg[i.toNat]? = some r := by rw [← hr]; unfold rd_L5; rw [List.getD_eq_getElem?_getD, List.getElem?_eq_getElem (by omega)]; rfl
  obtain ⟨vi, hvi⟩ : ∃ vi, vrs[i.toNat]? = some vi := ⟨_, List.getElem?_eq_getElem (by omega)⟩
  have hR2 := HB2.out.row 2 _ rfl
  rcases hR2.2 with ⟨_, hz⟩ | ⟨gr, cr, _, hv, _⟩
  · exact absurd (show s.rg.length = 0 from hz) (by omega)
  simp only at hv
  subst hv
  obtain ⟨x0, _⟩ := HB2.out.at (j := 2) rfl rfl (i := i.toNat) hvi
  have hjr := stRows_rg (vp := .slice (some ⟨gp, 0, none⟩) s.p.length cp) (vq := vq) (vr := .slice (some ⟨gr, 0, none⟩) s.rg.length cr) (vm := vm) (vb := vb) (bfx := bfx) hvi hrg
  have hop := hR.op i q i2 i3 q0 (by rw [HOP.out]; exact q1)
  rw [HOP.out] at hop
  have hop2 : OpOK (rd_T87 ops q) r.length s.me.length := by rw [← hr, hS.rl i i2 i3, hS.lm]; exact hop
  have HOK := Aside0.mk hop2
  have HR := Aside0.mk hr
  have HJ := Aside0.mk hjr
  have hne : i.toNat + 5 ≠ 3 := by omega
  have HIN := Aside0.mk (show i.toNat < s.rg.length by omega)
  clear hop hop2 hr hjr hR2
  go_region_held3 (fun w' : World => w'.cell? ⟨g0, 0, none⟩ = some (.slice (some ad) p.th.length c0) ∧ w'.cell? (ad.add i.toNat) = some (.slice (some ad2) ops.length cT) ∧ w'.cell? ⟨gs, 0, none⟩ = some (.slice (some ⟨gp, 0, none⟩) s.p.length cp) ∧
      w'.cell? ⟨gp, i.toNat, none⟩ = some (.int .i64 q) ∧ w'.cell? (ad2.add (q.toNat * 5)) = some (.int .i64 (rd_T87 ops q).f0) ∧ w'.cell? ⟨(ad2.add (q.toNat * 5)).block, (ad2.add (q.toNat * 5)).off + 1, none⟩ = some (.int .i64 (rd_T87 ops q).f1) ∧
      w'.cell? ⟨(ad2.add (q.toNat * 5)).block, (ad2.add (q.toNat * 5)).off + 2, none⟩ = some (.int .i64 (rd_T87 ops q).f2) ∧ w'.cell? ⟨(ad2.add (q.toNat * 5)).block, (ad2.add (q.toNat * 5)).off + 3, none⟩ = some (.int .i64 (rd_T87 ops q).f3) ∧
      w'.cell? ⟨(ad2.add (q.toNat * 5)).block, (ad2.add (q.toNat * 5)).off + 4, none⟩ = some (.int .i64 (rd_T87 ops q).f4) ∧ w'.cell? ⟨gs, 2, none⟩ = some (.slice (some ⟨gr, 0, none⟩) s.rg.length cr) ∧ w'.cell? ⟨gr, i.toNat, none⟩ = some vi ∧ w'.cell? ⟨gs, 3, none⟩ = some vm)
    (first | exact ⟨b0, t0, s0, pc0, o0, o1, o2, o3, o4, s2, x0, s3⟩ | exact ⟨B0, T0, S0, PC0, O0, O1, O2, O3, O4, S2, X0, S3⟩)
    (first | (go_at_call 85; (with_reducible refine (sc_do.calls (o := rd_T87 ops q) HB2.out.drew HJ.out (jm := 3) rfl hne HOK.out).mono ?_); rintro e w5 ⟨rfl, hb5⟩; have HB5 := Aside0.mk hb5; clear hb5; have T0 := pw_cell_below HB5.out.below t0w; have O0 := pw_cell_below HB5.out.below o0w; have O1 := pw_cell_below HB5.out.below o1w; have O2 := pw_cell_below HB5.out.below o2w; have O3 := pw_cell_below HB5.out.below o3w; have O4 := pw_cell_below HB5.out.below o4w; obtain ⟨B0, _⟩ := HB5.out.cellOf (c := (g0, 28, _)) (List.mem_cons_self) 0 _ rfl; obtain ⟨S0, _⟩ := HB5.out.cellOf (c := (gs, 42, _)) (List.mem_cons_of_mem _ hc) 0 _ rfl; obtain ⟨S2, _⟩ := HB5.out.cellOf (c := (gs, 42, _)) (List.mem_cons_of_mem _ hc) 2 _ rfl; obtain ⟨S3, _⟩ := HB5.out.cellOf (c := (gs, 42, _)) (List.mem_cons_of_mem _ hc) 3 _ rfl; obtain ⟨X0, _⟩ := HB5.out.at (j := 2) (r := ⟨26, 1, .slice (some ⟨gr, 0, none⟩) s.rg.length cr, s.rg.length, vrs⟩) rfl rfl (i := i.toNat) hvi; obtain ⟨gpx, cpx, ex, PC0, PF0⟩ := HB5.out.ptr (j := 0) (e := 3) (l := s.p) rfl i2 i4; injection ex with ex _ ey; injection ex with ex; injection ex with ex; subst ex ey; rw [HQ.out] at PC0))
  go_wp2
  go_ret
  have hmax := Kd.C_max tC
  have hw : wrap64 (q + 1) = q + 1 := by unfold wrap64; omega
  have hT : turnM p s i = some { s with p := s.p.set i.toNat (q + 1), rg := s.rg.set i.toNat (doM (rd_T87 ops q) r s.me).1, me := (doM (rd_T87 ops q) r s.me).2 } := by
    unfold turnM nextOp
    rw [HQ.out, HOP.out, HR.out, if_pos ⟨i2, i3, q1⟩]
  rw [hT, hw]
  have hlen := doM_len (rd_T87 ops q) r s.me
  have hb6 := (HB5.out.setNum (j := 0) rfl i (q + 1)).loseCell
  refine ⟨rfl, _, vq, _, vm, vb, vrs, bfx, rfl, ?_, by simpa using hl, hlb, HBF.out, HBE.out⟩
  exact StO.put (s := { s with p := s.p.set i.toNat (q + 1) }) hl HIN.out (by rw [hlen.1, List.getD_eq_getElem?_getD, hrg]; rfl) hlen.2 hvi hb6
end Go.Proofs.Ytemhpbdlonfikaa.P
