/- sc.turn: a thread does its next instruction. -/
import Derived.Test.YtemhpbdlonfikaaTph
import Derived.Test.YtemhpbdlonfikaaP0
import Derived.Test.YtemhpbdlonfikaaP1
import Derived.Test.YtemhpbdlonfikaaP2
import Derived.Test.YtemhpbdlonfikaaP3
import Derived.Test.YtemhpbdlonfikaaP4
import Derived.Test.YtemhpbdlonfikaaP5
import Derived.Test.YtemhpbdlonfikaaP6
import Derived.Test.YtemhpbdlonfikaaP7
import Derived.Test.YtemhpbdlonfikaaOwn
import Derived.Test.YtemhpbdlonfikaaP18
namespace Go.Proofs.Ytemhpbdlonfikaa.P
open Go Go.RowKit Go.Proofs.YtemhpbdlonfikaaW.PrintWords Go.Proofs.YtemhpbdlonfikaaW.PrintLast Go.Proofs.YtemhpbdlonfikaaW.PrintMore

/-- The instruction that stands next. -/
def nextOp (p : Pg) (s : St) (i : Int) : S87 := rd_T87 (rd_L3 p.th i) (rd s.p i)
/-- A thread's next instruction is done; none: it has none. -/
def turnM (p : Pg) (s : St) (i : Int) : Option St :=
  if 0 ≤ i ∧ i < p.th.length ∧ rd s.p i < ((rd_L3 p.th i).length : Int) then
    some { s with p := s.p.set i.toNat (rd s.p i + 1), rg := s.rg.set i.toNat (doM (nextOp p s i) (rd_L5 s.rg i) s.me).1, me := (doM (nextOp p s i) (rd_L5 s.rg i) s.me).2 }
  else none
/-- Each instruction's numbers lie within. -/
structure RightPg (p : Pg) : Prop where
  len : p.rg.length = p.th.length
  op : ∀ i k : Int, 0 ≤ i → i < p.th.length → 0 ≤ k → k < (rd_L3 p.th i).length → OpOK (rd_T87 (rd_L3 p.th i) k) (rd_L4 p.rg i).length p.lo.length
/-- A state of a program. -/
structure StOK (p : Pg) (s : St) : Prop where
  lp : s.p.length = p.th.length
  lq : s.q.length = p.th.length
  lr : s.rg.length = p.th.length
  lb : s.bf.length = p.th.length
  lm : s.me.length = p.lo.length
  pc : ∀ i : Int, 0 ≤ i → i < p.th.length → 0 ≤ rd s.p i ∧ rd s.p i ≤ (rd_L3 p.th i).length
  rl : ∀ i : Int, 0 ≤ i → i < p.th.length → (rd_L5 s.rg i).length = (rd_L4 p.rg i).length

theorem doM_len (o : S87) (r me : List Int) : (doM o r me).1.length = r.length ∧ (doM o r me).2.length = me.length := by
  unfold doM
  repeat (first | split | exact ⟨by simp, by simp⟩)
theorem rd_set (l : List Int) (i j : Int) (x : Int) (hi : 0 ≤ i) (hil : i < l.length) (hj : 0 ≤ j) : rd (l.set i.toNat x) j = if j = i then x else rd l j := by
  unfold rd
  rw [List.getD_eq_getElem?_getD, List.getElem?_set]
  by_cases h : j = i
  · subst h
    rw [if_pos rfl, if_pos rfl, if_pos (by omega)]; rfl
  · rw [if_neg (by omega), if_neg h, ← List.getD_eq_getElem?_getD]
theorem rd5_set (l : List (List Int)) (i j : Int) (x : List Int) (hi : 0 ≤ i) (hil : i < l.length) (hj : 0 ≤ j) : rd_L5 (l.set i.toNat x) j = if j = i then x else rd_L5 l j := by
  unfold rd_L5
  rw [List.getD_eq_getElem?_getD, List.getElem?_set]
  by_cases h : j = i
  · subst h
    rw [if_pos rfl, if_pos rfl, if_pos (by omega)]; rfl
  · rw [if_neg (by omega), if_neg h, ← List.getD_eq_getElem?_getD]
theorem StOK.turn {p : Pg} {s t : St} {i : Int} (h : StOK p s) (ht : turnM p s i = some t) : StOK p t := by
  unfold turnM at ht
  split at ht
  · rename_i hc
    obtain ⟨h0, h1, h2⟩ := hc
    injection ht with ht
    subst ht
    have hd := doM_len (nextOp p s i) (rd_L5 s.rg i) s.me
    refine ⟨by simp [h.lp], h.lq, by simp [h.lr], h.lb, by simp [hd.2, h.lm], fun j hj hjn => ?_, fun j hj hjn => ?_⟩
    · show 0 ≤ rd (s.p.set i.toNat (rd s.p i + 1)) j ∧ _ ≤ _
      rw [rd_set _ _ _ _ h0 (by rw [h.lp]; exact h1) hj]
      have := h.pc j hj hjn
      split
      · rename_i e; subst e; omega
      · exact this
    · show (rd_L5 (s.rg.set i.toNat _) j).length = _
      rw [rd5_set _ _ _ _ h0 (by rw [h.lr]; exact h1) hj]
      split
      · rename_i e; subst e; rw [hd.1]; exact h.rl j hj hjn
      · exact h.rl j hj hjn
  · cases ht

section
variable {w W : World} {cells : List (Nat × TypeId × Array Value)}
/-- What a turn leaves. -/
theorem StO.put {vp vq vr vm vb : Value} {vrs bfx : List Value} {s : St} {i : Nat} {vi : Value} {ri' me' : List Int} (hl : vrs.length = s.rg.length) (hi : i < s.rg.length)
    (_hlr : ri'.length = (s.rg.getD i []).length) (_hlm : me'.length = s.me.length) (hvi : vrs[i]? = some vi)
    (hb : Bag w (((stRows vp vq vr vm vb vrs bfx s).set (i + 5) (ri 2 vi ri')).set 3 (ri 2 vm me')) cells W) :
    Bag w (stRows vp vq vr vm vb vrs bfx { s with rg := s.rg.set i ri', me := me' }) cells W := by
  have e : ((stRows vp vq vr vm vb vrs bfx s).set (i + 5) (ri 2 vi ri')).set 3 (ri 2 vm me') = stRows vp vq vr vm vb vrs bfx { s with rg := s.rg.set i ri', me := me' } := by
    unfold stRows
    simp only [List.set_cons_succ, List.set_cons_zero, List.length_set]
    congr 5
    apply List.ext_getElem?
    intro j
    rw [List.getElem?_zipWith, List.getElem?_set, List.getElem?_set, List.getElem?_zipWith]
    have hzl : (List.zipWith (ri 2) vrs s.rg).length = s.rg.length := by rw [List.length_zipWith]; omega
    by_cases hj : i = j
    · subst hj
      rw [if_pos rfl, if_pos rfl, hzl, if_pos hi, if_pos hi, hvi]
    · rw [if_neg hj, if_neg hj]
  rwa [e] at hb
end

set_option maxHeartbeats 4000000 in
set_option maxRecDepth 100000 in
theorem sc_turn.calls {w W : World} {p : Pg} {s : St} {pv sv : List Value} {gs : Nat} {i : Int} {cells : List (Nat × TypeId × Array Value)} (hp : PgV w pv p) (hR : RightPg p) (hS : StOK p s) (ho : StO w cells W sv s) (hc : (gs, 42, sv.toArray) ∈ cells) :
    Calls Try.prog 40 #[.agg pv.toArray, .pointer (some ⟨gs, 0, none⟩), .int .i64 i] W fun e W' => e = .returned (.bool (turnM p s i).isSome) ∧ StO w cells W' sv ((turnM p s i).getD s) := by
  obtain ⟨vp, vq, vr, vm, vb, vrs, bfx, rfl, hb, hl, hlb, hbf, hbe⟩ := ho
  obtain ⟨A0, A1, A2, A3, A4, c0, c1, c2, c3, c4, rfl, h0, l0, h1, l1, h2, l2, h3, l3, h4, l4⟩ := hp
  have hu28 := Try.underlying28
  have hu42 := Try.underlying42
  have hu87 := Try.underlying87
  have HB := Aside0.mk (hb.fresh 28 #[.slice A0 p.th.length c0, .slice A1 p.rg.length c1, .slice A2 p.lo.length c2, .slice A3 p.r0.length c3, .slice A4 p.m0.length c4])
  have HBE := Aside0.mk hbe
  have HBF := Aside0.mk hbf
  have H0 := Aside0.mk h0
  clear hb h0 h1 h2 h3 h4 l1 l2 l3 l4 hbe hbf
  go_enter Try.func40, Try.ntmps40
  go_wp2
  generalize hW1 : W.alloc (.cells #[.slice A0 p.th.length c0, .slice A1 p.rg.length c1, .slice A2 p.lo.length c2, .slice A3 p.r0.length c3, .slice A4 p.m0.length c4] 28) = W1 at HB ⊢
  generalize W.heap.size = g0 at HB ⊢
  clear hW1
  obtain ⟨b0, _⟩ := HB.out.cellOf (c := (g0, 28, _)) (List.mem_cons_self) 0 _ rfl
  obtain ⟨s0, _⟩ := HB.out.cellOf (c := (gs, 42, _)) (List.mem_cons_of_mem _ hc) 0 _ rfl
  obtain ⟨s2, _⟩ := HB.out.cellOf (c := (gs, 42, _)) (List.mem_cons_of_mem _ hc) 2 _ rfl
  obtain ⟨s3, _⟩ := HB.out.cellOf (c := (gs, 42, _)) (List.mem_cons_of_mem _ hc) 3 _ rfl
  by_cases i0 : i < 0
  · have hd : decide (i < 0) = true := decide_eq_true i0
    have hE : Aside0 (turnM p s i = none) := ⟨by unfold turnM; rw [if_neg (by omega)]⟩
    go_quiet (fail)
    go_wp2
    go_ret
    rw [hE.out]
    exact ⟨rfl, vp, vq, vr, vm, vb, vrs, bfx, rfl, (HB.out.drewN _).loseCell, hl, hlb, HBF.out, HBE.out⟩
  have hd : decide (i < 0) = false := decide_eq_false i0
  by_cases i1 : (p.th.length : Int) ≤ i
  · have hE : Aside0 (turnM p s i = none) := ⟨by unfold turnM; rw [if_neg (by omega)]⟩
    have hd2 : decide ((p.th.length : Int) ≤ i) = true := decide_eq_true i1
    go_quiet (fail)
    go_wp2
    go_ret
    rw [hE.out]
    exact ⟨rfl, vp, vq, vr, vm, vb, vrs, bfx, rfl, (HB.out.drewN _).loseCell, hl, hlb, HBF.out, HBE.out⟩
  have hd2 : decide ((p.th.length : Int) ≤ i) = false := decide_eq_false i1
  have i2 : 0 ≤ i := by omega
  have i3 : i < (p.th.length : Int) := by omega
  have i4 : i < (s.p.length : Int) := by rw [hS.lp]; exact i3
  have i5 : i < (s.rg.length : Int) := by rw [hS.lr]; exact i3
  obtain ⟨gp, cp, rfl, pc0, pf0⟩ := HB.out.ptr (j := 0) (e := 3) (v := vp) (l := s.p) rfl i2 i4
  obtain ⟨ad, AT, cT, rfl, t0w, _, tC⟩ := at_L3 H0.out i i2 i3
  obtain ⟨q, hq⟩ : ∃ q, rd s.p i = q := ⟨_, rfl⟩
  obtain ⟨ops, hops⟩ : ∃ ops, rd_L3 p.th i = ops := ⟨_, rfl⟩
  have hpc := hS.pc i i2 i3
  rw [hq, hops] at hpc
  rw [hq] at pc0
  rw [hops] at t0w tC
  have t0 := pw_cell_below HB.out.below t0w
  have HQ := Aside0.mk hq
  have HOP := Aside0.mk hops
  clear hq hops
  by_cases i6 : (ops.length : Int) ≤ q
  · have hE : Aside0 (turnM p s i = none) := ⟨by unfold turnM; rw [if_neg (by rw [HQ.out, HOP.out]; omega)]⟩
    have hd3 : decide ((ops.length : Int) ≤ q) = true := decide_eq_true i6
    go_quiet (fail)
    go_wp2
    go_ret
    rw [hE.out]
    exact ⟨rfl, _, vq, vr, vm, vb, vrs, bfx, rfl, (HB.out.drewN _).loseCell, hl, hlb, HBF.out, HBE.out⟩
  have hd3 : decide ((ops.length : Int) ≤ q) = false := decide_eq_false i6
  go_quiet (fail)
  go_wp2
  have HB2 := Aside0.mk (HB.out.drewN nq)
  clear HB t0 pc0 pf0 b0 s0 s2 s3 hd hd2
  generalize W1.drewN nq = W2 at HB2 ⊢
  clear hd3
  have t0 := pw_cell_below HB2.out.below t0w
  obtain ⟨b0, _⟩ := HB2.out.cellOf (c := (g0, 28, _)) (List.mem_cons_self) 0 _ rfl
  obtain ⟨s0, _⟩ := HB2.out.cellOf (c := (gs, 42, _)) (List.mem_cons_of_mem _ hc) 0 _ rfl
  obtain ⟨s2, _⟩ := HB2.out.cellOf (c := (gs, 42, _)) (List.mem_cons_of_mem _ hc) 2 _ rfl
  obtain ⟨s3, _⟩ := HB2.out.cellOf (c := (gs, 42, _)) (List.mem_cons_of_mem _ hc) 3 _ rfl
  obtain ⟨_, _, e9, pc0, pf0⟩ := HB2.out.ptr (j := 0) (e := 3) (l := s.p) rfl i2 i4
  injection e9 with e9 _ e8
  injection e9 with e9
  injection e9 with e9
  subst e9 e8
  rw [HQ.out] at pc0
  have q1 : q < (ops.length : Int) := by omega
  have q0 : 0 ≤ q := hpc.1
  obtain ⟨ad2, rfl, o0w, o1w, o2w, o3w, o4w⟩ := at_T87 tC q q0 q1
  have o0 := pw_cell_below HB2.out.below o0w
  have o1 := pw_cell_below HB2.out.below o1w
  have o2 := pw_cell_below HB2.out.below o2w
  have o3 := pw_cell_below HB2.out.below o3w
  have o4 := pw_cell_below HB2.out.below o4w
  obtain ⟨r, hr⟩ : ∃ r, rd_L5 s.rg i = r := ⟨_, rfl⟩
  have hrg : s.rg[i.toNat]? = some r := by rw [← hr]; unfold rd_L5; rw [List.getD_eq_getElem?_getD, List.getElem?_eq_getElem (by omega)]; rfl
  obtain ⟨vi, hvi⟩ : ∃ vi, vrs[i.toNat]? = some vi := ⟨_, List.getElem?_eq_getElem (by omega)⟩
  have hR2 := HB2.out.row 2 _ rfl
  rcases hR2.2 with ⟨_, hz⟩ | ⟨gr, cr, _, hv, _⟩
  · exact absurd (show s.rg.length = 0 from hz) (by omega)
  simp only at hv
  subst hv
  obtain ⟨x0, _⟩ := HB2.out.at (j := 2) rfl rfl (i := i.toNat) hvi
  have hjr := stRows_rg (vp := .slice (some ⟨gp, 0, none⟩) s.p.length cp) (vq := vq) (vr := .slice (some ⟨gr, 0, none⟩) s.rg.length cr) (vm := vm) (vb := vb) (bfx := bfx) hvi hrg
  have hop := hR.op i q i2 i3 q0 (by rw [HOP.out]; exact q1)
  rw [HOP.out] at hop
  have hop2 : OpOK (rd_T87 ops q) r.length s.me.length := by rw [← hr, hS.rl i i2 i3, hS.lm]; exact hop
  have HOK := Aside0.mk hop2
  have HR := Aside0.mk hr
  have HJ := Aside0.mk hjr
  have hne : i.toNat + 5 ≠ 3 := by omega
  have HIN := Aside0.mk (show i.toNat < s.rg.length by omega)
  clear hop hop2 hr hjr hR2
  go_region_held3 (fun w' : World => w'.cell? ⟨g0, 0, none⟩ = some (.slice (some ad) p.th.length c0) ∧ w'.cell? (ad.add i.toNat) = some (.slice (some ad2) ops.length cT) ∧ w'.cell? ⟨gs, 0, none⟩ = some (.slice (some ⟨gp, 0, none⟩) s.p.length cp) ∧
      w'.cell? ⟨gp, i.toNat, none⟩ = some (.int .i64 q) ∧ w'.cell? (ad2.add (q.toNat * 5)) = some (.int .i64 (rd_T87 ops q).f0) ∧ w'.cell? ⟨(ad2.add (q.toNat * 5)).block, (ad2.add (q.toNat * 5)).off + 1, none⟩ = some (.int .i64 (rd_T87 ops q).f1) ∧
      w'.cell? ⟨(ad2.add (q.toNat * 5)).block, (ad2.add (q.toNat * 5)).off + 2, none⟩ = some (.int .i64 (rd_T87 ops q).f2) ∧ w'.cell? ⟨(ad2.add (q.toNat * 5)).block, (ad2.add (q.toNat * 5)).off + 3, none⟩ = some (.int .i64 (rd_T87 ops q).f3) ∧
      w'.cell? ⟨(ad2.add (q.toNat * 5)).block, (ad2.add (q.toNat * 5)).off + 4, none⟩ = some (.int .i64 (rd_T87 ops q).f4) ∧ w'.cell? ⟨gs, 2, none⟩ = some (.slice (some ⟨gr, 0, none⟩) s.rg.length cr) ∧ w'.cell? ⟨gr, i.toNat, none⟩ = some vi ∧ w'.cell? ⟨gs, 3, none⟩ = some vm)
    (first | exact ⟨b0, t0, s0, pc0, o0, o1, o2, o3, o4, s2, x0, s3⟩ | exact ⟨B0, T0, S0, PC0, O0, O1, O2, O3, O4, S2, X0, S3⟩)
    (first | (go_at_call 85; (with_reducible refine (sc_do.calls (o := rd_T87 ops q) HB2.out.drew HJ.out (jm := 3) rfl hne HOK.out).mono ?_); rintro e w5 ⟨rfl, hb5⟩; have HB5 := Aside0.mk hb5; clear hb5; have T0 := pw_cell_below HB5.out.below t0w; have O0 := pw_cell_below HB5.out.below o0w; have O1 := pw_cell_below HB5.out.below o1w; have O2 := pw_cell_below HB5.out.below o2w; have O3 := pw_cell_below HB5.out.below o3w; have O4 := pw_cell_below HB5.out.below o4w; obtain ⟨B0, _⟩ := HB5.out.cellOf (c := (g0, 28, _)) (List.mem_cons_self) 0 _ rfl; obtain ⟨S0, _⟩ := HB5.out.cellOf (c := (gs, 42, _)) (List.mem_cons_of_mem _ hc) 0 _ rfl; obtain ⟨S2, _⟩ := HB5.out.cellOf (c := (gs, 42, _)) (List.mem_cons_of_mem _ hc) 2 _ rfl; obtain ⟨S3, _⟩ := HB5.out.cellOf (c := (gs, 42, _)) (List.mem_cons_of_mem _ hc) 3 _ rfl; obtain ⟨X0, _⟩ := HB5.out.at (j := 2) (r := ⟨26, 1, .slice (some ⟨gr, 0, none⟩) s.rg.length cr, s.rg.length, vrs⟩) rfl rfl (i := i.toNat) hvi; obtain ⟨gpx, cpx, ex, PC0, PF0⟩ := HB5.out.ptr (j := 0) (e := 3) (l := s.p) rfl i2 i4; injection ex with ex _ ey; injection ex with ex; injection ex with ex; subst ex ey; rw [HQ.out] at PC0))
  go_wp2
  go_ret
  have hmax := Kd.C_max tC
  have hw : wrap64 (q + 1) = q + 1 := by unfold wrap64; omega
  have hT : turnM p s i = some { s with p := s.p.set i.toNat (q + 1), rg := s.rg.set i.toNat (doM (rd_T87 ops q) r s.me).1, me := (doM (rd_T87 ops q) r s.me).2 } := by
    unfold turnM nextOp
    rw [HQ.out, HOP.out, HR.out, if_pos ⟨i2, i3, q1⟩]
  rw [hT, hw]
  have hlen := doM_len (rd_T87 ops q) r s.me
  have hb6 := (HB5.out.setNum (j := 0) rfl i (q + 1)).loseCell
  refine ⟨rfl, _, vq, _, vm, vb, vrs, bfx, rfl, ?_, by simpa using hl, hlb, HBF.out, HBE.out⟩
  exact StO.put (s := { s with p := s.p.set i.toNat (q + 1) }) hl HIN.out (by rw [hlen.1, List.getD_eq_getElem?_getD, hrg]; rfl) hlen.2 hvi hb6
end Go.Proofs.Ytemhpbdlonfikaa.P
/- What the printed functions of the machine's states answer, of small states. -/
namespace Go.Proofs.Ytemhpbdlonfikaa.P
open Go Go.RowKit Go.Proofs.YtemhpbdlonfikaaW.PrintWords Go.Proofs.YtemhpbdlonfikaaW.PrintLast Go.Proofs.YtemhpbdlonfikaaW.PrintMore

theorem wrap_nat {k n : Nat} (h : k < n) (hn : n ≤ 9223372036854775807) : wrap64 ((k : Int) + 1) = ((k + 1 : Nat) : Int) := by unfold wrap64; omega
theorem rd5_nat (l : List (List Int)) (i : Nat) (h : i < l.length) : rd_L5 l (i : Int) = l[i] := by
  unfold rd_L5
  rw [Int.toNat_natCast, List.getD_eq_getElem?_getD, List.getElem?_eq_getElem h]; rfl
/-- The state in which a program begins. -/
def firstM (p : Pg) : St := ⟨List.replicate p.th.length 0, List.replicate p.th.length 0, p.r0, p.m0, List.replicate p.th.length [], -1⟩
structure SmallPg (p : Pg) : Prop where
  th : p.th.length ≤ 4
  lo : p.lo.length ≤ 16
  row : ∀ i : Nat, (rd_L4 p.rg i).length ≤ 8
  r0 : p.r0.length = p.th.length
  r0r : ∀ i : Nat, i < p.th.length → (rd_L5 p.r0 i).length = (rd_L4 p.rg i).length
  m0 : p.m0.length = p.lo.length
theorem SmallPg.r0row {p : Pg} (h : SmallPg p) (i : Nat) : (rd_L5 p.r0 i).length ≤ 8 := by
  rcases Nat.lt_or_ge i p.th.length with hi | hi
  · rw [h.r0r i hi]; exact h.row i
  · unfold rd_L5
    rw [Int.toNat_natCast, List.getD_eq_getElem?_getD, List.getElem?_eq_none (by rw [h.r0]; exact hi)]; exact Nat.zero_le _
theorem clone_is (l : List Int) (h : l.length ≤ 16) : slices_Clone_int64_int64.f l = some l := by
  simp only [slices_Clone_int64_int64.f, Option.bind_some]
  rw [if_pos (by simp only [List.length_nil]; omega)]; rfl
theorem rows_is (l : List (List Int)) (hl : l.length ≤ 4) (hr : ∀ i : Nat, (rd_L5 l i).length ≤ 8) : Ev (fun k => sc_rows_int64.f k l) l := by
  have key : ∀ (d i : Nat), i + d = l.length → Ev (fun k => sc_rows_int64.l0 k l (l.take i ++ List.replicate d []) l.length i) l := by
    intro d
    induction d with
    | zero =>
      intro i hi
      refine Ev.step (f := fun _ => some l) (fun k => ?_) (Ev.now _)
      simp only [sc_rows_int64.l0]
      rw [if_neg (by omega), List.take_of_length_le (by omega)]; simp
    | succ d ih =>
      intro i hi
      have hI := ih (i + 1) (by omega)
      have hw := wrap_nat (k := i) (n := l.length) (by omega) (by omega)
      have ht : (l.take i ++ List.replicate (d + 1) []).set i (rd_L5 l i) = l.take (i + 1) ++ List.replicate d [] := by
        rw [rd5_nat l i (by omega), List.take_succ_eq_append_getElem (by omega), List.set_append, if_neg (by rw [List.length_take]; omega)]
        rw [List.length_take, show i - min i l.length = 0 by omega, List.replicate_succ, List.set_cons_zero, List.append_assoc]; rfl
      refine Ev.step (fun k => ?_) hI
      simp only [sc_rows_int64.l0]
      rw [if_pos (by omega), if_pos (by omega), if_pos (by omega), clone_is _ (by have := hr i; omega), Option.bind_some, if_pos (by simp only [List.length_append, List.length_take, List.length_replicate]; omega), hw, Int.toNat_natCast, ht]
  refine Ev.congr (fun k => ?_) (key l.length 0 (by omega))
  simp only [sc_rows_int64.f, List.take_zero, Int.toNat_natCast, List.nil_append]
  rw [if_pos (by omega), if_pos (by omega)]; rfl
theorem start_is {p : Pg} (h : SmallPg p) (hv : Ev (fun k => prog_Valid.f k p.th p.rg p.lo p.r0 p.m0) 0) :
    Ev (fun k => sc_Start.f k p.th p.rg p.lo p.r0 p.m0) ((firstM p).p, (firstM p).q, (firstM p).rg, (firstM p).me, (firstM p).bf, (firstM p).lk, 0) := by
  have hn := h.th
  have h2 := Ev.bind (f := fun _ t178 => (slices_Clone_int64_int64.f p.m0).bind fun t181 => some (List.replicate p.th.length (0 : Int), List.replicate p.th.length (0 : Int), t178, t181, List.replicate p.th.length ([] : List S59), (-1 : Int), (0 : Int))) (r := ((firstM p).p, (firstM p).q, (firstM p).rg, (firstM p).me, (firstM p).bf, (firstM p).lk, 0)) (rows_is p.r0 (by rw [h.r0]; exact hn) h.r0row)
    (Ev.congr (fun k => by rw [clone_is p.m0 (by rw [h.m0]; exact h.lo), Option.bind_some]; rfl) (Ev.now _))
  have h1 := Ev.bind (f := fun k t171 => if t171 = 0 then (sc_rows_int64.f k p.r0).bind fun t178 => (slices_Clone_int64_int64.f p.m0).bind fun t181 => some (List.replicate p.th.length (0 : Int), List.replicate p.th.length (0 : Int), t178, t181, List.replicate p.th.length ([] : List S59), (-1 : Int), (0 : Int)) else none) hv (Ev.congr (fun k => if_pos rfl) h2)
  obtain ⟨K, hK⟩ := h1
  obtain ⟨K2, hK2⟩ := hv
  refine ⟨max K K2, fun k hk => ?_⟩
  have e1 := hK k (by omega)
  have e2 := hK2 k (by omega)
  simp only at e1 e2
  rw [e2, Option.bind_some, if_pos rfl] at e1
  simp only [sc_Start.f]
  rw [e2, Option.bind_some, if_pos rfl, if_pos (by omega), if_pos (by omega)]
  rw [← e1]
  simp only [Int.toNat_natCast]
  congr 1
  funext t
  congr 1
  funext t2
  rw [if_pos (by omega)]
theorem start_not {p : Pg} {r : Int} (hr : r ≠ 0) (hv : Ev (fun k => prog_Valid.f k p.th p.rg p.lo p.r0 p.m0) r) :
    Ev (fun k => sc_Start.f k p.th p.rg p.lo p.r0 p.m0) ([], [], [], [], [], 0, r) := by
  obtain ⟨K, hK⟩ := hv
  refine ⟨K, fun k hk => ?_⟩
  have e := hK k hk
  simp only at e
  simp only [sc_Start.f]
  rw [e, Option.bind_some, if_neg hr]
end Go.Proofs.Ytemhpbdlonfikaa.P
/- What the document's Picks, Done, Atomic and Local and the program's over answer. -/
namespace Go.Proofs.Ytemhpbdlonfikaa.P
open Go Go.RowKit Go.Proofs.YtemhpbdlonfikaaW.PrintWords Go.Proofs.YtemhpbdlonfikaaW.PrintLast Go.Proofs.YtemhpbdlonfikaaW.PrintMore

/-- A state of the machine of sequential consistency. -/
structure PlainSt (s : St) : Prop where
  lk : s.lk = -1
  q : ∀ i : Int, rd s.q i = 0
  e : ∀ b ∈ s.bf, b = []
/-- Are all threads at their ends? -/
def overB (p : Pg) (s : St) (n d : Nat) : Bool := (List.range d).all fun (j : Nat) => decide (rd s.p ((n + j : Nat) : Int) = ((rd_L3 p.th ((n + j : Nat) : Int)).length : Int))
theorem overB_succ (p : Pg) (s : St) (n d : Nat) : overB p s n (d + 1) = (decide (rd s.p (n : Int) = ((rd_L3 p.th (n : Int)).length : Int)) && overB p s (n + 1) d) := by
  unfold overB
  rw [List.range_succ_eq_map, List.all_cons, List.all_map]
  congr 2
  funext j
  show decide (rd s.p ((n + (j + 1) : Nat) : Int) = _) = decide (rd s.p ((n + 1 + j : Nat) : Int) = _)
  rw [show n + (j + 1) = n + 1 + j by omega]
theorem over_is {p : Pg} {s : St} (hS : StOK p s) (hn : p.th.length ≤ 4) : Ev (fun k => sc_over.f k p.th p.rg p.lo p.r0 p.m0 s.p s.q s.rg s.me s.bf s.lk) (overB p s 0 p.th.length) := by
  have hl := hS.lp
  have key : ∀ (d i : Nat), i + d = p.th.length → Ev (fun k => sc_over.l0 k p.th p.th.length i s.p s.q s.rg s.me s.bf s.lk) (overB p s i d) := by
    intro d
    induction d with
    | zero =>
      intro i hi
      refine Ev.step (f := fun _ => some true) (fun k => ?_) (Ev.now _)
      simp only [sc_over.l0]
      rw [if_neg (by omega)]
    | succ d ih =>
      intro i hi
      have hw := wrap_nat (k := i) (n := p.th.length) (by omega) (by omega)
      have hI := ih (i + 1) (by omega)
      have hpc := hS.pc i (by omega) (by omega)
      rw [overB_succ]
      by_cases hc : rd s.p (i : Int) < ((rd_L3 p.th (i : Int)).length : Int)
      · rw [decide_eq_false (by omega), Bool.false_and]
        refine Ev.step (f := fun _ => some false) (fun k => ?_) (Ev.now _)
        simp only [sc_over.l0]
        rw [if_pos (by omega), if_pos (by omega), if_pos (by omega), if_pos (by omega), if_pos hc]
      · rw [decide_eq_true (by omega), Bool.true_and]
        refine Ev.step (fun k => ?_) hI
        simp only [sc_over.l0]
        rw [if_pos (by omega), if_pos (by omega), if_pos (by omega), if_pos (by omega), if_neg hc, hw]
  exact Ev.congr (fun k => by simp only [sc_over.f]; rfl) (key p.th.length 0 (by omega))
end Go.Proofs.Ytemhpbdlonfikaa.P
/- Name and Register of the program answer what the document's answer, at every text. -/
namespace Go.Proofs.Ytemhpbdlonfikaa.P
open Go.RowKit Go.Proofs.YtemhpbdlonfikaaW.PrintWords Go.Proofs.YtemhpbdlonfikaaW.PrintLast

theorem wrap_small {x : Int} (h0 : -9223372036854775808 ≤ x) (h1 : x ≤ 9223372036854775807) : wrap64 x = x := by
  unfold wrap64
  omega
/-! ### Name -/
/-- Is a byte a letter, a digit? -/
def isL (c : Int) : Bool := decide ((97 ≤ c ∧ c ≤ 122) ∨ (65 ≤ c ∧ c ≤ 90) ∨ c = 95)
def isD (c : Int) : Bool := decide (48 ≤ c ∧ c ≤ 57)
theorem letter_is (c : Int) : lexis_letter.f c = some (isL c) := by
  unfold lexis_letter.f isL
  (repeat' split) <;> (refine congrArg some ?_; rw [Bool.eq_iff_iff]; simp only [beq_iff_eq, decide_eq_true_eq, true_iff]; omega)
theorem letter_ref (c : Int) : weirref05_letter.f c = some (isL c) := by
  unfold weirref05_letter.f isL
  (repeat' split) <;> (refine congrArg some ?_; rw [Bool.eq_iff_iff]; simp only [beq_iff_eq, decide_eq_true_eq, true_iff]; omega)
theorem digit_is (c : Int) : lexis_digit.f c = some (isD c) := by
  unfold lexis_digit.f isD
  (repeat' split) <;> (refine congrArg some ?_; rw [Bool.eq_iff_iff]; simp only [decide_eq_true_eq, Bool.false_eq_true, false_iff]; omega)
theorem digit_ref (c : Int) : weirref05_digit.f c = some (isD c) := by
  unfold weirref05_digit.f isD
  (repeat' split) <;> (refine congrArg some ?_; rw [Bool.eq_iff_iff]; simp only [decide_eq_true_eq, Bool.false_eq_true, false_iff]; omega)
/-- The byte at a place; 0 behind the end. -/
def by_ (s : ByteArray) (i : Nat) : Int := if (i : Int) < s.size then bt s i else 0
/-- Does a name that has come to place i go on? -/
def goes (s : ByteArray) (i : Nat) : Bool :=
  decide ((i : Int) < s.size) && (isL (bt s i) || isD (bt s i) || bt s i == 46 || ((bt s i == 43 || bt s i == 45) && (isL (by_ s (i + 1)) || isD (by_ s (i + 1)))))
theorem byteAt_is (s : ByteArray) (i : Nat) : lexis_byteAt.f s i = some (by_ s i) := by
  unfold lexis_byteAt.f by_
  split
  · rw [if_pos (by omega)]
  · rfl

theorem name_both (s : ByteArray) (hs : s.size ≤ 140737488351232) (d : Nat) : ∀ i : Nat, 1 ≤ i → i + d = s.size →
    ∃ r, Ev (fun k => lexis_name.l0 k s i) r ∧ Ev (fun k => weirref05_name.l0 k s 0 i) r := by
  induction d with
  | zero =>
    intro i h1 hi
    refine ⟨i, ?_, ?_⟩
    · refine Ev.step (f := fun _ => some (i : Int)) (fun k => ?_) (Ev.now _)
      have e1 : wrap64 ((i : Int) + 1) = ((i + 1 : Nat) : Int) := by rw [wrap_small (by omega) (by omega)]; omega
      simp only [lexis_name.l0]
      rw [e1, byteAt_is, byteAt_is]
      simp only [Option.bind_some]
      rw [if_pos (by omega)]
    · refine Ev.step (f := fun _ => some (i : Int)) (fun k => ?_) (Ev.now _)
      simp only [weirref05_name.l0]
      rw [wrap_small (x := 0 + (i : Int)) (by omega) (by omega), if_neg (by omega)]
  | succ d ih =>
    intro i h1 hi
    have e1 : wrap64 ((i : Int) + 1) = ((i + 1 : Nat) : Int) := by rw [wrap_small (by omega) (by omega)]; omega
    have e0 : wrap64 (0 + (i : Int)) = (i : Int) := by rw [wrap_small (by omega) (by omega)]; omega
    obtain ⟨r, hr1, hr2⟩ := ih (i + 1) (by omega) (by omega)
    have hby : by_ s i = bt s i := by unfold by_; rw [if_pos (by omega)]
    have hl : ∀ k, lexis_name.l0 (k + 2) s i = if goes s i then lexis_name.l0 k s ((i + 1 : Nat) : Int) else some (i : Int) := by
      intro k
      have hlt : decide ((i : Int) < s.size) = true := decide_eq_true (by omega)
      simp only [lexis_name.l0, lexis_name.j2, e1, byteAt_is, letter_is, digit_is, Option.bind_some, hby, goes, hlt, Bool.true_and]
      rw [if_neg (by omega)]
      generalize isL (bt s i) = p1
      generalize isD (bt s i) = p2
      generalize isL (by_ s (i + 1)) = p3
      generalize isD (by_ s (i + 1)) = p4
      generalize bt s i = c
      by_cases a3 : c = 46
      · subst a3; cases p1 <;> cases p2 <;> simp
      by_cases a4 : c = 43
      · subst a4; cases p1 <;> cases p2 <;> cases p3 <;> cases p4 <;> simp
      by_cases a5 : c = 45
      · subst a5; cases p1 <;> cases p2 <;> cases p3 <;> cases p4 <;> simp
      cases p1 <;> cases p2 <;> simp [a3, a4, a5]
    have hf : ∀ k, weirref05_name.l0 (k + 3) s 0 i = if goes s i then weirref05_name.l0 k s 0 ((i + 1 : Nat) : Int) else some (i : Int) := by
      intro k
      have hlt : decide ((i : Int) < s.size) = true := decide_eq_true (by omega)
      simp only [weirref05_name.l0, weirref05_name.j2, weirref05_name.j3, e0, e1, letter_ref, digit_ref, Option.bind_some, goes, hlt, Bool.true_and]
      rw [if_pos (by omega), if_pos (by omega)]
      have hv : (isL (bt s i) = true → bt s i ≠ 43 ∧ bt s i ≠ 45) ∧ (isD (bt s i) = true → bt s i ≠ 43 ∧ bt s i ≠ 45) := by
        unfold isL isD
        constructor <;> (intro h; have := of_decide_eq_true h; constructor <;> omega)
      obtain ⟨v1, v2⟩ := hv
      by_cases h2 : ((i + 1 : Nat) : Int) < s.size
      · have hb2 : by_ s (i + 1) = bt s ((i + 1 : Nat) : Int) := by unfold by_; rw [if_pos h2]
        have hp : (0 : Int) ≤ ((i + 1 : Nat) : Int) := by omega
        rw [hb2, decide_eq_true h2]
        simp only [if_true, if_pos hp, if_pos h2]
        generalize isL (bt s i) = p1 at *
        generalize isD (bt s i) = p2 at *
        generalize isL (bt s ((i + 1 : Nat) : Int)) = p3
        generalize isD (bt s ((i + 1 : Nat) : Int)) = p4
        generalize bt s i = c at *
        by_cases a3 : c = 46
        · subst a3; cases p1 <;> cases p2 <;> simp
        by_cases a4 : c = 43
        · subst a4; cases p1 <;> cases p2 <;> cases p3 <;> cases p4 <;> simp_all
        by_cases a5 : c = 45
        · subst a5; cases p1 <;> cases p2 <;> cases p3 <;> cases p4 <;> simp_all
        cases p1 <;> cases p2 <;> simp [a3, a4, a5]
      · have hb2 : by_ s (i + 1) = 0 := by unfold by_; rw [if_neg h2]
        have w1 : isL 0 = false := by decide
        have w2 : isD 0 = false := by decide
        rw [hb2, decide_eq_false h2, w1, w2]
        generalize isL (bt s i) = p1 at *
        generalize isD (bt s i) = p2 at *
        generalize bt s i = c at *
        by_cases a3 : c = 46
        · subst a3; cases p1 <;> cases p2 <;> simp
        by_cases a4 : c = 43
        · subst a4; cases p1 <;> cases p2 <;> simp_all
        by_cases a5 : c = 45
        · subst a5; cases p1 <;> cases p2 <;> simp_all
        cases p1 <;> cases p2 <;> simp [a3, a4, a5]
    by_cases hg : goes s i = true
    · refine ⟨r, ?_, ?_⟩
      · refine Ev.step (fun k => rfl) (Ev.step (fun k => ?_) hr1)
        rw [hl k, if_pos hg]
      · refine Ev.step (fun k => rfl) (Ev.step (fun k => rfl) (Ev.step (fun k => ?_) hr2))
        rw [hf k, if_pos hg]
    · refine ⟨i, ?_, ?_⟩
      · refine Ev.step (fun k => rfl) (Ev.step (f := fun _ => some (i : Int)) (fun k => ?_) (Ev.now _))
        rw [hl k, if_neg hg]
      · refine Ev.step (fun k => rfl) (Ev.step (fun k => rfl) (Ev.step (f := fun _ => some (i : Int)) (fun k => ?_) (Ev.now _)))
        rw [hf k, if_neg hg]

theorem name_tells (s : ByteArray) (hs : s.size ≤ 140737488351232) : ∃ r, Ev (fun k => lexis_Name.f k s) r ∧ Ev (fun k => weirref05_Name.f k s) r := by
  by_cases h0 : s.size = 0
  · have hl : s.toList = [] := by
      rw [ByteArray.toList_eq]
      exact List.eq_nil_of_length_eq_zero (by rw [Array.length_toList]; exact h0)
    refine ⟨false, Ev.congr (fun k => ?_) (Ev.now _), Ev.congr (fun k => ?_) (Ev.now _)⟩
    · simp only [lexis_Name.f]; rw [if_pos hl]
    · simp only [weirref05_Name.f]; rw [if_neg (by omega)]
  have hl : ¬ s.toList = [] := by
    rw [ByteArray.toList_eq]
    exact fun e => h0 (by have := congrArg List.length e; rw [Array.length_toList] at this; exact this)
  by_cases h1 : s.size ≤ 64
  · have hb := letter_is (bt s 0)
    have hr := letter_ref (bt s 0)
    by_cases hp : isL (bt s 0) = true
    · obtain ⟨r, h2, h3⟩ := name_both s hs (s.size - 1) 1 (by omega) (by omega)
      rw [hp] at hb hr
      refine ⟨r == (s.size : Int), Ev.congr (f := fun k => (lexis_name.f k s).bind fun t => some (t == (s.size : Int))) (fun k => ?_) (Ev.bind (f := fun _ t => some (t == (s.size : Int))) (Ev.congr (f := fun k => lexis_name.j0 k s false) (fun k => ?_) (Ev.step (fun k => ?_) h2)) (Ev.now _)), Ev.congr (f := fun k => (weirref05_name.f k s 0).bind fun t => some (t == (s.size : Int))) (fun k => ?_) (Ev.bind (f := fun _ t => some (t == (s.size : Int))) (Ev.congr (f := fun k => weirref05_name.j0 k s 0 false) (fun k => ?_) (Ev.step (fun k => ?_) h3)) (Ev.now _))⟩
      · simp only [lexis_Name.f]; rw [if_neg hl, if_pos (by omega)]
      · simp only [lexis_name.f]; rw [if_neg hl, if_pos (by omega), hb]; rfl
      · simp only [lexis_name.j0, Bool.false_eq_true, if_false]; rfl
      · simp only [weirref05_Name.f]; rw [if_pos (by omega), if_pos (by omega)]
      · simp only [weirref05_name.f]; rw [if_neg (by omega), if_pos (by omega), if_pos (by omega), hr]; rfl
      · simp only [weirref05_name.j0, Bool.false_eq_true, if_false]; rfl
    · have hp' : isL (bt s 0) = false := by simpa using hp
      rw [hp'] at hb hr
      have hz : ((0 : Int) == (s.size : Int)) = false := by simp; omega
      refine ⟨false, Ev.congr (f := fun k => (lexis_name.f k s).bind fun t => some (t == (s.size : Int))) (fun k => ?_) (by rw [← hz]; exact Ev.bind (f := fun _ t => some (t == (s.size : Int))) (Ev.congr (f := fun k => lexis_name.j0 k s true) (fun k => by simp only [lexis_name.f]; rw [if_neg hl, if_pos (by omega), hb]; simp only [Option.bind_some, Bool.not_false]) (Ev.step (fun k => by simp only [lexis_name.j0, if_true]) (Ev.now (0 : Int)))) (Ev.now _)), Ev.congr (f := fun k => (weirref05_name.f k s 0).bind fun t => some (t == (s.size : Int))) (fun k => ?_) (by rw [← hz]; exact Ev.bind (f := fun _ t => some (t == (s.size : Int))) (Ev.congr (f := fun k => weirref05_name.j0 k s 0 true) (fun k => by simp only [weirref05_name.f]; rw [if_neg (by omega), if_pos (by omega), if_pos (by omega), hr]; simp only [Option.bind_some, Bool.not_false]) (Ev.step (fun k => by simp only [weirref05_name.j0, if_true]) (Ev.now (0 : Int)))) (Ev.now _))⟩
      · simp only [lexis_Name.f]; rw [if_neg hl, if_pos (by omega)]
      · simp only [weirref05_Name.f]; rw [if_pos (by omega), if_pos (by omega)]
  · refine ⟨false, Ev.congr (fun k => ?_) (Ev.now _), Ev.congr (fun k => ?_) (Ev.now _)⟩
    · simp only [lexis_Name.f]; rw [if_neg hl, if_neg (by omega)]
    · simp only [weirref05_Name.f]; rw [if_pos (by omega), if_neg (by omega)]

end Go.Proofs.Ytemhpbdlonfikaa.P
/- How many events a program has, and which instructions fit: the program's answers and the document's. -/
namespace Go.Proofs.Ytemhpbdlonfikaa.P
open Go Go.RowKit Go.Proofs.YtemhpbdlonfikaaW.PrintWords Go.Proofs.YtemhpbdlonfikaaW.PrintLast Go.Proofs.YtemhpbdlonfikaaW.PrintMore

theorem register_same (s : ByteArray) : ∃ r, prog_Register.f s = some r ∧ weirref09_Register.f s = some r := by
  refine ⟨among s 16, ?_, rfl⟩
  unfold prog_Register.f among
  rw [List.take_of_length_le (by rw [regNames_length]; omega)]
  unfold regNames
  simp only [List.any_cons, List.any_nil, ByteArray.toList_eq]
  generalize s.data.toList = l
  have key : ∀ (a : List UInt8) (b : Bool), (if l = a then some true else some b) = some ((a == l) || b) := by
    intro a b
    by_cases h : l = a
    · rw [if_pos h, h]; simp
    · rw [if_neg h]
      have h' : (a == l) = false := by simpa using fun e => h e.symm
      rw [h', Bool.false_or]
  simp only [key]

/-- An instruction's events. -/
def wt (a : Int) : Int := if a = 3 ∨ a = 4 ∨ a = 5 ∨ a = 6 then 1 else if a = 7 ∨ a = 8 ∨ a = 9 then 2 else 0
/-- Which fields an instruction's kind uses; is there such a kind? -/
def uReg (a : Int) : Bool := decide (a = 1 ∨ a = 2 ∨ a = 3 ∨ a = 7 ∨ a = 9)
def uSrc (a : Int) : Bool := decide (a = 2 ∨ a = 5 ∨ a = 8)
def uLoc (a : Int) : Bool := decide (a = 3 ∨ a = 4 ∨ a = 5 ∨ a = 7 ∨ a = 8 ∨ a = 9)
def uImm (a : Int) : Bool := decide (a = 1 ∨ a = 4)
def isKd (a : Int) : Bool := decide (1 ≤ a ∧ a ≤ 9)
theorem nine (a : Int) : a = 1 ∨ a = 2 ∨ a = 3 ∨ a = 4 ∨ a = 5 ∨ a = 6 ∨ a = 7 ∨ a = 8 ∨ a = 9 ∨ (a < 1 ∨ 9 < a) := by omega
theorem kind_is (a : Int) : Ev (fun k => prog_kind.f k a) (uReg a, uSrc a, uLoc a, uImm a, wt a, isKd a) := by
  refine ⟨1, fun k hk => ?_⟩
  obtain ⟨k, rfl⟩ : ∃ m, k = m + 1 := ⟨k - 1, by omega⟩
  simp only [prog_kind.f, prog_kind.j0]
  rcases nine a with rfl | rfl | rfl | rfl | rfl | rfl | rfl | rfl | rfl | h
  · decide
  · decide
  · decide
  · decide
  · decide
  · decide
  · decide
  · decide
  · decide
  · have n1 : ¬ a = 1 := by omega
    have n2 : ¬ a = 2 := by omega
    have n3 : ¬ a = 3 := by omega
    have n4 : ¬ a = 4 := by omega
    have n5 : ¬ a = 5 := by omega
    have n6 : ¬ a = 6 := by omega
    have n7 : ¬ a = 7 := by omega
    have n8 : ¬ a = 8 := by omega
    have n9 : ¬ a = 9 := by omega
    have hk : ¬ (1 ≤ a ∧ a ≤ 9) := by omega
    simp [n1, n2, n3, n4, n5, n6, n7, n8, n9, uReg, uSrc, uLoc, uImm, wt, isKd, hk]
/-! ### events -/
def evL (x : Int) (ops : List S87) : Int := ops.foldl (fun x o => wrap64 (x + wt o.f0)) x
def evM (n : Int) (th : List (List S87)) : Int := th.foldl evL n
theorem drop_T87 {l : List S87} {j : Nat} (h : j < l.length) : l.drop j = rd_T87 l (j : Int) :: l.drop (j + 1) := by
  rw [List.drop_eq_getElem_cons h]
  congr 1
  simp [rd_T87, List.getD_eq_getElem?_getD, List.getElem?_eq_getElem h]
theorem drop_L3 {l : List (List S87)} {j : Nat} (h : j < l.length) : l.drop j = rd_L3 l (j : Int) :: l.drop (j + 1) := by
  rw [List.drop_eq_getElem_cons h]
  congr 1
  simp [rd_L3, List.getD_eq_getElem?_getD, List.getElem?_eq_getElem h]
/-- Sizes that no wrap round touches. -/
structure Sized (p : Pg) : Prop where
  th : p.th.length ≤ 9223372036854775807
  op : ∀ i : Int, (rd_L3 p.th i).length ≤ 9223372036854775807
theorem events_is (p : Pg) (hz : Sized p) : Ev (fun k => prog_Events.f k p.th p.rg p.lo p.r0 p.m0) (evM p.lo.length p.th) := by
  have outer : ∀ (d i : Nat) (x : Int), i + d = p.th.length → Ev (fun k => prog_Events.l0 k x p.th p.th.length i) (evM x (p.th.drop i)) := by
    intro d
    induction d with
    | zero =>
      intro i x hi
      rw [List.drop_eq_nil_of_le (by omega)]
      refine Ev.step (f := fun _ => some x) (fun k => ?_) (Ev.now _)
      simp only [prog_Events.l0]
      rw [if_neg (by omega)]
    | succ d ih =>
      intro i x hi
      rw [drop_L3 (by omega)]
      have hw := wrap_nat (k := i) (n := p.th.length) (by omega) hz.th
      have inner : ∀ (e j : Nat) (y : Int), j + e = (rd_L3 p.th i).length → Ev (fun k => prog_Events.l1 k y p.th p.th.length i (rd_L3 p.th i) (rd_L3 p.th i).length j) (evM (evL y ((rd_L3 p.th i).drop j)) (p.th.drop (i + 1))) := by
        intro e
        induction e with
        | zero =>
          intro j y hj
          rw [List.drop_eq_nil_of_le (by omega)]
          refine Ev.step (fun k => ?_) (ih (i + 1) y (by omega))
          simp only [prog_Events.l1]
          rw [if_neg (by omega), hw]
        | succ e ihe =>
          intro j y hj
          rw [drop_T87 (l := rd_L3 p.th i) (j := j) (by omega)]
          have hwj := wrap_nat (k := j) (n := (rd_L3 p.th i).length) (by omega) (hz.op i)
          refine Ev.step (f := fun k => (prog_kind.f k (rd_T87 (rd_L3 p.th i) j).f0).bind fun bt => prog_Events.l1 k (wrap64 (y + bt.2.2.2.2.1)) p.th p.th.length i (rd_L3 p.th i) (rd_L3 p.th i).length ((j + 1 : Nat) : Int)) (fun k => ?_) (Ev.bind (kind_is _) (ihe (j + 1) _ (by omega)))
          simp only [prog_Events.l1]
          rw [if_pos (by omega), if_pos (by omega), if_pos (by omega), hwj]
      refine Ev.step (fun k => ?_) (inner (rd_L3 p.th i).length 0 x (by omega))
      simp only [prog_Events.l0]
      rw [if_pos (by omega), if_pos (by omega), if_pos (by omega)]; rfl
  exact Ev.congr (fun k => by simp only [prog_Events.f]; rfl) (outer p.th.length 0 p.lo.length (by omega))
end Go.Proofs.Ytemhpbdlonfikaa.P
/- Which instructions fit, and which lists of texts rise: the program's answers and the document's. -/
namespace Go.Proofs.Ytemhpbdlonfikaa.P
open Go Go.RowKit Go.Proofs.YtemhpbdlonfikaaW.PrintWords Go.Proofs.YtemhpbdlonfikaaW.PrintLast Go.Proofs.YtemhpbdlonfikaaW.PrintMore

/-- The text at a place. -/
def tx (l : List ByteArray) (i : Nat) : ByteArray := rdOf ByteArray.empty l (i : Int)
/-- Do the texts rise from place i on (d of them left)? -/
def risesB (l : List ByteArray) (i d : Nat) : Bool := (List.range d).all fun (j : Nat) => Op.bytesLess (tx l (i + j - 1)).toList (tx l (i + j)).toList
theorem risesB_succ (l : List ByteArray) (i d : Nat) : risesB l i (d + 1) = (Op.bytesLess (tx l (i - 1)).toList (tx l i).toList && risesB l (i + 1) d) := by
  unfold risesB
  rw [List.range_succ_eq_map, List.all_cons, List.all_map]
  congr 2
  funext j
  show Op.bytesLess (tx l (i + (j + 1) - 1)).toList (tx l (i + (j + 1))).toList = _
  rw [show i + (j + 1) - 1 = i + 1 + j - 1 by omega, show i + (j + 1) = i + 1 + j by omega]
/-- All texts are registers' names. -/
def regsB (l : List ByteArray) (i d : Nat) : Bool := (List.range d).all fun (j : Nat) => among (tx l (i + j)) 16
theorem regsB_succ (l : List ByteArray) (i d : Nat) : regsB l i (d + 1) = (among (tx l i) 16 && regsB l (i + 1) d) := by
  unfold regsB
  rw [List.range_succ_eq_map, List.all_cons, List.all_map]
  congr 2
  funext j
  show among (tx l (i + (j + 1))) 16 = _
  rw [show i + (j + 1) = i + 1 + j by omega]
theorem reg_is (s : ByteArray) : prog_Register.f s = some (among s 16) := by
  obtain ⟨r, h1, h2⟩ := register_same s
  have : r = among s 16 := by have := h2; unfold weirref09_Register.f at this; exact (Option.some.inj this).symm
  rw [h1, this]
theorem rises_reg (l : List ByteArray) (hl : l.length ≤ 9223372036854775807) : Ev (fun k => prog_rises__prog_Register.f k l) (risesB l 1 (l.length - 1) && regsB l 0 l.length) := by
  have key : ∀ (d i : Nat), 1 ≤ i → i + d = l.length → Ev (fun k => prog_rises__prog_Register.l0 k l l l.length i) (risesB l i d && regsB l i d) := by
    intro d
    induction d with
    | zero =>
      intro i _ hi
      refine Ev.step (f := fun _ => some true) (fun k => ?_) (Ev.now _)
      simp only [prog_rises__prog_Register.l0]
      rw [if_neg (by omega)]
    | succ d ih =>
      intro i h1 hi
      have hw := wrap_nat (k := i) (n := l.length) (by omega) hl
      have hm : wrap64 ((i : Int) - 1) = ((i - 1 : Nat) : Int) := by unfold wrap64; omega
      rw [risesB_succ, regsB_succ]
      by_cases hc : Op.bytesLess (tx l (i - 1)).toList (tx l i).toList = true
      · rw [hc, Bool.true_and]
        cases ha : among (tx l i) 16 with
        | true =>
          rw [Bool.true_and]
          refine Ev.step (fun k => ?_) (ih (i + 1) (by omega) (by omega))
          simp only [prog_rises__prog_Register.l0]
          rw [if_pos (by omega), if_pos (by omega), if_pos (by omega), if_pos (by omega), hm, if_pos (by omega), if_pos (by omega), if_pos (show Op.bytesLess (rdOf ByteArray.empty l ((i - 1 : Nat) : Int)).toList (rdOf ByteArray.empty l (i : Int)).toList = true from hc), reg_is, Option.bind_some, if_pos (show among (rdOf ByteArray.empty l (i : Int)) 16 = true from ha), hw]
        | false =>
          rw [Bool.false_and, Bool.and_false]
          refine Ev.step (f := fun _ => some false) (fun k => ?_) (Ev.now _)
          simp only [prog_rises__prog_Register.l0]
          rw [if_pos (by omega), if_pos (by omega), if_pos (by omega), if_pos (by omega), hm, if_pos (by omega), if_pos (by omega), if_pos (show Op.bytesLess (rdOf ByteArray.empty l ((i - 1 : Nat) : Int)).toList (rdOf ByteArray.empty l (i : Int)).toList = true from hc), reg_is, Option.bind_some, if_neg (by rw [show among (rdOf ByteArray.empty l (i : Int)) 16 = false from ha]; decide)]
      · rw [Bool.eq_false_iff.2 hc, Bool.false_and, Bool.false_and]
        refine Ev.step (f := fun _ => some false) (fun k => ?_) (Ev.now _)
        simp only [prog_rises__prog_Register.l0]
        rw [if_pos (by omega), if_pos (by omega), if_pos (by omega), if_pos (by omega), hm, if_pos (by omega), if_pos (by omega), if_neg (show ¬ Op.bytesLess (rdOf ByteArray.empty l ((i - 1 : Nat) : Int)).toList (rdOf ByteArray.empty l (i : Int)).toList = true from hc)]
  refine Ev.congr (g := fun k => prog_rises__prog_Register.f k l) (f := fun k => prog_rises__prog_Register.l0 k l l l.length ((0 : Nat) : Int)) (fun k => by simp only [prog_rises__prog_Register.f]; rfl) ?_
  rcases Nat.eq_zero_or_pos l.length with h0 | h0
  · rw [h0]
    refine Ev.step (f := fun _ => some true) (fun k => ?_) (Ev.now _)
    simp only [prog_rises__prog_Register.l0]
    rw [if_neg (by omega)]
  · obtain ⟨n, hn⟩ : ∃ n, l.length = n + 1 := ⟨l.length - 1, by omega⟩
    have hk := key n 1 (Nat.le_refl _) (by omega)
    rw [show l.length - 1 = n by omega]
    have hw := wrap_nat (k := 0) (n := l.length) (by omega) hl
    rw [hn, regsB_succ]
    cases ha : among (tx l 0) 16 with
    | true =>
      rw [Bool.true_and]
      refine Ev.step (fun k => ?_) hk
      simp only [prog_rises__prog_Register.l0]
      rw [← hn, if_pos (by omega), if_pos (by omega), if_pos (by omega), if_neg (by omega), reg_is, Option.bind_some, if_pos (show among (rdOf ByteArray.empty l ((0 : Nat) : Int)) 16 = true from ha), hw]
    | false =>
      rw [Bool.false_and, Bool.and_false]
      refine Ev.step (f := fun _ => some false) (fun k => ?_) (Ev.now _)
      simp only [prog_rises__prog_Register.l0]
      rw [← hn, if_pos (by omega), if_pos (by omega), if_pos (by omega), if_neg (by omega), reg_is, Option.bind_some, if_neg (by rw [show among (rdOf ByteArray.empty l ((0 : Nat) : Int)) 16 = false from ha]; decide)]
end Go.Proofs.Ytemhpbdlonfikaa.P
/- Which instructions fit: the program's answer and the document's. -/
namespace Go.Proofs.Ytemhpbdlonfikaa.P
open Go Go.RowKit Go.Proofs.YtemhpbdlonfikaaW.PrintWords Go.Proofs.YtemhpbdlonfikaaW.PrintLast Go.Proofs.YtemhpbdlonfikaaW.PrintMore

def numB (used : Bool) (n most : Int) : Bool := if used then decide (0 ≤ n ∧ n < most) else n == 0
def eax : List UInt8 := [69, 65, 88]
/-- Does an instruction fit a thread's registers and the locations? -/
def fitB (o : S87) (regs : List ByteArray) (nl : Int) : Bool :=
  isKd o.f0 && numB (uSrc o.f0) o.f2 regs.length && numB (uLoc o.f0) o.f3 nl && (uImm o.f0 || o.f4 == 0) &&
    (if o.f0 = 8 then numB true o.f1 regs.length && (rdOf ByteArray.empty regs o.f1).toList == eax else numB (uReg o.f0) o.f1 regs.length)
theorem fits1 (b : Bool) (n m : Int) : prog_fits_1.f b n m = some (numB b n m) := by
  unfold prog_fits_1.f numB
  cases b with
  | false => rfl
  | true =>
    simp only [if_true]
    by_cases h : 0 ≤ n
    · rw [if_pos h]
      congr 1
      rw [Bool.eq_iff_iff]
      simp [h]
    · rw [if_neg h]
      congr 1
      rw [Bool.eq_iff_iff]
      simp [h]
theorem fits_is (o : S87) (regs locs : List ByteArray) : Ev (fun k => prog_fits.f k o.f0 o.f1 o.f2 o.f3 o.f4 regs locs) (fitB o regs locs.length) := by
  obtain ⟨K, hK⟩ := kind_is o.f0
  refine ⟨max K 1, fun k hk => ?_⟩
  obtain ⟨k, rfl⟩ : ∃ m, k = m + 1 := ⟨k - 1, by omega⟩
  have e := hK (k + 1) (by omega)
  simp only at e
  simp only [prog_fits.f]
  rw [e]
  simp only [Option.bind_some, fits1, prog_fits.j0, fitB]
  cases isKd o.f0 with
  | false => simp
  | true =>
    cases numB (uSrc o.f0) o.f2 regs.length with
    | false => simp
    | true =>
      cases numB (uLoc o.f0) o.f3 locs.length with
      | false => simp
      | true =>
        have key : (if o.f0 = 8 then if o.f1 ≥ 0 then if o.f1 < (regs.length : Int) then if 0 ≤ o.f1 then some ((rdOf ByteArray.empty regs o.f1).toList == ([69, 65, 88] : List UInt8)) else none else some false else some false else some (numB (uReg o.f0) o.f1 regs.length)) =
            some (if o.f0 = 8 then numB true o.f1 regs.length && (rdOf ByteArray.empty regs o.f1).toList == eax else numB (uReg o.f0) o.f1 regs.length) := by
          by_cases h8 : o.f0 = 8
          · rw [if_pos h8, if_pos h8]
            unfold numB
            by_cases h0 : 0 ≤ o.f1
            · rw [if_pos h0]
              by_cases h1 : o.f1 < (regs.length : Int)
              · rw [if_pos h1, if_pos h0]; simp [h0, h1, eax]
              · rw [if_neg h1]; simp [h1]
            · rw [if_neg (by omega)]; simp [h0]
          · rw [if_neg h8, if_neg h8]
        cases uImm o.f0 with
        | true => simpa using key
        | false =>
          by_cases h4 : o.f4 = 0
          · rw [h4]; simpa using key
          · have : (o.f4 == 0) = false := beq_eq_false_iff_ne.2 h4
            simp [h4]

theorem fit_ok {o : S87} {regs : List ByteArray} {nl : Nat} (h : fitB o regs nl = true) : OpOK o regs.length nl := by
  unfold fitB at h
  simp only [Bool.and_eq_true] at h
  obtain ⟨⟨⟨⟨_, hs⟩, hl⟩, _⟩, hr⟩ := h
  refine ⟨fun hk => ?_, fun hk => ?_, fun hk => ?_⟩
  · by_cases h8 : o.f0 = 8
    · rw [if_pos h8, Bool.and_eq_true] at hr
      have := hr.1
      unfold numB at this
      rw [if_pos rfl] at this
      exact of_decide_eq_true this
    · rw [if_neg h8] at hr
      unfold numB uReg at hr
      rw [if_pos (decide_eq_true (by omega))] at hr
      exact of_decide_eq_true hr
  · unfold numB uSrc at hs
    rw [if_pos (decide_eq_true (by omega))] at hs
    exact of_decide_eq_true hs
  · unfold numB uLoc at hl
    rw [if_pos (decide_eq_true (by omega))] at hl
    exact of_decide_eq_true hl
end Go.Proofs.Ytemhpbdlonfikaa.P
/- Which programs are right: the program's Valid and the document's answer alike, and what holds of a right one. -/
namespace Go.Proofs.Ytemhpbdlonfikaa.P
open Go Go.RowKit Go.Proofs.YtemhpbdlonfikaaW.PrintWords Go.Proofs.YtemhpbdlonfikaaW.PrintLast Go.Proofs.YtemhpbdlonfikaaW.PrintMore

/-- All of d numbers from i on. -/
def allR (f : Nat → Bool) (i d : Nat) : Bool := (List.range d).all fun (j : Nat) => f (i + j)
theorem allR_succ (f : Nat → Bool) (i d : Nat) : allR f i (d + 1) = (f i && allR f (i + 1) d) := by
  unfold allR
  rw [List.range_succ_eq_map, List.all_cons, List.all_map]
  congr 2
  funext j
  show f (i + (j + 1)) = f (i + 1 + j)
  rw [show i + (j + 1) = i + 1 + j by omega]
theorem allR_at {f : Nat → Bool} {i d : Nat} (h : allR f i d = true) {q : Nat} (h0 : i ≤ q) (h1 : q < i + d) : f q = true := by
  have := List.all_eq_true.1 h (q - i) (List.mem_range.2 (by omega))
  rwa [show i + (q - i) = q by omega] at this
open Classical in
/-- Is a text a name? -/
noncomputable def nameB (s : ByteArray) : Bool := if h : s.size ≤ 140737488351232 then Classical.choose (name_tells s h) else false
theorem nameB_is (s : ByteArray) (h : s.size ≤ 140737488351232) : Ev (fun k => lexis_Name.f k s) (nameB s) ∧ Ev (fun k => weirref05_Name.f k s) (nameB s) := by
  unfold nameB
  rw [dif_pos h]
  exact Classical.choose_spec (name_tells s h)
/-- Texts of sizes that a machine holds. -/
def Texts (l : List ByteArray) : Prop := ∀ i : Nat, (tx l i).size ≤ 140737488351232
theorem rises_name (l : List ByteArray) (hl : l.length ≤ 9223372036854775807) (ht : Texts l) : Ev (fun k => prog_rises__lexis_Name.f k l) (risesB l 1 (l.length - 1) && allR (fun i => nameB (tx l i)) 0 l.length) := by
  have key : ∀ (d i : Nat), 1 ≤ i → i + d = l.length → Ev (fun k => prog_rises__lexis_Name.l0 k l l l.length i) (risesB l i d && allR (fun i => nameB (tx l i)) i d) := by
    intro d
    induction d with
    | zero =>
      intro i _ hi
      refine Ev.step (f := fun _ => some true) (fun k => ?_) (Ev.now _)
      simp only [prog_rises__lexis_Name.l0]
      rw [if_neg (by omega)]
    | succ d ih =>
      intro i h1 hi
      have hw := wrap_nat (k := i) (n := l.length) (by omega) hl
      have hm : wrap64 ((i : Int) - 1) = ((i - 1 : Nat) : Int) := by unfold wrap64; omega
      rw [risesB_succ, allR_succ]
      by_cases hc : Op.bytesLess (tx l (i - 1)).toList (tx l i).toList = true
      · rw [hc, Bool.true_and]
        have hn := (nameB_is (tx l i) (ht i)).1
        cases ha : nameB (tx l i) with
        | true =>
          rw [ha] at hn
          rw [Bool.true_and]
          refine Ev.step (f := fun k => (lexis_Name.f k (tx l i)).bind fun t => if t = true then prog_rises__lexis_Name.l0 k l l l.length ((i + 1 : Nat) : Int) else some false) (fun k => ?_) (Ev.bind hn (Ev.congr (fun k => if_pos rfl) (ih (i + 1) (by omega) (by omega))))
          simp only [prog_rises__lexis_Name.l0]
          rw [if_pos (by omega), if_pos (by omega), if_pos (by omega), if_pos (by omega), hm, if_pos (by omega), if_pos (by omega), if_pos (show Op.bytesLess (rdOf ByteArray.empty l ((i - 1 : Nat) : Int)).toList (rdOf ByteArray.empty l (i : Int)).toList = true from hc), hw]; rfl
        | false =>
          rw [ha] at hn
          rw [Bool.false_and, Bool.and_false]
          refine Ev.step (f := fun k => (lexis_Name.f k (tx l i)).bind fun t => if t = true then prog_rises__lexis_Name.l0 k l l l.length ((i + 1 : Nat) : Int) else some false) (fun k => ?_) (Ev.bind hn (Ev.congr (fun k => if_neg (by decide)) (Ev.now _)))
          simp only [prog_rises__lexis_Name.l0]
          rw [if_pos (by omega), if_pos (by omega), if_pos (by omega), if_pos (by omega), hm, if_pos (by omega), if_pos (by omega), if_pos (show Op.bytesLess (rdOf ByteArray.empty l ((i - 1 : Nat) : Int)).toList (rdOf ByteArray.empty l (i : Int)).toList = true from hc), hw]; rfl
      · rw [Bool.eq_false_iff.2 hc, Bool.false_and, Bool.false_and]
        refine Ev.step (f := fun _ => some false) (fun k => ?_) (Ev.now _)
        simp only [prog_rises__lexis_Name.l0]
        rw [if_pos (by omega), if_pos (by omega), if_pos (by omega), if_pos (by omega), hm, if_pos (by omega), if_pos (by omega), if_neg (show ¬ Op.bytesLess (rdOf ByteArray.empty l ((i - 1 : Nat) : Int)).toList (rdOf ByteArray.empty l (i : Int)).toList = true from hc)]
  refine Ev.congr (g := fun k => prog_rises__lexis_Name.f k l) (f := fun k => prog_rises__lexis_Name.l0 k l l l.length ((0 : Nat) : Int)) (fun k => by simp only [prog_rises__lexis_Name.f]; rfl) ?_
  rcases Nat.eq_zero_or_pos l.length with h0 | h0
  · rw [h0]
    refine Ev.step (f := fun _ => some true) (fun k => ?_) (Ev.now _)
    simp only [prog_rises__lexis_Name.l0]
    rw [if_neg (by omega)]
  · obtain ⟨n, hn⟩ : ∃ n, l.length = n + 1 := ⟨l.length - 1, by omega⟩
    have hk := key n 1 (Nat.le_refl _) (by omega)
    rw [show l.length - 1 = n by omega]
    have hw := wrap_nat (k := 0) (n := l.length) (by omega) hl
    rw [hn, allR_succ]
    rw [hn] at hk
    have hnm := (nameB_is (tx l 0) (ht 0)).1
    cases ha : nameB (tx l 0) with
    | true =>
      rw [ha] at hnm
      rw [Bool.true_and]
      refine Ev.step (f := fun k => (lexis_Name.f k (tx l 0)).bind fun t => if t = true then prog_rises__lexis_Name.l0 k l l ((n + 1 : Nat) : Int) ((0 + 1 : Nat) : Int) else some false) (fun k => ?_) (Ev.bind hnm (Ev.congr (fun k => if_pos rfl) hk))
      simp only [prog_rises__lexis_Name.l0]
      rw [if_pos (by omega), if_pos (by omega), if_pos (by omega), if_neg (by omega), hw]; rfl
    | false =>
      rw [ha] at hnm
      rw [Bool.false_and, Bool.and_false]
      refine Ev.step (f := fun k => (lexis_Name.f k (tx l 0)).bind fun t => if t = true then prog_rises__lexis_Name.l0 k l l ((n + 1 : Nat) : Int) ((0 + 1 : Nat) : Int) else some false) (fun k => ?_) (Ev.bind hnm (Ev.congr (fun k => if_neg (by decide)) (Ev.now _)))
      simp only [prog_rises__lexis_Name.l0]
      rw [if_pos (by omega), if_pos (by omega), if_pos (by omega), if_neg (by omega), hw]; rfl
end Go.Proofs.Ytemhpbdlonfikaa.P
