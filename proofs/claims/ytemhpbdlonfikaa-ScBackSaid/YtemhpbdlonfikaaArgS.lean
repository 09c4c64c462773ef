/- ScBack's plain law: one text a state, by the program. -/
import Derived.Test.YtemhpbdlonfikaaTpi
import Derived.Test.YtemhpbdlonfikaaP24
import Derived.Test.YtemhpbdlonfikaaVa
import Derived.SizedLaws
import Derived.Deep.Slices
import Derived.ChangeArms
import Derived.ChangeOld
import Derived.DataReads
import Derived.WideShapes
import Derived.Test.YtemhpbdlonfikaaP0
import Derived.Test.YtemhpbdlonfikaaP1
import Derived.Test.YtemhpbdlonfikaaP2
import Derived.Test.YtemhpbdlonfikaaP3
import Derived.Test.YtemhpbdlonfikaaP4
import Derived.Test.YtemhpbdlonfikaaP5
import Derived.Test.YtemhpbdlonfikaaP6
import Derived.Test.YtemhpbdlonfikaaP7
import Derived.Test.YtemhpbdlonfikaaOwn
import Derived.Test.YtemhpbdlonfikaaP18
namespace Go.Proofs.Ytemhpbdlonfikaa.P
open Go Go.RowKit Go.Proofs.YtemhpbdlonfikaaW.PrintWords Go.Proofs.YtemhpbdlonfikaaW.PrintLast Go.Proofs.YtemhpbdlonfikaaW.PrintMore
variable {p : Pg}

theorem ThrOK.nums : ∀ {ts : List (Nat × Nat)} {P Q : List Int} {R : List (List Int)}, ThrOK ts P Q R → (∀ x ∈ P, I64 x) ∧ (∀ x ∈ Q, I64 x) ∧ (∀ r ∈ R, (∃ t ∈ ts, r.length = t.2) ∧ ∀ x ∈ r, I64 x)
  | [], [], [], [], _ => ⟨by simp, by simp, by simp⟩
  | (n, m) :: ts, a :: P, b :: Q, g :: R, ⟨⟨_, _, a3⟩, ⟨_, _, b3⟩, ⟨g1, g2⟩, h⟩ => by
    obtain ⟨h1, h2, h3⟩ := ThrOK.nums h
    refine ⟨fun x hx => ?_, fun x hx => ?_, fun x hx => ?_⟩
    · rcases List.mem_cons.1 hx with rfl | hx
      · exact a3
      · exact h1 x hx
    · rcases List.mem_cons.1 hx with rfl | hx
      · exact b3
      · exact h2 x hx
    · rcases List.mem_cons.1 hx with rfl | hx
      · exact ⟨⟨(n, m), List.mem_cons_self, g1⟩, g2⟩
      · obtain ⟨⟨t, ht, e⟩, h5⟩ := h3 x hx
        exact ⟨⟨t, List.mem_cons_of_mem _ ht, e⟩, h5⟩
/-- The program is small. -/
structure Few (p : Pg) : Prop where
  th : p.th.length ≤ 4
  lo : p.lo.length ≤ 16
  rg : p.rg.length = p.th.length
  row : ∀ i : Nat, (rd_L4 p.rg (i : Int)).length ≤ 8
theorem ok_text (hp : Few p) {u : StT} (h : StateOK (tsP p) p.lo.length u) : TextOK u.1 u.2.1 u.2.2.1 u.2.2.2.1 u.2.2.2.2.1 u.2.2.2.2.2 := by
  have tl := tsP_len hp.rg
  have h0 := hp.th
  have h1 := hp.lo
  obtain ⟨e1, e2, e3⟩ := h.thr.len
  obtain ⟨n1, n2, n3⟩ := h.thr.nums
  have e4 := h.lb
  have e5 := h.lm
  refine ⟨by omega, by omega, by omega, fun r hr => ?_, by omega, by omega, fun r hr => (h.nb r hr).1, n1, n2, fun r hr => (n3 r hr).2, h.nm, fun r hr x hx => ⟨((h.nb r hr).2 x hx).2.2.1, ((h.nb r hr).2 x hx).2.2.2⟩, ?_⟩
  · obtain ⟨⟨t, ht, e⟩, _⟩ := n3 r hr
    obtain ⟨i, hi, rfl⟩ := List.mem_iff_getElem.1 ht
    obtain ⟨_, e6⟩ := tsP_at hp.rg (List.getElem?_eq_getElem hi)
    rw [e6] at e
    have := hp.row i
    omega
  · have l1 := h.l1
    have l2 := h.l2
    rw [tl] at l2
    unfold I64
    omega
theorem text_is (hp : Few p) {u : StT} (h : StateOK (tsP p) p.lo.length u) : sc_text.f u.1 u.2.1 u.2.2.1 u.2.2.2.1 u.2.2.2.2.1 u.2.2.2.2.2 = some (textS u) := if_pos (ok_text hp h)
theorem text_small {P Q : List Int} {R : List (List Int)} {M : List Int} {B : List (List S59)} {K : Int} (h : TextOK P Q R M B K) : (textT P Q R M B K).size ≤ 4611686018427387904 := by
  rw [textT_size]
  unfold textU
  rw [List.length_append, List.length_append, List.length_append]
  have a := thr_len h.lq h.lr h.np h.nq h.nr h.lrr P.length (Nat.le_refl _)
  have b := put_len h.nm
  have c := bufU_len h.nb h.lbb
  have d := putU_len h.nl
  have := h.lp
  have := h.lm
  have := h.lb
  omega
/-- A state is itself. -/
theorem vals_is (l : List Int) (h : l.length ≤ 9223372036854775807) : Ev (fun k => weirlaw11_sameValues.f k l l) true := by
  have key : ∀ (d i : Nat), i + d = l.length → Ev (fun k => weirlaw11_sameValues.l0 k l l i) true := by
    intro d
    induction d with
    | zero =>
      intro i hi
      refine Ev.step (f := fun _ => some true) (fun k => ?_) (Ev.now _)
      simp only [weirlaw11_sameValues.l0]
      rw [if_neg (by omega)]
    | succ d ih =>
      intro i hi
      have hw := wrap_nat (k := i) (n := l.length) (by omega) h
      refine Ev.step (fun k => ?_) (ih (i + 1) (by omega))
      simp only [weirlaw11_sameValues.l0]
      rw [if_pos (by omega), if_pos (by omega), if_pos (by omega), if_pos trivial, hw]
  refine Ev.congr (fun k => ?_) (key l.length 0 (by omega))
  simp only [weirlaw11_sameValues.f]
  rw [if_pos trivial]; rfl
theorem states_same {P Q : List Int} {R : List (List Int)} {M : List Int} {B : List (List S59)} {K : Int} (h : TextOK P Q R M B K) : Ev (fun k => weirlaw11_SameStates.f k P Q R M B K P Q R M B K) true := by
  have z0 := h.lp
  have z1 := h.lq
  have z2 := h.lr
  have z3 := h.lm
  have z4 := h.lb
  have l2 : ∀ {i : Nat} {r : Bool}, i < B.length → Ev (fun k => weirlaw11_SameStates.l1 k (wrap64 ((i : Int) + 1)) P Q R M B K P Q R M B K) r → ∀ (d j : Nat), j + d = (rd_L7 B (i : Int)).length → Ev (fun k => weirlaw11_SameStates.l2 k i j P Q R M B K P Q R M B K) r := by
    intro i r hi hn d
    have hr : (rd_L7 B (i : Int)).length ≤ 64 := h.lbb _ (rd_L7_in hi)
    induction d with
    | zero =>
      intro j hj
      refine Ev.step (fun k => ?_) hn
      simp only [weirlaw11_SameStates.l2]
      rw [if_pos (by omega), if_pos (by omega), if_neg (by omega)]
    | succ d ih =>
      intro j hj
      have hw := wrap_nat (k := j) (n := (rd_L7 B (i : Int)).length) (by omega) (by omega)
      refine Ev.step (fun k => ?_) (ih (j + 1) (by omega))
      simp only [weirlaw11_SameStates.l2]
      rw [if_pos (by omega), if_pos (by omega), if_pos (by omega), if_pos (by omega), if_pos (by omega), if_pos (by omega), if_neg (by simp), hw]
  have l1 : ∀ (d i : Nat), i + d = B.length → Ev (fun k => weirlaw11_SameStates.l1 k i P Q R M B K P Q R M B K) true := by
    intro d
    induction d with
    | zero =>
      intro i hi
      refine Ev.step (f := fun _ => some true) (fun k => ?_) (Ev.now _)
      simp only [weirlaw11_SameStates.l1]
      rw [if_neg (by omega)]
    | succ d ih =>
      intro i hi
      have hw := wrap_nat (k := i) (n := B.length) (by omega) (by omega)
      have hn := ih (i + 1) (by omega)
      rw [← hw] at hn
      refine Ev.step (fun k => ?_) (l2 (by omega) hn _ 0 (Nat.zero_add _))
      simp only [weirlaw11_SameStates.l1]
      rw [if_pos (by omega), if_pos (by omega), if_pos (by omega), if_pos trivial]; rfl
  have l0 : ∀ (d i : Nat), i + d = R.length → Ev (fun k => weirlaw11_SameStates.l0 k i P Q R M B K P Q R M B K) true := by
    intro d
    induction d with
    | zero =>
      intro i hi
      refine Ev.step (fun k => ?_) (l1 B.length 0 (Nat.zero_add _))
      simp only [weirlaw11_SameStates.l0]
      rw [if_neg (by omega)]; rfl
    | succ d ih =>
      intro i hi
      have hw := wrap_nat (k := i) (n := R.length) (by omega) (by omega)
      have hr : (rd_L5 R (i : Int)).length ≤ 64 := by
        unfold rd_L5
        rw [Int.toNat_natCast, List.getD_eq_getElem?_getD, List.getElem?_eq_getElem (show i < R.length by omega)]
        exact h.lrr _ (List.getElem_mem _)
      refine Ev.step (f := fun k => (weirlaw11_sameValues.f k (rd_L5 R (i : Int)) (rd_L5 R (i : Int))).bind fun t => if t = true then weirlaw11_SameStates.l0 k ((i + 1 : Nat) : Int) P Q R M B K P Q R M B K else some false) (fun k => ?_) (Ev.bind (vals_is _ (by omega)) ?_)
      · simp only [weirlaw11_SameStates.l0]
        rw [if_pos (by omega), if_pos (by omega), if_pos (by omega), hw]
      · exact Ev.congr (fun k => if_pos rfl) (ih (i + 1) (by omega))
  refine Ev.congr (f := fun k => (weirlaw01_SameInts.f k P P).bind fun t => if t = true then (weirlaw01_SameInts.f k Q Q).bind fun t => if t = true then (weirlaw11_sameValues.f k M M).bind fun t => if t = true then weirlaw11_SameStates.j0 k false P Q R M B K P Q R M B K else weirlaw11_SameStates.j0 k true P Q R M B K P Q R M B K else weirlaw11_SameStates.j0 k true P Q R M B K P Q R M B K else weirlaw11_SameStates.j0 k true P Q R M B K P Q R M B K) (fun k => ?_) ?_
  · simp only [weirlaw11_SameStates.f]
    rw [if_pos trivial, if_pos trivial, show (K != K) = false by simp]
  · refine Ev.bind (f := fun k t => if t = true then (weirlaw01_SameInts.f k Q Q).bind fun t => if t = true then (weirlaw11_sameValues.f k M M).bind fun t => if t = true then weirlaw11_SameStates.j0 k false P Q R M B K P Q R M B K else weirlaw11_SameStates.j0 k true P Q R M B K P Q R M B K else weirlaw11_SameStates.j0 k true P Q R M B K P Q R M B K else weirlaw11_SameStates.j0 k true P Q R M B K P Q R M B K) (same_is P (by omega)) (Ev.congr (fun k => if_pos rfl) ?_)
    refine Ev.bind (f := fun k t => if t = true then (weirlaw11_sameValues.f k M M).bind fun t => if t = true then weirlaw11_SameStates.j0 k false P Q R M B K P Q R M B K else weirlaw11_SameStates.j0 k true P Q R M B K P Q R M B K else weirlaw11_SameStates.j0 k true P Q R M B K P Q R M B K) (same_is Q (by omega)) (Ev.congr (fun k => if_pos rfl) ?_)
    refine Ev.bind (f := fun k t => if t = true then weirlaw11_SameStates.j0 k false P Q R M B K P Q R M B K else weirlaw11_SameStates.j0 k true P Q R M B K P Q R M B K) (vals_is M (by omega)) (Ev.congr (fun k => if_pos rfl) ?_)
    refine Ev.step (fun k => ?_) (l0 R.length 0 (Nat.zero_add _))
    simp only [weirlaw11_SameStates.j0]; rfl
end Go.Proofs.Ytemhpbdlonfikaa.P
/- ScBack answers true. -/
namespace Go.Proofs.Ytemhpbdlonfikaa.P
open Go Go.RowKit Go.Proofs.YtemhpbdlonfikaaW.PrintWords Go.Proofs.YtemhpbdlonfikaaW.PrintLast Go.Proofs.YtemhpbdlonfikaaW.PrintMore
variable {p : Pg} {P Q : List Int} {R : List (List Int)} {M : List Int} {B : List (List S59)} {K : Int}

theorem few_of (h : validM p = 0) (hl : p.rg.length = p.th.length) : Few p :=
  ⟨(valid_right h).2.th, (valid_right h).2.lo, hl, (valid_right h).2.row⟩
theorem valid_len (h : validM p = 0) : p.rg.length = p.th.length := by
  unfold validM at h
  split at h
  · cases h
  · split at h
    · rename_i hl; exact hl.1
    · cases h
abbrev noText : ByteArray := ⟨#[]⟩
theorem code_ok (hz : VSz p) (hv : validM p = 0) (h : StateOK (tsP p) p.lo.length (P, Q, R, M, B, K)) : Ev (fun k => sc_Code.f k p.th p.rg p.lo p.r0 p.m0 P Q R M B K) (textS (P, Q, R, M, B, K), 0) := by
  have hl := valid_len hv
  have hf := few_of hv hl
  have hi := is_is (P := P) (Q := Q) (R := R) (M := M) (B := B) (K := K) hl hf.th
  rw [ok_is hl h] at hi
  have hp := valid_prog hz
  rw [hv] at hp
  refine Ev.bind (f := fun k t => if t = 0 then ((sc_is.f k p.th p.rg p.lo p.r0 p.m0 P Q R M B K).bind fun t421 => (if t421 = true then ((sc_text.f P Q R M B K).bind fun t422 => (some (t422, 0))) else (some (noText, 5)))) else (some (noText, t))) hp (Ev.congr (fun k => if_pos rfl) ?_)
  refine Ev.bind (f := fun k t => if t = true then ((sc_text.f P Q R M B K).bind fun t422 => (some (t422, (0 : Int)))) else (some (noText, 5))) hi (Ev.congr (fun k => if_pos rfl) ?_)
  have ht : sc_text.f P Q R M B K = some (textS (P, Q, R, M, B, K)) := text_is hf h
  rw [ht]
  exact Ev.now _
theorem code_no (hz : VSz p) (hv : validM p = 0) (h : isM p P Q R M B K = false) : Ev (fun k => sc_Code.f k p.th p.rg p.lo p.r0 p.m0 P Q R M B K) (noText, 5) := by
  have hl := valid_len hv
  have hf := few_of hv hl
  have hi := is_is (P := P) (Q := Q) (R := R) (M := M) (B := B) (K := K) hl hf.th
  rw [h] at hi
  have hp := valid_prog hz
  rw [hv] at hp
  refine Ev.bind (f := fun k t => if t = 0 then ((sc_is.f k p.th p.rg p.lo p.r0 p.m0 P Q R M B K).bind fun t421 => (if t421 = true then ((sc_text.f P Q R M B K).bind fun t422 => (some (t422, 0))) else (some (noText, 5)))) else (some (noText, t))) hp (Ev.congr (fun k => if_pos rfl) ?_)
  exact Ev.bind (f := fun k t => if t = true then ((sc_text.f P Q R M B K).bind fun t422 => (some (t422, (0 : Int)))) else (some (noText, 5))) hi (Ev.congr (fun k => if_neg (by decide)) (Ev.now _))
theorem code_bad (hz : VSz p) (hv : validM p ≠ 0) : Ev (fun k => sc_Code.f k p.th p.rg p.lo p.r0 p.m0 P Q R M B K) (noText, validM p) :=
  Ev.bind (f := fun k t => if t = 0 then ((sc_is.f k p.th p.rg p.lo p.r0 p.m0 P Q R M B K).bind fun t421 => (if t421 = true then ((sc_text.f P Q R M B K).bind fun t422 => (some (t422, 0))) else (some (noText, 5)))) else (some (noText, t))) (valid_prog hz) (Ev.congr (fun k => if_neg hv) (Ev.now _))
abbrev RdT := List Int × List Int × (List (List Int)) × List Int × (List (List (S59))) × Int × Int
def readN (e : Int) : RdT := ([], [], [], [], [], 0, e)
def readR (o : Option StT) : RdT := match o with
  | none => readN 5
  | some u => (u.1, u.2.1, u.2.2.1, u.2.2.2.1, u.2.2.2.2.1, u.2.2.2.2.2, 0)
theorem read_is (hz : VSz p) (hv : validM p = 0) {s : ByteArray} (hs : s.size ≤ 4611686018427387904) : Ev (fun k => sc_Read.f k p.th p.rg p.lo p.r0 p.m0 s) (readR (stateM (tsP p) p.lo.length s)) := by
  have hl := valid_len hv
  have hf := few_of hv hl
  have hp := valid_prog hz
  rw [hv] at hp
  refine Ev.bind (f := fun k t => if t = 0 then ((sc_state.f k p.th p.rg p.lo p.r0 p.m0 s).bind fun b => if b.2.2.2.2.2.2 = true then some (b.1, b.2.1, b.2.2.1, b.2.2.2.1, b.2.2.2.2.1, b.2.2.2.2.2.1, (0 : Int)) else some (readN 5)) else some (readN t)) hp (Ev.congr (fun k => if_pos rfl) ?_)
  refine Ev.bind (f := fun _ b => if b.2.2.2.2.2.2 = true then some (b.1, b.2.1, b.2.2.1, b.2.2.2.1, b.2.2.2.2.1, b.2.2.2.2.2.1, (0 : Int)) else some (readN 5)) (state_is hs hf.lo hf.th hl hf.row) ?_
  cases stateM (tsP p) p.lo.length s with
  | none => exact Ev.now _
  | some u => exact Ev.now _
theorem read_bad (hz : VSz p) (hv : validM p ≠ 0) {s : ByteArray} : Ev (fun k => sc_Read.f k p.th p.rg p.lo p.r0 p.m0 s) (readN (validM p)) :=
  Ev.bind (f := fun k t => if t = 0 then ((sc_state.f k p.th p.rg p.lo p.r0 p.m0 s).bind fun b => if b.2.2.2.2.2.2 = true then some (b.1, b.2.1, b.2.2.1, b.2.2.2.1, b.2.2.2.2.1, b.2.2.2.2.2.1, (0 : Int)) else some (readN 5)) else some (readN t)) (valid_prog hz) (Ev.congr (fun k => if_neg hv) (Ev.now _))
/-- What stands behind the first half. -/
theorem j0_is (hz : VSz p) {s t : ByteArray} {e : Int} (hs : s.size ≤ 4611686018427387904) (he : e = 0 ∨ t = noText) : Ev (fun k => weirlaw11_ScBack.j0 k s t e p.th p.rg p.lo p.r0 p.m0) true := by
  refine Ev.step (f := fun k => (sc_Read.f k p.th p.rg p.lo p.r0 p.m0 s).bind fun b => if b.2.2.2.2.2.2 = 0 then ((sc_Code.f k p.th p.rg p.lo p.r0 p.m0 b.1 b.2.1 b.2.2.1 b.2.2.2.1 b.2.2.2.2.1 b.2.2.2.2.2.1).bind fun c => if c.2 = 0 then some (c.1.toList == s.toList) else some false) else (if e = 0 then some true else some (t.toList == ([] : List UInt8)))) (fun k => rfl) ?_
  have none' : Ev (fun _ : Nat => if e = 0 then some true else some (t.toList == ([] : List UInt8))) true := by
    by_cases h0 : e = 0
    · exact Ev.congr (fun _ => if_pos h0) (Ev.now _)
    · rcases he with h | h
      · exact absurd h h0
      · refine Ev.congr (f := fun _ => some true) (fun _ => ?_) (Ev.now _)
        rw [if_neg h0, h]
        exact congrArg some (by decide +kernel)
  by_cases hv : validM p = 0
  · have hl := valid_len hv
    have hr := read_is hz hv hs
    refine Ev.bind (f := fun k b => if b.2.2.2.2.2.2 = 0 then ((sc_Code.f k p.th p.rg p.lo p.r0 p.m0 b.1 b.2.1 b.2.2.1 b.2.2.2.1 b.2.2.2.2.1 b.2.2.2.2.2.1).bind fun c => if c.2 = 0 then some (c.1.toList == s.toList) else some false) else (if e = 0 then some true else some (t.toList == ([] : List UInt8)))) hr ?_
    cases hc : stateM (tsP p) p.lo.length s with
    | none => exact Ev.congr (fun k => if_neg (by show ¬ ((5 : Int) = 0); decide)) none'
    | some u =>
      obtain ⟨P, Q, R, M, B, K⟩ := u
      obtain ⟨ok, rfl⟩ := read_inv hc hs
      refine Ev.congr (fun k => if_pos rfl) ?_
      refine Ev.bind (f := fun _ c => if c.2 = 0 then some (c.1.toList == (textS (P, Q, R, M, B, K)).toList) else some false) (code_ok hz hv ok) (Ev.congr (f := fun _ => some true) (fun k => ?_) (Ev.now _))
      rw [if_pos rfl]
      simp
  · exact Ev.bind (f := fun k b => if b.2.2.2.2.2.2 = 0 then ((sc_Code.f k p.th p.rg p.lo p.r0 p.m0 b.1 b.2.1 b.2.2.1 b.2.2.2.1 b.2.2.2.2.1 b.2.2.2.2.2.1).bind fun c => if c.2 = 0 then some (c.1.toList == s.toList) else some false) else (if e = 0 then some true else some (t.toList == ([] : List UInt8)))) (read_bad hz hv) (Ev.congr (fun k => if_neg hv) none')
theorem back_is (hz : VSz p) (hN : Nums (P, Q, R, M, B, K)) {s : ByteArray} (hs : s.size ≤ 4611686018427387904) : Ev (fun k => weirlaw11_ScBack.f k p.th p.rg p.lo p.r0 p.m0 P Q R M B K s) true := by
  refine Ev.congr (f := fun k => (sc_Code.f k p.th p.rg p.lo p.r0 p.m0 P Q R M B K).bind fun c => if c.2 = 0 then ((sc_Read.f k p.th p.rg p.lo p.r0 p.m0 c.1).bind fun b => if b.2.2.2.2.2.2 = 0 then ((weirlaw11_SameStates.f k b.1 b.2.1 b.2.2.1 b.2.2.2.1 b.2.2.2.2.1 b.2.2.2.2.2.1 P Q R M B K).bind fun t => if t = true then weirlaw11_ScBack.j0 k s c.1 c.2 p.th p.rg p.lo p.r0 p.m0 else some false) else some false) else weirlaw11_ScBack.j0 k s c.1 c.2 p.th p.rg p.lo p.r0 p.m0) (fun k => rfl) ?_
  have no : ∀ {e : Int}, e ≠ 0 → Ev (fun k => sc_Code.f k p.th p.rg p.lo p.r0 p.m0 P Q R M B K) (noText, e) → Ev (fun k => (sc_Code.f k p.th p.rg p.lo p.r0 p.m0 P Q R M B K).bind fun c => if c.2 = 0 then ((sc_Read.f k p.th p.rg p.lo p.r0 p.m0 c.1).bind fun b => if b.2.2.2.2.2.2 = 0 then ((weirlaw11_SameStates.f k b.1 b.2.1 b.2.2.1 b.2.2.2.1 b.2.2.2.2.1 b.2.2.2.2.2.1 P Q R M B K).bind fun t => if t = true then weirlaw11_ScBack.j0 k s c.1 c.2 p.th p.rg p.lo p.r0 p.m0 else some false) else some false) else weirlaw11_ScBack.j0 k s c.1 c.2 p.th p.rg p.lo p.r0 p.m0) true := fun {e} h0 hc =>
    Ev.bind (f := fun k c => if c.2 = 0 then ((sc_Read.f k p.th p.rg p.lo p.r0 p.m0 c.1).bind fun b => if b.2.2.2.2.2.2 = 0 then ((weirlaw11_SameStates.f k b.1 b.2.1 b.2.2.1 b.2.2.2.1 b.2.2.2.2.1 b.2.2.2.2.2.1 P Q R M B K).bind fun t => if t = true then weirlaw11_ScBack.j0 k s c.1 c.2 p.th p.rg p.lo p.r0 p.m0 else some false) else some false) else weirlaw11_ScBack.j0 k s c.1 c.2 p.th p.rg p.lo p.r0 p.m0) hc (Ev.congr (fun k => if_neg h0) (j0_is hz hs (Or.inr rfl)))
  by_cases hv : validM p = 0
  · have hl := valid_len hv
    have hf := few_of hv hl
    cases hi : isM p P Q R M B K with
    | false => exact no (by decide) (code_no hz hv hi)
    | true =>
      have ok := is_ok hl hN hi
      have tk := ok_text hf ok
      have ts := text_small tk
      have hr := read_is hz hv (s := textS (P, Q, R, M, B, K)) ts
      rw [read_put ok ts (by rw [tsP_len hl]; have := hf.th; omega)] at hr
      refine Ev.bind (f := fun k c => if c.2 = 0 then ((sc_Read.f k p.th p.rg p.lo p.r0 p.m0 c.1).bind fun b => if b.2.2.2.2.2.2 = 0 then ((weirlaw11_SameStates.f k b.1 b.2.1 b.2.2.1 b.2.2.2.1 b.2.2.2.2.1 b.2.2.2.2.2.1 P Q R M B K).bind fun t => if t = true then weirlaw11_ScBack.j0 k s c.1 c.2 p.th p.rg p.lo p.r0 p.m0 else some false) else some false) else weirlaw11_ScBack.j0 k s c.1 c.2 p.th p.rg p.lo p.r0 p.m0) (code_ok hz hv ok) (Ev.congr (fun k => if_pos rfl) ?_)
      refine Ev.bind (f := fun k b => if b.2.2.2.2.2.2 = 0 then ((weirlaw11_SameStates.f k b.1 b.2.1 b.2.2.1 b.2.2.2.1 b.2.2.2.2.1 b.2.2.2.2.2.1 P Q R M B K).bind fun t => if t = true then weirlaw11_ScBack.j0 k s (textS (P, Q, R, M, B, K)) 0 p.th p.rg p.lo p.r0 p.m0 else some false) else some false) hr (Ev.congr (fun k => if_pos rfl) ?_)
      exact Ev.bind (f := fun k t => if t = true then weirlaw11_ScBack.j0 k s (textS (P, Q, R, M, B, K)) 0 p.th p.rg p.lo p.r0 p.m0 else some false) (states_same tk) (Ev.congr (fun k => if_pos rfl) (j0_is hz hs (Or.inl rfl)))
  · exact no hv (code_bad hz hv)
end Go.Proofs.Ytemhpbdlonfikaa.P
/-! What a law's argument holds, out of what its row says of it (DataW.trod): each row that it reaches, its numbers' bounds, its lengths' bounds. -/
namespace Go.Proofs.Ytemhpbdlonfikaa.P
open Go.RowKit Go.ChangeShapes Go.WideShapes Go.Deep Go.Proofs.YtemhpbdlonfikaaW.PrintWords

def Opens {α : Type} (P : Program) (t : TypeId) (K : World → α → List Value → Prop) (G : α → Prop) : Prop :=
  ∀ (H : Type) (enc : TypeId × Value → H) (W : World) (base : Nat) (spare : Nat → Bool) (held : Bool) (fuel : Nat) (cs : List Value) (x : DataW H × List MemPlace),
    DataW.trod enc P W base spare held fuel t cs = some x → (x.1.weights P t).all (· ≤ reachBytes) = true → ∃ p, K W p cs ∧ G p

section
variable {P : Program} {t e : TypeId}
theorem opens_int {k : IntKind} (ht : P.underlying t = some (.int k)) : Opens P t (Kd.int k).K (fun n => (Lit.int k n).wf = true) := by
  intro H enc W base spare held fuel cs x h _
  obtain ⟨n, rfl, _, hw⟩ := DataW.trod_int ht h
  exact ⟨n, rfl, hw⟩
theorem opens_string (ht : P.underlying t = some .string) : Opens P t Kd.string.K (fun s => s.size ≤ reachBytes) := by
  intro H enc W base spare held fuel cs x h hw
  obtain ⟨s, rfl, rfl, _⟩ := DataW.trod_string ht h
  refine ⟨s, rfl, ?_⟩
  simpa [DataW.weights] using hw

theorem weightsAll_mem {H : Type} {d : DataW H} {n : Nat} (hn : n ∈ d.weights P e) : ∀ (l : List (DataW H)), d ∈ l → n ∈ DataW.weightsAll P e l
  | [], h => by cases h
  | y :: r, h => by
    simp only [DataW.weightsAll, List.mem_append]
    rcases List.mem_cons.1 h with rfl | h
    · exact .inl hn
    · exact .inr (weightsAll_mem hn r h)

theorem opens_slice {α : Type} {d : Kd α} {G : α → Prop} (ht : P.underlying t = some (.slice e)) (he : P.cellsOf e = d.sz) (ho : Opens P e d.K G) :
    Opens P t (Kd.slice e d).K (fun xs => xs.length * P.bytesOf e ≤ reachBytes ∧ ∀ p ∈ xs, G p) := by
  intro H enc W base spare held fuel cs x h hw
  rcases open_slice ht h with ⟨rfl, rfl⟩ | ⟨a, len, cap, m, n, D, Pl, rfl, hb, hl, hc, hm, rfl, hel⟩
  · refine ⟨[], ⟨none, 0, rfl, Nat.le_refl _, rfl, by simp, fun h => absurd h (by simp)⟩, by simp, fun p hp => by cases hp⟩
  · have hlm : len ≤ m := by rw [hm]; split <;> omega
    simp only [DataW.weights, ht, List.all_cons, List.length_map, List.length_range, Bool.and_eq_true, decide_eq_true_eq] at hw
    have hi : ∀ i : Fin len, ∃ p, ∃ cs', W.cells? base (a.add (i.val * P.cellsOf e)) (P.cellsOf e) = some cs' ∧ d.K W p cs' ∧ G p := by
      intro i
      obtain ⟨cs', h1, h2⟩ := hel i.val (by omega)
      obtain ⟨p, hp, hg⟩ := ho H enc W base spare held n cs' _ h2 (List.all_eq_true.2 (fun q hq => by
        refine List.all_eq_true.1 hw.2 q ?_
        rw [List.mem_append]
        exact .inl (weightsAll_mem hq _ (List.mem_map.2 ⟨i.val, List.mem_range.2 i.isLt, rfl⟩))))
      exact ⟨p, cs', h1, hp, hg⟩
    obtain ⟨f, hf⟩ := Classical.axiomOfChoice hi
    refine ⟨List.ofFn f, ⟨some a, cap, by simp, by simpa using hl, by simp, ?_, fun hn => ⟨a, rfl, fun j p hj => ?_⟩⟩, ?_, fun p hp => ?_⟩
    · simp only [List.length_ofFn]
      have : maxLen ≤ 9223372036854775807 := by decide
      omega
    · obtain ⟨hjl, rfl⟩ := List.getElem?_eq_some_iff.1 hj
      rw [List.length_ofFn] at hjl
      rw [List.getElem_ofFn]
      obtain ⟨cs', h1, h2, _⟩ := hf ⟨j, hjl⟩
      obtain ⟨_, h3, h4⟩ := World.cells?_some h1
      refine ⟨cs', h3.trans he, h2, fun i u hu => ?_⟩
      have hi1 := (List.getElem?_eq_some_iff.1 hu).1
      have h5 := h4 i (by omega)
      rw [hu, Go.Deep.add_add, he] at h5
      exact h5
    · simp only [List.length_ofFn]
      exact Nat.le_trans (Nat.mul_le_mul_right _ (Nat.le_add_right _ _)) hw.1
    · obtain ⟨i, rfl⟩ := List.mem_ofFn.1 hp
      obtain ⟨_, _, _, h⟩ := hf i
      exact h

/-- A struct's fields, told by its cells. -/
theorem weightsEach_mem {H : Type} {n : Nat} : ∀ (ts : List TypeId) (l : List (DataW H)) (i : Nat) (t : TypeId) (d : DataW H), ts[i]? = some t → l[i]? = some d → n ∈ d.weights P t → n ∈ DataW.weightsEach P ts l
  | _, _, _, _, _, ht, hd, hn => DataW.weights_mem_each ht hd _ hn
theorem field_opens {H : Type} {enc : TypeId × Value → H} {W : World} {base : Nat} {spare : Nat → Bool} {held : Bool} {cs : List Value} {fs : Array Field} {xs : List (DataW H × List MemPlace)} {n : Nat}
    {α : Type} {K : World → α → List Value → Prop} {G : α → Prop} (i : Nat) (f : Field) (hf : fs[i]? = some f) (ho : Opens P f.type K G) (ht : P.underlying t = some (.struct fs)) (hl : xs.length = fs.size)
    (h : ∀ (i : Nat) (f : Field), fs[i]? = some f → DataW.trod enc P W base spare held n f.type ((cs.drop f.offset).take (P.cellsOf f.type)) = xs[i]?)
    (hw : ((DataW.agg (xs.map (·.1))).weights P t).all (· ≤ reachBytes) = true) {u : List Value} (hu : (cs.drop f.offset).take (P.cellsOf f.type) = u) : ∃ p, K W p u ∧ G p := by
  subst hu
  have hi : i < xs.length := by
    rw [hl]
    exact (Array.getElem?_eq_some_iff.1 hf).1
  have h1 := h i f hf
  rw [List.getElem?_eq_getElem hi] at h1
  refine ho H enc W base spare held n _ _ h1 (List.all_eq_true.2 (fun q hq => ?_))
  refine List.all_eq_true.1 hw q ?_
  simp only [DataW.weights, ht]
  refine weightsEach_mem _ _ i f.type xs[i].1 ?_ ?_ hq
  · rw [List.getElem?_map, Array.getElem?_toList, hf]
    rfl
  · rw [List.getElem?_map, List.getElem?_eq_getElem hi]
    rfl
end
end Go.Proofs.Ytemhpbdlonfikaa.P
/- What a program that is handed in holds. -/
namespace Go.Proofs.Ytemhpbdlonfikaa.P
open Go.RowKit Go.ChangeShapes Go.WideShapes Go.Proofs.YtemhpbdlonfikaaW.PrintWords

set_option maxRecDepth 100000 in
theorem opens_k87 : Opens Try.prog 87 k87.K (fun _ => True) := by
  intro H enc W base spare held fuel cs x h hw
  obtain ⟨xs, n, _, rfl, hl, hlen, hf⟩ := DataW.trod_struct Try.underlying87 h
  have hc : Try.prog.cellsOf 87 = 5 := by kernel_rfl
  have h2 : Try.prog.cellsOf 2 = 1 := by kernel_rfl
  have h3 : Try.prog.cellsOf 3 = 1 := by kernel_rfl
  rw [hc] at hl
  match cs, hl with
  | [u0, u1, u2, u3, u4], _ =>
    obtain ⟨a, ha, _⟩ := field_opens (t := 87) 0 _ rfl (opens_int (k := .i64) Try.underlying3) Try.underlying87 hlen hf hw (u := [u0]) (by simp [h3])
    obtain ⟨b, hb, _⟩ := field_opens (t := 87) 1 _ rfl (opens_int (k := .i64) Try.underlying3) Try.underlying87 hlen hf hw (u := [u1]) (by simp [h3])
    obtain ⟨c, hc', _⟩ := field_opens (t := 87) 2 _ rfl (opens_int (k := .i64) Try.underlying3) Try.underlying87 hlen hf hw (u := [u2]) (by simp [h3])
    obtain ⟨d, hd, _⟩ := field_opens (t := 87) 3 _ rfl (opens_int (k := .i64) Try.underlying3) Try.underlying87 hlen hf hw (u := [u3]) (by simp [h3])
    obtain ⟨e, he, _⟩ := field_opens (t := 87) 4 _ rfl (opens_int (k := .i64) Try.underlying2) Try.underlying87 hlen hf hw (u := [u4]) (by simp [h2])
    have ha' : [u0] = [Value.int .i64 a] := ha
    have hb' : [u1] = [Value.int .i64 b] := hb
    have hc' : [u2] = [Value.int .i64 c] := hc'
    have hd' : [u3] = [Value.int .i64 d] := hd
    have he' : [u4] = [Value.int .i64 e] := he
    obtain rfl : u0 = .int .i64 a := by injection ha'
    obtain rfl : u1 = .int .i64 b := by injection hb'
    obtain rfl : u2 = .int .i64 c := by injection hc'
    obtain rfl : u3 = .int .i64 d := by injection hd'
    obtain rfl : u4 = .int .i64 e := by injection he'
    exact ⟨⟨a, b, c, d, e⟩, k87_mk W ⟨a, b, c, d, e⟩, trivial⟩
set_option maxRecDepth 100000 in
theorem opens_prog {H : Type} {enc : TypeId × Value → H} {W : World} {r : Reach} {b0 base : Nat} {spare : Nat → Bool} {held : Bool} {v : Value} {d : DataW H} {ps : List MemPlace} (hv : Value.okWide Try.prog W r b0 28 v)
    (h : DataW.Trod enc Try.prog W base spare held 28 v d ps) (hw : (d.weights Try.prog 28).all (· ≤ reachBytes) = true) :
    ∃ (A0 A1 A2 A3 A4 : Option Addr) (c0 c1 c2 c3 c4 : Nat) (th : List (List S87)) (rg : List (List ByteArray)) (lo : List ByteArray) (r0 : List (List Int)) (m0 : List Int),
      v = .agg #[.slice A0 th.length c0, .slice A1 rg.length c1, .slice A2 lo.length c2, .slice A3 r0.length c3, .slice A4 m0.length c4] ∧
      Kd.C (Kd.slice 87 k87) W A0 th.length th ∧ th.length ≤ c0 ∧ Kd.C (Kd.slice 9 Kd.string) W A1 rg.length rg ∧ rg.length ≤ c1 ∧ Kd.C Kd.string W A2 lo.length lo ∧ lo.length ≤ c2 ∧
      Kd.C (Kd.slice 2 (Kd.int .i64)) W A3 r0.length r0 ∧ r0.length ≤ c3 ∧ Kd.C (Kd.int .i64) W A4 m0.length m0 ∧ m0.length ≤ c4 ∧
      th.length < 5864062014806 ∧ rg.length < 5864062014806 ∧ lo.length ≤ 8796093022208 ∧ (∀ x ∈ th, x.length ≤ 3518437208883) ∧ (∀ x ∈ rg, x.length ≤ 8796093022208) ∧ ∀ s ∈ lo, s.size ≤ 140737488351232 := by
  obtain ⟨cs, rfl, hsz⟩ := okWide_struct Try.underlying28 hv
  obtain ⟨fuel, h⟩ := h
  obtain ⟨xs, n, _, hx, hl, hlen, hf⟩ := DataW.trod_struct Try.underlying28 h
  injection hx with hx _
  subst hx
  have hR : reachBytes = 140737488351232 := by decide
  have c28 : Try.prog.cellsOf 28 = 5 := by kernel_rfl
  have c22 : Try.prog.cellsOf 22 = 1 := by kernel_rfl
  have c23 : Try.prog.cellsOf 23 = 1 := by kernel_rfl
  have c24 : Try.prog.cellsOf 24 = 1 := by kernel_rfl
  have c25 : Try.prog.cellsOf 25 = 1 := by kernel_rfl
  have c26 : Try.prog.cellsOf 26 = 1 := by kernel_rfl
  have b85 : Try.prog.bytesOf 85 = 24 := by kernel_rfl
  have b87 : Try.prog.bytesOf 87 = 40 := by kernel_rfl
  have b24 : Try.prog.bytesOf 24 = 24 := by kernel_rfl
  have b9 : Try.prog.bytesOf 9 = 16 := by kernel_rfl
  have o2 := opens_int (k := .i64) Try.underlying2
  have o9 := opens_string Try.underlying9
  have o85 := opens_slice (d := k87) Try.underlying85 (by kernel_rfl) opens_k87
  have o22 := opens_slice (d := Kd.slice 87 k87) Try.underlying22 (by kernel_rfl) o85
  have o24 := opens_slice (d := Kd.string) Try.underlying24 (by kernel_rfl) o9
  have o23 := opens_slice (d := Kd.slice 9 Kd.string) Try.underlying23 (by kernel_rfl) o24
  have o26 := opens_slice (d := Kd.int .i64) Try.underlying26 (by kernel_rfl) o2
  have o25 := opens_slice (d := Kd.slice 2 (Kd.int .i64)) Try.underlying25 (by kernel_rfl) o26
  obtain ⟨L, rfl⟩ : ∃ L : List Value, cs = L.toArray := ⟨cs.toList, by simp⟩
  have hl' : L.length = 5 := by rw [c28] at hsz; simpa using hsz
  simp only [Value.cells] at hf
  match L, hl' with
  | [u0, u1, u2, u3, u4], _ =>
    obtain ⟨th, ⟨A0, c0, e0, l0, k0⟩, g0, g0'⟩ := field_opens (t := 28) 0 _ rfl o22 Try.underlying28 hlen hf hw (u := [u0]) (by simp [c22])
    obtain ⟨rg, ⟨A1, c1, e1, l1, k1⟩, g1, g1'⟩ := field_opens (t := 28) 1 _ rfl o23 Try.underlying28 hlen hf hw (u := [u1]) (by simp [c23])
    obtain ⟨lo, ⟨A2, c2, e2, l2, k2⟩, g2, g2'⟩ := field_opens (t := 28) 2 _ rfl o24 Try.underlying28 hlen hf hw (u := [u2]) (by simp [c24])
    obtain ⟨r0, ⟨A3, c3, e3, l3, k3⟩, _, _⟩ := field_opens (t := 28) 3 _ rfl o25 Try.underlying28 hlen hf hw (u := [u3]) (by simp [c25])
    obtain ⟨m0, ⟨A4, c4, e4, l4, k4⟩, _, _⟩ := field_opens (t := 28) 4 _ rfl o26 Try.underlying28 hlen hf hw (u := [u4]) (by simp [c26])
    injection e0 with e0 _
    injection e1 with e1 _
    injection e2 with e2 _
    injection e3 with e3 _
    injection e4 with e4 _
    subst e0 e1 e2 e3 e4
    rw [b85] at g0
    rw [b24] at g1
    rw [b9] at g2
    refine ⟨A0, A1, A2, A3, A4, c0, c1, c2, c3, c4, th, rg, lo, r0, m0, rfl, k0, l0, k1, l1, k2, l2, k3, l3, k4, l4, by omega, by omega, by omega, fun x hx => ?_, fun x hx => ?_, fun s hs => ?_⟩
    · have := (g0' x hx).1
      rw [b87] at this
      omega
    · have := (g1' x hx).1
      rw [b9] at this
      omega
    · have := g2' s hs
      omega
end Go.Proofs.Ytemhpbdlonfikaa.P
/- What a State that is handed in holds. -/
namespace Go.Proofs.Ytemhpbdlonfikaa.P
open Go.RowKit Go.ChangeShapes Go.WideShapes Go.Proofs.YtemhpbdlonfikaaW.PrintWords

theorem i64_wf {n : Int} (h : (Lit.int .i64 n).wf = true) : I64 n := by
  have h' : (decide (IntKind.i64.min ≤ n) && decide (n ≤ IntKind.i64.max)) = true := h
  rw [Bool.and_eq_true] at h'
  have h1 : (-9223372036854775808 : Int) ≤ n := of_decide_eq_true h'.1
  have h2 : n ≤ (9223372036854775807 : Int) := of_decide_eq_true h'.2
  unfold I64
  omega
set_option maxRecDepth 100000 in
theorem opens_k59 : Opens Try.prog 59 k59.K (fun x => I64 x.f0 ∧ I64 x.f1) := by
  intro H enc W base spare held fuel cs x h hw
  obtain ⟨xs, n, _, rfl, hl, hlen, hf⟩ := DataW.trod_struct Try.underlying59 h
  have hc : Try.prog.cellsOf 59 = 2 := by kernel_rfl
  have h2 : Try.prog.cellsOf 2 = 1 := by kernel_rfl
  have h3 : Try.prog.cellsOf 3 = 1 := by kernel_rfl
  rw [hc] at hl
  match cs, hl with
  | [u0, u1], _ =>
    obtain ⟨a, ha, ga⟩ := field_opens (t := 59) 0 _ rfl (opens_int (k := .i64) Try.underlying3) Try.underlying59 hlen hf hw (u := [u0]) (by simp [h3])
    obtain ⟨b, hb, gb⟩ := field_opens (t := 59) 1 _ rfl (opens_int (k := .i64) Try.underlying2) Try.underlying59 hlen hf hw (u := [u1]) (by simp [h2])
    have ha' : [u0] = [Value.int .i64 a] := ha
    have hb' : [u1] = [Value.int .i64 b] := hb
    obtain rfl : u0 = .int .i64 a := by injection ha'
    obtain rfl : u1 = .int .i64 b := by injection hb'
    exact ⟨⟨a, b⟩, k59_mk W ⟨a, b⟩, i64_wf ga, i64_wf gb⟩
set_option maxRecDepth 100000 in
theorem opens_state {H : Type} {enc : TypeId × Value → H} {W : World} {r : Reach} {b0 base : Nat} {spare : Nat → Bool} {held : Bool} {v : Value} {d : DataW H} {ps : List MemPlace} (hv : Value.okWide Try.prog W r b0 42 v)
    (h : DataW.Trod enc Try.prog W base spare held 42 v d ps) (hw : (d.weights Try.prog 42).all (· ≤ reachBytes) = true) :
    ∃ (A0 A1 A2 A3 A4 : Option Addr) (c0 c1 c2 c3 c4 : Nat) (p q : List Int) (rg : List (List Int)) (me : List Int) (bf : List (List S59)) (lk : Int),
      v = .agg #[.slice A0 p.length c0, .slice A1 q.length c1, .slice A2 rg.length c2, .slice A3 me.length c3, .slice A4 bf.length c4, .int .i64 lk] ∧
      Kd.C (Kd.int .i64) W A0 p.length p ∧ p.length ≤ c0 ∧ Kd.C (Kd.int .i64) W A1 q.length q ∧ q.length ≤ c1 ∧ Kd.C (Kd.slice 2 (Kd.int .i64)) W A2 rg.length rg ∧ rg.length ≤ c2 ∧
      Kd.C (Kd.int .i64) W A3 me.length me ∧ me.length ≤ c3 ∧ Kd.C (Kd.slice 59 k59) W A4 bf.length bf ∧ bf.length ≤ c4 ∧ Nums (p, q, rg, me, bf, lk) := by
  obtain ⟨cs, rfl, hsz⟩ := okWide_struct Try.underlying42 hv
  obtain ⟨fuel, h⟩ := h
  obtain ⟨xs, n, _, hx, hl, hlen, hf⟩ := DataW.trod_struct Try.underlying42 h
  injection hx with hx _
  subst hx
  have c42 : Try.prog.cellsOf 42 = 6 := by kernel_rfl
  have c29 : Try.prog.cellsOf 29 = 1 := by kernel_rfl
  have c25 : Try.prog.cellsOf 25 = 1 := by kernel_rfl
  have c26 : Try.prog.cellsOf 26 = 1 := by kernel_rfl
  have c40 : Try.prog.cellsOf 40 = 1 := by kernel_rfl
  have c3 : Try.prog.cellsOf 3 = 1 := by kernel_rfl
  have o3 := opens_int (k := .i64) Try.underlying3
  have o2 := opens_int (k := .i64) Try.underlying2
  have o29 := opens_slice (d := Kd.int .i64) Try.underlying29 (by kernel_rfl) o3
  have o26 := opens_slice (d := Kd.int .i64) Try.underlying26 (by kernel_rfl) o2
  have o25 := opens_slice (d := Kd.slice 2 (Kd.int .i64)) Try.underlying25 (by kernel_rfl) o26
  have o57 := opens_slice (d := k59) Try.underlying57 (by kernel_rfl) opens_k59
  have o40 := opens_slice (d := Kd.slice 59 k59) Try.underlying40 (by kernel_rfl) o57
  obtain ⟨L, rfl⟩ : ∃ L : List Value, cs = L.toArray := ⟨cs.toList, by simp⟩
  have hl' : L.length = 6 := by rw [c42] at hsz; simpa using hsz
  simp only [Value.cells] at hf
  match L, hl' with
  | [u0, u1, u2, u3, u4, u5], _ =>
    obtain ⟨p, ⟨A0, c0, e0, l0, k0⟩, _, g0⟩ := field_opens (t := 42) 0 _ rfl o29 Try.underlying42 hlen hf hw (u := [u0]) (by simp [c29])
    obtain ⟨q, ⟨A1, c1, e1, l1, k1⟩, _, g1⟩ := field_opens (t := 42) 1 _ rfl o29 Try.underlying42 hlen hf hw (u := [u1]) (by simp [c29])
    obtain ⟨rg, ⟨A2, c2, e2, l2, k2⟩, _, g2⟩ := field_opens (t := 42) 2 _ rfl o25 Try.underlying42 hlen hf hw (u := [u2]) (by simp [c25])
    obtain ⟨me, ⟨A3, c3', e3, l3, k3⟩, _, g3⟩ := field_opens (t := 42) 3 _ rfl o26 Try.underlying42 hlen hf hw (u := [u3]) (by simp [c26])
    obtain ⟨bf, ⟨A4, c4, e4, l4, k4⟩, _, g4⟩ := field_opens (t := 42) 4 _ rfl o40 Try.underlying42 hlen hf hw (u := [u4]) (by simp [c40])
    obtain ⟨lk, e5, _⟩ := field_opens (t := 42) 5 _ rfl o3 Try.underlying42 hlen hf hw (u := [u5]) (by simp [c3])
    have e5' : [u5] = [Value.int .i64 lk] := e5
    injection e0 with e0 _
    injection e1 with e1 _
    injection e2 with e2 _
    injection e3 with e3 _
    injection e4 with e4 _
    injection e5' with e5' _
    subst e0 e1 e2 e3 e4 e5'
    exact ⟨A0, A1, A2, A3, A4, c0, c1, c2, c3', c4, p, q, rg, me, bf, lk, rfl, k0, l0, k1, l1, k2, l2, k3, l3, k4, l4, fun x hx => i64_wf (g0 x hx), fun x hx => i64_wf (g1 x hx), fun r hr x hx => i64_wf ((g2 r hr).2 x hx), fun x hx => i64_wf (g3 x hx), fun r hr x hx => (g4 r hr).2 x hx⟩
end Go.Proofs.Ytemhpbdlonfikaa.P
