/- The program's Valid and the document's, by one definition. -/
import Derived.Test.YtemhpbdlonfikaaPvh
import Derived.Test.YtemhpbdlonfikaaTph
namespace Go.Proofs.Ytemhpbdlonfikaa.P
open Go Go.RowKit Go.Proofs.YtemhpbdlonfikaaW.PrintWords Go.Proofs.YtemhpbdlonfikaaW.PrintLast Go.Proofs.YtemhpbdlonfikaaW.PrintMore

structure VSz (p : Pg) : Prop where
  z : Sized p
  rg : p.rg.length ≤ 9223372036854775807
  row : ∀ i : Int, (rd_L4 p.rg i).length ≤ 9223372036854775807
  lo : p.lo.length ≤ 9223372036854775807
  tx : Texts p.lo
def tailM (p : Pg) : Int := if 64 < evM p.lo.length p.th then 96 else 0
def fitRow (p : Pg) (i q : Nat) : Bool := fitB (rd_T87 (rd_L3 p.th (i : Int)) (q : Int)) (rd_L4 p.rg (i : Int)) p.lo.length
def fitTh (p : Pg) (i : Nat) : Bool := allR (fitRow p i) 0 (rd_L3 p.th (i : Int)).length
def thrM (p : Pg) (i d : Nat) : Int := if allR (fitTh p) i d then tailM p else 93
def locM (p : Pg) : Int := if 16 < p.lo.length then 97 else thrM p 0 p.th.length
noncomputable def namM (p : Pg) : Bool := p.m0.length == p.lo.length && (risesB p.lo 1 (p.lo.length - 1) && allR (fun i => nameB (tx p.lo i)) 0 p.lo.length)
noncomputable def lateM (p : Pg) : Int := if namM p then locM p else 52
def smallR (p : Pg) (i : Nat) : Bool := decide ((rd_L4 p.rg (i : Int)).length ≤ 8)
def regOK (p : Pg) (i : Nat) : Bool := (rd_L5 p.r0 (i : Int)).length == (rd_L4 p.rg (i : Int)).length && (risesB (rd_L4 p.rg (i : Int)) 1 ((rd_L4 p.rg (i : Int)).length - 1) && regsB (rd_L4 p.rg (i : Int)) 0 (rd_L4 p.rg (i : Int)).length)
noncomputable def sizeM (p : Pg) (i d : Nat) : Int := if allR (smallR p) i d then lateM p else 98
noncomputable def regM (p : Pg) (i d : Nat) : Int := if allR (regOK p) i d then sizeM p 0 p.th.length else 92
noncomputable def validM (p : Pg) : Int := if p.th.length = 0 ∨ 4 < p.th.length then 95 else if p.rg.length = p.th.length ∧ p.r0.length = p.th.length then regM p 0 p.th.length else 92

theorem ite_and {α : Type} {a b : Bool} {x y : α} : (if (a && b) = true then x else y) = if a = true then (if b = true then x else y) else y := by cases a <;> simp
theorem thr_prog {p : Pg} (h : VSz p) (hg : p.rg.length = p.th.length) : ∀ (d i : Nat), i + d = p.th.length → Ev (fun k => prog_Valid.l2 k p.th p.th.length i p.th p.rg p.lo p.r0 p.m0) (thrM p i d) := by
  intro d
  induction d with
  | zero =>
    intro i hi
    have hE : thrM p i 0 = if evM p.lo.length p.th > 64 then 96 else 0 := rfl
    rw [hE]
    refine Ev.step (f := fun k => (prog_Events.f k p.th p.rg p.lo p.r0 p.m0).bind fun t => if t > 64 then some 96 else some 0) (fun k => ?_) (Ev.bind (events_is p h.z) ?_)
    · simp only [prog_Valid.l2]
      rw [if_neg (by omega)]
    · refine Ev.congr (f := fun _ => some (if evM p.lo.length p.th > 64 then 96 else 0)) (fun k => ?_) (Ev.now _)
      split <;> rfl
  | succ d ih =>
    intro i hi
    have hw := wrap_nat (k := i) (n := p.th.length) (by omega) h.z.th
    have inner : ∀ (e j : Nat), j + e = (rd_L3 p.th i).length → Ev (fun k => prog_Valid.l3 k i p.th p.th.length i (rd_L3 p.th i) (rd_L3 p.th i).length j p.th p.rg p.lo p.r0 p.m0) (if allR (fitRow p i) j e then thrM p (i + 1) d else 93) := by
      intro e
      induction e with
      | zero =>
        intro j hj
        refine Ev.step (fun k => ?_) (ih (i + 1) (by omega))
        simp only [prog_Valid.l3]
        rw [if_neg (by omega), hw]
      | succ e ihe =>
        intro j hj
        have hwj := wrap_nat (k := j) (n := (rd_L3 p.th i).length) (by omega) (h.z.op i)
        rw [allR_succ, ite_and]
        refine Ev.step (f := fun k => (prog_fits.f k (rd_T87 (rd_L3 p.th i) j).f0 (rd_T87 (rd_L3 p.th i) j).f1 (rd_T87 (rd_L3 p.th i) j).f2 (rd_T87 (rd_L3 p.th i) j).f3 (rd_T87 (rd_L3 p.th i) j).f4 (rd_L4 p.rg i) p.lo).bind fun t => if t = true then prog_Valid.l3 k i p.th p.th.length i (rd_L3 p.th i) (rd_L3 p.th i).length ((j + 1 : Nat) : Int) p.th p.rg p.lo p.r0 p.m0 else some 93) (fun k => ?_) (Ev.bind (fits_is _ _ _) ?_)
        · simp only [prog_Valid.l3]
          rw [if_pos (by omega), if_pos (by omega), if_pos (by omega), if_pos (by omega), if_pos (by omega), hwj]
        · show Ev _ (if fitB (rd_T87 (rd_L3 p.th i) j) (rd_L4 p.rg i) p.lo.length = true then _ else _)
          cases fitB (rd_T87 (rd_L3 p.th i) j) (rd_L4 p.rg i) p.lo.length with
          | true => exact Ev.congr (fun k => if_pos rfl) (ihe (j + 1) (by omega))
          | false => exact Ev.congr (fun k => if_neg (by decide)) (Ev.now _)
    have h0 := inner (rd_L3 p.th i).length 0 (by omega)
    have hE : thrM p i (d + 1) = if allR (fitRow p i) 0 (rd_L3 p.th i).length then thrM p (i + 1) d else 93 := by
      unfold thrM; rw [allR_succ, ite_and]; rfl
    rw [hE]
    refine Ev.step (fun k => ?_) h0
    simp only [prog_Valid.l2]
    rw [if_pos (by omega), if_pos (by omega), if_pos (by omega)]; rfl
theorem j4_prog {p : Pg} (h : VSz p) (hg : p.rg.length = p.th.length) (b : Bool) : Ev (fun k => prog_Valid.j4 k b p.th p.rg p.lo p.r0 p.m0) (if b = true then 52 else locM p) := by
  cases b with
  | true =>
    refine Ev.step (f := fun _ => some 52) (fun k => ?_) (Ev.now _)
    simp only [prog_Valid.j4]; rfl
  | false =>
    rw [if_neg (by decide)]
    unfold locM
    by_cases hc : 16 < p.lo.length
    · rw [if_pos hc]
      refine Ev.step (f := fun _ => some 97) (fun k => ?_) (Ev.now _)
      simp only [prog_Valid.j4]
      rw [if_neg (by simp), if_pos (by omega)]
    · rw [if_neg hc]
      refine Ev.step (fun k => ?_) (thr_prog h hg p.th.length 0 (by omega))
      simp only [prog_Valid.j4]
      rw [if_neg (by simp), if_neg (by omega)]; rfl
theorem size_prog {p : Pg} (h : VSz p) (hg : p.rg.length = p.th.length) : ∀ (d i : Nat), i + d = p.th.length → Ev (fun k => prog_Valid.l1 k p.rg p.rg.length i p.th p.rg p.lo p.r0 p.m0) (sizeM p i d) := by
  intro d
  induction d with
  | zero =>
    intro i hi
    have hE : sizeM p i 0 = lateM p := rfl
    rw [hE]
    unfold lateM namM
    rw [ite_and]
    by_cases hm : p.m0.length = p.lo.length
    · rw [if_pos (by simp [hm])]
      refine Ev.step (f := fun k => (prog_rises__lexis_Name.f k p.lo).bind fun t => prog_Valid.j4 k (!t) p.th p.rg p.lo p.r0 p.m0) (fun k => ?_) (Ev.bind (rises_name p.lo h.lo h.tx) ?_)
      · simp only [prog_Valid.l1]
        rw [if_neg (by omega), if_pos (by omega)]
      · have := j4_prog h hg (!(risesB p.lo 1 (p.lo.length - 1) && allR (fun i => nameB (tx p.lo i)) 0 p.lo.length))
        cases hb : (risesB p.lo 1 (p.lo.length - 1) && allR (fun i => nameB (tx p.lo i)) 0 p.lo.length) with
        | true => rw [hb] at this; exact this
        | false => rw [hb] at this; exact this
    · rw [if_neg (by simp [hm])]
      refine Ev.step (fun k => ?_) (j4_prog h hg true)
      simp only [prog_Valid.l1]
      rw [if_neg (by omega), if_neg (by omega)]
  | succ d ih =>
    intro i hi
    have hw := wrap_nat (k := i) (n := p.th.length) (by omega) h.z.th
    have hE : sizeM p i (d + 1) = if smallR p i = true then sizeM p (i + 1) d else 98 := by unfold sizeM; rw [allR_succ, ite_and]
    rw [hE]
    unfold smallR
    by_cases hc : (rd_L4 p.rg i).length ≤ 8
    · rw [if_pos (decide_eq_true hc)]
      refine Ev.step (fun k => ?_) (ih (i + 1) (by omega))
      simp only [prog_Valid.l1]
      rw [if_pos (by omega), if_pos (by omega), if_pos (by omega), if_neg (by omega), hw]
    · rw [if_neg (by simpa using hc)]
      refine Ev.step (f := fun _ => some 98) (fun k => ?_) (Ev.now _)
      simp only [prog_Valid.l1]
      rw [if_pos (by omega), if_pos (by omega), if_pos (by omega), if_pos (by omega)]
theorem reg_prog {p : Pg} (h : VSz p) (hg : p.rg.length = p.th.length) (hr : p.r0.length = p.th.length) : ∀ (d i : Nat), i + d = p.th.length → Ev (fun k => prog_Valid.l0 k p.rg p.rg.length i p.th p.rg p.lo p.r0 p.m0) (regM p i d) := by
  intro d
  induction d with
  | zero =>
    intro i hi
    refine Ev.step (fun k => ?_) (size_prog h hg p.th.length 0 (by omega))
    simp only [prog_Valid.l0]
    rw [if_neg (by omega)]; rfl
  | succ d ih =>
    intro i hi
    have hw := wrap_nat (k := i) (n := p.th.length) (by omega) h.z.th
    have hE : regM p i (d + 1) = if regOK p i = true then regM p (i + 1) d else 92 := by unfold regM; rw [allR_succ, ite_and]
    rw [hE]
    unfold regOK
    rw [ite_and]
    by_cases hc : (rd_L5 p.r0 i).length = (rd_L4 p.rg i).length
    · rw [if_pos (by simp [hc])]
      refine Ev.step (f := fun k => (prog_rises__prog_Register.f k (rd_L4 p.rg i)).bind fun t => if t = true then prog_Valid.l0 k p.rg p.rg.length ((i + 1 : Nat) : Int) p.th p.rg p.lo p.r0 p.m0 else some 92) (fun k => ?_) (Ev.bind (rises_reg _ (h.row i)) ?_)
      · simp only [prog_Valid.l0]
        rw [if_pos (by omega), if_pos (by omega), if_pos (by omega), if_pos (by omega), if_pos (by omega), hw]
      · cases (risesB (rd_L4 p.rg i) 1 ((rd_L4 p.rg i).length - 1) && regsB (rd_L4 p.rg i) 0 (rd_L4 p.rg i).length) with
        | true => exact Ev.congr (fun k => if_pos rfl) (ih (i + 1) (by omega))
        | false => exact Ev.congr (fun k => if_neg (by decide)) (Ev.now _)
    · rw [if_neg (by simp [hc])]
      refine Ev.step (f := fun _ => some 92) (fun k => ?_) (Ev.now _)
      simp only [prog_Valid.l0]
      rw [if_pos (by omega), if_pos (by omega), if_pos (by omega), if_pos (by omega), if_neg (by omega)]
theorem valid_prog {p : Pg} (h : VSz p) : Ev (fun k => prog_Valid.f k p.th p.rg p.lo p.r0 p.m0) (validM p) := by
  have j0 : ∀ b : Bool, Ev (fun k => prog_Valid.j0 k b p.th p.rg p.lo p.r0 p.m0) (if b = true then 95 else if p.rg.length = p.th.length ∧ p.r0.length = p.th.length then regM p 0 p.th.length else 92) := by
    intro b
    cases b with
    | true =>
      refine Ev.step (f := fun _ => some 95) (fun k => ?_) (Ev.now _)
      simp only [prog_Valid.j0]; rfl
    | false =>
      rw [if_neg (by decide)]
      by_cases hg : p.rg.length = p.th.length
      · by_cases hr : p.r0.length = p.th.length
        · rw [if_pos ⟨hg, hr⟩]
          refine Ev.step (f := fun k => prog_Valid.j1 k ((p.r0.length : Int) != (p.th.length : Int)) p.th p.rg p.lo p.r0 p.m0) (fun k => ?_) ?_
          · simp only [prog_Valid.j0]
            rw [if_neg (by simp), if_pos (by omega)]
          · rw [show ((p.r0.length : Int) != (p.th.length : Int)) = false by simp [hr]]
            refine Ev.step (fun k => ?_) (reg_prog h hg hr p.th.length 0 (by omega))
            simp only [prog_Valid.j1]
            rw [if_neg (by simp)]; rfl
        · rw [if_neg (fun h => hr h.2)]
          refine Ev.step (f := fun k => prog_Valid.j1 k ((p.r0.length : Int) != (p.th.length : Int)) p.th p.rg p.lo p.r0 p.m0) (fun k => ?_) ?_
          · simp only [prog_Valid.j0]
            rw [if_neg (by simp), if_pos (by omega)]
          · rw [show ((p.r0.length : Int) != (p.th.length : Int)) = true by simp; omega]
            refine Ev.step (f := fun _ => some 92) (fun k => ?_) (Ev.now _)
            simp only [prog_Valid.j1]; rfl
      · rw [if_neg (fun h => hg h.1)]
        refine Ev.step (f := fun k => prog_Valid.j1 k true p.th p.rg p.lo p.r0 p.m0) (fun k => ?_) ?_
        · simp only [prog_Valid.j0]
          rw [if_neg (by simp), if_neg (by omega)]
        · refine Ev.step (f := fun _ => some 92) (fun k => ?_) (Ev.now _)
          simp only [prog_Valid.j1]; rfl
  unfold validM
  by_cases h0 : p.th.length = 0
  · rw [if_pos (.inl h0)]
    refine Ev.congr (fun k => ?_) (j0 true)
    simp only [prog_Valid.f]
    rw [if_pos (by omega)]
  · by_cases h4 : 4 < p.th.length
    · rw [if_pos (.inr h4)]
      refine Ev.congr (fun k => ?_) (j0 true)
      simp only [prog_Valid.f]
      rw [if_neg (by omega), decide_eq_true (by omega)]
    · rw [if_neg (by omega)]
      refine Ev.congr (fun k => ?_) (j0 false)
      simp only [prog_Valid.f]
      rw [if_neg (by omega), decide_eq_false (by omega)]
/-- What holds of a right program. -/
theorem valid_right {p : Pg} (h : validM p = 0) : RightPg p ∧ SmallPg p := by
  unfold validM at h
  split at h
  · cases h
  rename_i hn
  split at h
  · rename_i hl
    unfold regM at h
    split at h
    · rename_i hreg
      unfold sizeM at h
      split at h
      · rename_i hsm
        unfold lateM at h
        split at h
        · rename_i hnm
          unfold locM at h
          split at h
          · cases h
          rename_i hlo
          unfold thrM at h
          split at h
          · rename_i hfit
            have hm : p.m0.length = p.lo.length := by
              unfold namM at hnm
              rw [Bool.and_eq_true, beq_iff_eq] at hnm
              exact hnm.1
            refine ⟨⟨hl.1, fun i k h0 h1 h2 h3 => ?_⟩, ⟨by omega, by omega, fun i => ?_, hl.2, fun i hi => ?_, hm⟩⟩
            · obtain ⟨a, rfl⟩ : ∃ a : Nat, i = a := ⟨i.toNat, by omega⟩
              obtain ⟨b, rfl⟩ : ∃ b : Nat, k = b := ⟨k.toNat, by omega⟩
              have h4 := allR_at hfit (q := a) (by omega) (by omega)
              have h5 := allR_at (show allR (fitRow p a) 0 _ = true from h4) (q := b) (by omega) (by omega)
              exact fit_ok h5
            · rcases Nat.lt_or_ge i p.th.length with hi | hi
              · exact of_decide_eq_true (allR_at hsm (q := i) (by omega) (by omega))
              · have : rd_L4 p.rg i = [] := by
                  unfold rd_L4
                  rw [Int.toNat_natCast, List.getD_eq_getElem?_getD, List.getElem?_eq_none (by omega)]; rfl
                rw [this]; exact Nat.zero_le _
            · have h4 := allR_at hreg (q := i) (by omega) (by omega)
              unfold regOK at h4
              rw [Bool.and_eq_true, beq_iff_eq] at h4
              exact h4.1
          · cases h
        · cases h
      · cases h
    · cases h
  · cases h
end Go.Proofs.Ytemhpbdlonfikaa.P
/- A program's sizes by its lists. -/
namespace Go.Proofs.Ytemhpbdlonfikaa.P
open Go Go.RowKit Go.Proofs.YtemhpbdlonfikaaW.PrintWords
theorem getD_len {α : Type} {l : List (List α)} {n m : Nat} (h : ∀ x ∈ l, x.length ≤ m) : (l.getD n []).length ≤ m := by
  rw [List.getD_eq_getElem?_getD]
  cases hc : l[n]? with
  | none => simp
  | some x => exact h x (List.mem_of_getElem? hc)
theorem vsz_of {p : Pg} (h0 : p.th.length < 5864062014806) (h1 : p.rg.length < 5864062014806) (h2 : p.lo.length ≤ 8796093022208) (h3 : ∀ x ∈ p.th, x.length ≤ 3518437208883) (h4 : ∀ x ∈ p.rg, x.length ≤ 8796093022208) (h5 : ∀ s ∈ p.lo, s.size ≤ 140737488351232) : VSz p := by
  refine ⟨⟨by omega, fun i => Nat.le_trans (getD_len h3) (by omega)⟩, by omega, fun i => Nat.le_trans (getD_len h4) (by omega), by omega, fun i => ?_⟩
  unfold tx rdOf
  rw [List.getD_eq_getElem?_getD]
  cases hc : p.lo[((i : Int)).toNat]? with
  | none => simp
  | some x => exact h5 x (List.mem_of_getElem? hc)
end Go.Proofs.Ytemhpbdlonfikaa.P
/- Is it a state of the program: told by lists. -/
namespace Go.Proofs.Ytemhpbdlonfikaa.P
open Go Go.RowKit Go.Proofs.YtemhpbdlonfikaaW.PrintWords Go.Proofs.YtemhpbdlonfikaaW.PrintLast Go.Proofs.YtemhpbdlonfikaaW.PrintMore
variable {p : Pg} {P Q : List Int} {R : List (List Int)} {M : List Int} {B : List (List S59)} {K : Int}

def wrB (nl : Nat) (l : List S59) (j : Nat) : Bool := decide (0 ≤ (rd_T59 l (j : Int)).f0 ∧ (rd_T59 l (j : Int)).f0 < (nl : Int))
def thOK (p : Pg) (P Q : List Int) (R : List (List Int)) (B : List (List S59)) (i : Nat) : Prop :=
  0 ≤ rd P (i : Int) ∧ rd P (i : Int) ≤ ((rd_L3 p.th (i : Int)).length : Int) ∧ 0 ≤ rd Q (i : Int) ∧ rd Q (i : Int) ≤ 2 ∧ (rd_L5 R (i : Int)).length = (rd_L4 p.rg (i : Int)).length ∧ (rd_L7 B (i : Int)).length ≤ 64
instance (p : Pg) (P Q : List Int) (R : List (List Int)) (B : List (List S59)) (i : Nat) : Decidable (thOK p P Q R B i) := inferInstanceAs (Decidable (_ ∧ _))
def thB (p : Pg) (P Q : List Int) (R : List (List Int)) (B : List (List S59)) (i : Nat) : Bool :=
  decide (thOK p P Q R B i) && allR (wrB p.lo.length (rd_L7 B (i : Int))) 0 (rd_L7 B (i : Int)).length
def lenP (p : Pg) (P Q : List Int) (R : List (List Int)) (M : List Int) (B : List (List S59)) (K : Int) : Prop :=
  P.length = p.th.length ∧ Q.length = p.th.length ∧ R.length = p.th.length ∧ B.length = p.th.length ∧ M.length = p.lo.length ∧ -1 ≤ K ∧ K < (p.th.length : Int)
instance (p : Pg) (P Q : List Int) (R : List (List Int)) (M : List Int) (B : List (List S59)) (K : Int) : Decidable (lenP p P Q R M B K) := inferInstanceAs (Decidable (_ ∧ _))
def isM (p : Pg) (P Q : List Int) (R : List (List Int)) (M : List Int) (B : List (List S59)) (K : Int) : Bool := decide (lenP p P Q R M B K) && allR (thB p P Q R B) 0 p.th.length

theorem is_l1 {i : Nat} {r : Bool} {row : List S59} (hrow : row.length ≤ 64) (h : Ev (fun k => sc_is.l0 k p.th p.th.length (wrap64 ((i : Int) + 1)) p.th p.rg p.lo p.r0 p.m0 P Q R M B K) r) :
    ∀ (e j : Nat), j + e = row.length → Ev (fun k => sc_is.l1 k p.th p.th.length i row row.length j p.th p.rg p.lo p.r0 p.m0 P Q R M B K) (allR (wrB p.lo.length row) j e && r) := by
  intro e
  induction e with
  | zero =>
    intro j hj
    refine Ev.step (fun k => ?_) h
    simp only [sc_is.l1]
    rw [if_neg (by omega)]
  | succ e ih =>
    intro j hj
    have hw := wrap_nat (k := j) (n := row.length) (by omega) (by omega)
    rw [allR_succ, Bool.and_assoc]
    by_cases h1 : (rd_T59 row (j : Int)).f0 < 0
    · have hb : wrB p.lo.length row j = false := decide_eq_false (fun ⟨h, _⟩ => by omega)
      rw [hb, Bool.false_and]
      refine Ev.step (f := fun _ => some false) (fun k => ?_) (Ev.now _)
      simp only [sc_is.l1]
      rw [if_pos (by omega), if_pos (by omega), if_pos (by omega), if_pos h1]
    · by_cases h2 : (rd_T59 row (j : Int)).f0 ≥ (p.lo.length : Int)
      · have hb : wrB p.lo.length row j = false := decide_eq_false (fun ⟨_, h⟩ => by omega)
        rw [hb, Bool.false_and]
        refine Ev.step (f := fun _ => some false) (fun k => ?_) (Ev.now _)
        simp only [sc_is.l1]
        rw [if_pos (by omega), if_pos (by omega), if_pos (by omega), if_neg h1, if_pos h2]
      · have hb : wrB p.lo.length row j = true := decide_eq_true ⟨by omega, by omega⟩
        rw [hb, Bool.true_and]
        refine Ev.step (fun k => ?_) (ih (j + 1) (by omega))
        simp only [sc_is.l1]
        rw [if_pos (by omega), if_pos (by omega), if_pos (by omega), if_neg h1, if_neg h2, hw]
theorem is_j2t {i : Nat} : Ev (fun k => sc_is.j2 k i p.th p.th.length i true p.th p.rg p.lo p.r0 p.m0 P Q R M B K) false := by
  refine Ev.step (f := fun _ => some false) (fun k => ?_) (Ev.now _)
  simp only [sc_is.j2]; rfl
theorem is_j2f {i : Nat} {r : Bool} (hB : B.length = p.th.length) (hi : i < p.th.length) (h : Ev (fun k => sc_is.l1 k p.th p.th.length i (rd_L7 B (i : Int)) (rd_L7 B (i : Int)).length (0 : Int) p.th p.rg p.lo p.r0 p.m0 P Q R M B K) r) :
    Ev (fun k => sc_is.j2 k i p.th p.th.length i false p.th p.rg p.lo p.r0 p.m0 P Q R M B K) r := by
  refine Ev.step (fun k => ?_) h
  simp only [sc_is.j2]
  rw [if_neg (by decide), if_pos (by omega), if_pos (by omega)]
theorem l0_step (hl : lenP p P Q R M B K) (hg : p.rg.length = p.th.length) {i : Nat} (hi : i < p.th.length) (k : Nat) : sc_is.l0 (k + 1) p.th p.th.length i p.th p.rg p.lo p.r0 p.m0 P Q R M B K = sc_is.j2 k i p.th p.th.length i (!decide (thOK p P Q R B i)) p.th p.rg p.lo p.r0 p.m0 P Q R M B K := by
  obtain ⟨l1, l2, l3, l4, l5, l6, l7⟩ := hl
  have bad : ¬ thOK p P Q R B i → (!decide (thOK p P Q R B i)) = true := fun h => by rw [decide_eq_false h]; rfl
  obtain ⟨J, hJ⟩ : ∃ J : Bool → Option Bool, J = fun b => sc_is.j2 k i p.th p.th.length i b p.th p.rg p.lo p.r0 p.m0 P Q R M B K := ⟨_, rfl⟩
  have hJ' : ∀ b, sc_is.j2 k i p.th p.th.length i b p.th p.rg p.lo p.r0 p.m0 P Q R M B K = J b := fun b => by rw [hJ]
  rw [hJ']
  simp only [sc_is.l0, hJ']
  clear hJ hJ'
  have i0 : (0 : Int) ≤ (i : Int) := by omega
  have i1 : (i : Int) < (p.th.length : Int) := by omega
  have i2 : (i : Int) < (P.length : Int) := by omega
  have i3 : (i : Int) < (Q.length : Int) := by omega
  have i4 : (i : Int) < (R.length : Int) := by omega
  have i5 : (i : Int) < (p.rg.length : Int) := by omega
  have i6 : (i : Int) < (B.length : Int) := by omega
  rw [if_pos i1, if_pos i0, if_pos i1, if_pos i2]
  by_cases c1 : rd P (i : Int) < 0
  · rw [if_pos c1, bad (fun h => by have := h.1; omega)]
  rw [if_neg c1]
  by_cases c2 : rd P (i : Int) > ((rd_L3 p.th (i : Int)).length : Int)
  · rw [if_pos c2, bad (fun h => by have := h.2.1; omega)]
  rw [if_neg c2, if_pos i3]
  by_cases c3 : rd Q (i : Int) < 0
  · rw [if_pos c3, bad (fun h => by have := h.2.2.1; omega)]
  rw [if_neg c3]
  by_cases c4 : rd Q (i : Int) > 2
  · rw [if_pos c4, bad (fun h => by have := h.2.2.2.1; omega)]
  rw [if_neg c4, if_pos i4, if_pos i5]
  by_cases c5 : (rd_L5 R (i : Int)).length = (rd_L4 p.rg (i : Int)).length
  · rw [if_pos (by omega), if_pos i6]
    by_cases c6 : (rd_L7 B (i : Int)).length ≤ 64
    · have ok : thOK p P Q R B i := ⟨by omega, by omega, by omega, by omega, c5, c6⟩
      rw [decide_eq_true ok, decide_eq_false (show ¬ (((rd_L7 B (i : Int)).length : Int) > 64) by omega)]; rfl
    · rw [bad (fun h => by have := h.2.2.2.2.2; omega), decide_eq_true (show (((rd_L7 B (i : Int)).length : Int) > 64) by omega)]
  · rw [if_neg (by omega), bad (fun h => c5 h.2.2.2.2.1)]
theorem is_l0 (hl : lenP p P Q R M B K) (hg : p.rg.length = p.th.length) (ht : p.th.length ≤ 4) : ∀ (d i : Nat), i + d = p.th.length → Ev (fun k => sc_is.l0 k p.th p.th.length i p.th p.rg p.lo p.r0 p.m0 P Q R M B K) (allR (thB p P Q R B) i d) := by
  obtain ⟨l1, l2, l3, l4, l5, l6, l7⟩ := hl
  intro d
  induction d with
  | zero =>
    intro i hi
    refine Ev.step (f := fun _ => some true) (fun k => ?_) (Ev.now _)
    simp only [sc_is.l0]
    rw [if_neg (by omega)]
  | succ d ih =>
    intro i hi
    have hw := wrap_nat (k := i) (n := p.th.length) (by omega) (by omega)
    have hn := ih (i + 1) (by omega)
    rw [← hw] at hn
    rw [allR_succ]
    have e := fun k => l0_step (p := p) (P := P) (Q := Q) (R := R) (M := M) (B := B) (K := K) ⟨l1, l2, l3, l4, l5, l6, l7⟩ hg (i := i) (by omega) k
    unfold thB
    by_cases ok : thOK p P Q R B i
    · rw [decide_eq_true ok, Bool.true_and]
      rw [decide_eq_true ok] at e
      exact Ev.step e (is_j2f l4 (by omega) (is_l1 ok.2.2.2.2.2 hn _ 0 (Nat.zero_add _)))
    · rw [decide_eq_false ok, Bool.false_and]
      rw [decide_eq_false ok] at e
      exact Ev.step e is_j2t
theorem is_j0t : Ev (fun k => sc_is.j0 k true p.th p.rg p.lo p.r0 p.m0 P Q R M B K) false := by
  refine Ev.step (f := fun _ => some false) (fun k => ?_) (Ev.now _)
  simp only [sc_is.j0]; rfl
theorem is_is (hg : p.rg.length = p.th.length) (ht : p.th.length ≤ 4) : Ev (fun k => sc_is.f k p.th p.rg p.lo p.r0 p.m0 P Q R M B K) (isM p P Q R M B K) := by
  have bad : ¬ lenP p P Q R M B K → isM p P Q R M B K = false := fun h => by unfold isM; rw [decide_eq_false h, Bool.false_and]
  by_cases c1 : P.length = p.th.length
  · by_cases c2 : Q.length = p.th.length
    · by_cases c3 : R.length = p.th.length
      · by_cases c4 : B.length = p.th.length
        · by_cases c5 : M.length = p.lo.length
          · by_cases c6 : K < -1
            · rw [bad (fun h => by have := h.2.2.2.2.2.1; omega)]
              refine Ev.congr (fun k => ?_) (is_j0t (p := p) (P := P) (Q := Q) (R := R) (M := M) (B := B) (K := K))
              simp only [sc_is.f]
              rw [if_pos (by omega), if_pos (by omega), if_pos (by omega), if_pos (by omega), if_pos (by omega), if_pos c6]
            · by_cases c7 : K ≥ (p.th.length : Int)
              · rw [bad (fun h => by have := h.2.2.2.2.2.2; omega)]
                refine Ev.congr (fun k => ?_) (is_j0t (p := p) (P := P) (Q := Q) (R := R) (M := M) (B := B) (K := K))
                simp only [sc_is.f]
                rw [if_pos (by omega), if_pos (by omega), if_pos (by omega), if_pos (by omega), if_pos (by omega), if_neg c6, decide_eq_true c7]
              · have ok : lenP p P Q R M B K := ⟨c1, c2, c3, c4, c5, by omega, by omega⟩
                have e : isM p P Q R M B K = allR (thB p P Q R B) 0 p.th.length := by unfold isM; rw [decide_eq_true ok, Bool.true_and]
                rw [e]
                refine Ev.congr (f := fun k => sc_is.j0 k false p.th p.rg p.lo p.r0 p.m0 P Q R M B K) (fun k => ?_) (Ev.step (fun k => ?_) (is_l0 ok hg ht p.th.length 0 (Nat.zero_add _)))
                · simp only [sc_is.f]
                  rw [if_pos (by omega), if_pos (by omega), if_pos (by omega), if_pos (by omega), if_pos (by omega), if_neg c6, decide_eq_false c7]
                · simp only [sc_is.j0]; rfl
          · rw [bad (fun h => c5 h.2.2.2.2.1)]
            refine Ev.congr (fun k => ?_) (is_j0t (p := p) (P := P) (Q := Q) (R := R) (M := M) (B := B) (K := K))
            simp only [sc_is.f]
            rw [if_pos (by omega), if_pos (by omega), if_pos (by omega), if_pos (by omega), if_neg (by omega)]
        · rw [bad (fun h => c4 h.2.2.2.1)]
          refine Ev.congr (fun k => ?_) (is_j0t (p := p) (P := P) (Q := Q) (R := R) (M := M) (B := B) (K := K))
          simp only [sc_is.f]
          rw [if_pos (by omega), if_pos (by omega), if_pos (by omega), if_neg (by omega)]
      · rw [bad (fun h => c3 h.2.2.1)]
        refine Ev.congr (fun k => ?_) (is_j0t (p := p) (P := P) (Q := Q) (R := R) (M := M) (B := B) (K := K))
        simp only [sc_is.f]
        rw [if_pos (by omega), if_pos (by omega), if_neg (by omega)]
    · rw [bad (fun h => c2 h.2.1)]
      refine Ev.congr (fun k => ?_) (is_j0t (p := p) (P := P) (Q := Q) (R := R) (M := M) (B := B) (K := K))
      simp only [sc_is.f]
      rw [if_pos (by omega), if_neg (by omega)]
  · rw [bad (fun h => c1 h.1)]
    refine Ev.congr (fun k => ?_) (is_j0t (p := p) (P := P) (Q := Q) (R := R) (M := M) (B := B) (K := K))
    simp only [sc_is.f]
    rw [if_neg (by omega)]

/-- Threads that are right, one by one. -/
theorem thr_of : ∀ {ts : List (Nat × Nat)} {P Q : List Int} {R : List (List Int)}, P.length = ts.length → Q.length = ts.length → R.length = ts.length → (∀ x ∈ P, I64 x) → (∀ x ∈ Q, I64 x) → (∀ r ∈ R, ∀ x ∈ r, I64 x) →
    (∀ i : Nat, ∀ t, ts[i]? = some t → 0 ≤ rd P (i : Int) ∧ rd P (i : Int) ≤ (t.1 : Int) ∧ 0 ≤ rd Q (i : Int) ∧ rd Q (i : Int) ≤ 2 ∧ (rd_L5 R (i : Int)).length = t.2) → ThrOK ts P Q R
  | [], [], [], [], _, _, _, _, _, _, _ => trivial
  | (n, m) :: ts, a :: P, b :: Q, g :: R, h1, h2, h3, n1, n2, n3, h => by
    obtain ⟨a1, a2, b1, b2, g1⟩ := h 0 (n, m) rfl
    refine ⟨⟨a1, a2, n1 _ List.mem_cons_self⟩, ⟨b1, b2, n2 _ List.mem_cons_self⟩, ⟨g1, n3 _ List.mem_cons_self⟩, thr_of (by simpa using h1) (by simpa using h2) (by simpa using h3) (fun x hx => n1 x (List.mem_cons_of_mem _ hx)) (fun x hx => n2 x (List.mem_cons_of_mem _ hx)) (fun x hx => n3 x (List.mem_cons_of_mem _ hx)) fun i t ht => ?_⟩
    exact h (i + 1) t ht
theorem thr_at : ∀ {ts : List (Nat × Nat)} {P Q : List Int} {R : List (List Int)}, ThrOK ts P Q R → ∀ i : Nat, ∀ t, ts[i]? = some t → 0 ≤ rd P (i : Int) ∧ rd P (i : Int) ≤ (t.1 : Int) ∧ 0 ≤ rd Q (i : Int) ∧ rd Q (i : Int) ≤ 2 ∧ (rd_L5 R (i : Int)).length = t.2
  | (n, m) :: ts, a :: P, b :: Q, g :: R, ⟨⟨a1, a2, _⟩, ⟨b1, b2, _⟩, ⟨g1, _⟩, _⟩, 0, t, ht => by
    obtain rfl : (n, m) = t := Option.some.inj ht
    exact ⟨a1, a2, b1, b2, g1⟩
  | (n, m) :: ts, a :: P, b :: Q, g :: R, ⟨_, _, _, h⟩, i + 1, t, ht => thr_at h i t ht
theorem tsP_at (hg : p.rg.length = p.th.length) {i : Nat} {t : Nat × Nat} (h : (tsP p)[i]? = some t) : i < p.th.length ∧ t = ((rd_L3 p.th (i : Int)).length, (rd_L4 p.rg (i : Int)).length) := by
  have hi : i < p.th.length := by rw [← tsP_len hg]; exact (List.getElem?_eq_some_iff.1 h).1
  refine ⟨hi, ?_⟩
  have hd := tsP_drop hg hi
  have e : (tsP p)[i]? = ((tsP p).drop i)[0]? := by rw [List.getElem?_drop, Nat.add_zero]
  rw [e, hd] at h
  exact (Option.some.inj h).symm
theorem tsP_some (hg : p.rg.length = p.th.length) {i : Nat} (hi : i < p.th.length) : (tsP p)[i]? = some ((rd_L3 p.th (i : Int)).length, (rd_L4 p.rg (i : Int)).length) := by
  obtain ⟨t, ht⟩ : ∃ t, (tsP p)[i]? = some t := ⟨_, List.getElem?_eq_getElem (by rw [tsP_len hg]; exact hi)⟩
  rw [ht, (tsP_at hg ht).2]
/-- The numbers of a state that is handed in. -/
structure Nums (u : StT) : Prop where
  n0 : ∀ x ∈ u.1, I64 x
  n1 : ∀ x ∈ u.2.1, I64 x
  n2 : ∀ r ∈ u.2.2.1, ∀ x ∈ r, I64 x
  n3 : ∀ x ∈ u.2.2.2.1, I64 x
  n4 : ∀ r ∈ u.2.2.2.2.1, ∀ x ∈ r, I64 x.f0 ∧ I64 x.f1
theorem rd_L7_mem {l : List S59} (h : l ∈ B) : ∃ i : Nat, i < B.length ∧ rd_L7 B (i : Int) = l := by
  obtain ⟨i, hi, he⟩ := List.mem_iff_getElem.1 h
  refine ⟨i, hi, ?_⟩
  unfold rd_L7
  rw [Int.toNat_natCast, List.getD_eq_getElem?_getD, List.getElem?_eq_getElem hi, Option.getD_some, he]
theorem rd_L7_in {i : Nat} (h : i < B.length) : rd_L7 B (i : Int) ∈ B := by
  unfold rd_L7
  rw [Int.toNat_natCast, List.getD_eq_getElem?_getD, List.getElem?_eq_getElem h, Option.getD_some]
  exact List.getElem_mem h
theorem rd_T59_in {l : List S59} {i : Nat} (h : i < l.length) : rd_T59 l (i : Int) ∈ l := by
  unfold rd_T59
  rw [Int.toNat_natCast, List.getD_eq_getElem?_getD, List.getElem?_eq_getElem h, Option.getD_some]
  exact List.getElem_mem h
theorem rd_T59_mem {l : List S59} {x : S59} (h : x ∈ l) : ∃ i : Nat, i < l.length ∧ rd_T59 l (i : Int) = x := by
  obtain ⟨i, hi, he⟩ := List.mem_iff_getElem.1 h
  refine ⟨i, hi, ?_⟩
  unfold rd_T59
  rw [Int.toNat_natCast, List.getD_eq_getElem?_getD, List.getElem?_eq_getElem hi, Option.getD_some, he]
theorem is_ok (hg : p.rg.length = p.th.length) (hN : Nums (P, Q, R, M, B, K)) (h : isM p P Q R M B K = true) : StateOK (tsP p) p.lo.length (P, Q, R, M, B, K) := by
  obtain ⟨n0, n1, n2, n3, n4⟩ := hN
  unfold isM at h
  rw [Bool.and_eq_true] at h
  obtain ⟨hl, ha⟩ := h
  obtain ⟨l1, l2, l3, l4, l5, l6, l7⟩ := of_decide_eq_true hl
  have tl := tsP_len hg
  have at_ : ∀ i : Nat, i < p.th.length → thOK p P Q R B i ∧ allR (wrB p.lo.length (rd_L7 B (i : Int))) 0 (rd_L7 B (i : Int)).length = true := fun i hi => by
    have hb := allR_at ha (Nat.zero_le i) (by omega)
    unfold thB at hb
    rw [Bool.and_eq_true] at hb
    exact ⟨of_decide_eq_true hb.1, hb.2⟩
  refine ⟨thr_of (l1.trans tl.symm) (l2.trans tl.symm) (l3.trans tl.symm) n0 n1 n2 fun i t ht => ?_, l5, n3, l4.trans tl.symm, fun l hl => ?_, l6, ?_⟩
  · obtain ⟨hi, rfl⟩ := tsP_at hg ht
    obtain ⟨⟨a1, a2, a3, a4, a5, _⟩, _⟩ := at_ i hi
    exact ⟨a1, a2, a3, a4, a5⟩
  · obtain ⟨i, hi', rfl⟩ := rd_L7_mem hl
    have hi : i < B.length := hi'
    obtain ⟨⟨_, _, _, _, _, a6⟩, ar⟩ := at_ i (by omega)
    refine ⟨a6, fun x hx => ?_⟩
    have hI := n4 _ hl x hx
    obtain ⟨j, hj', rfl⟩ := rd_T59_mem hx
    have hj : j < (rd_L7 B (i : Int)).length := hj'
    obtain ⟨w1, w2⟩ := of_decide_eq_true (allR_at ar (Nat.zero_le j) (by omega))
    exact ⟨w1, w2, hI.1, hI.2⟩
  · show K ≤ ((tsP p).length : Int) - 1
    rw [tl]; omega
theorem ok_is (hg : p.rg.length = p.th.length) (h : StateOK (tsP p) p.lo.length (P, Q, R, M, B, K)) : isM p P Q R M B K = true := by
  have tl := tsP_len hg
  obtain ⟨h1, h2, h3, h4, h5, h6, h7⟩ := h
  simp only at h1 h2 h3 h4 h5 h6 h7
  obtain ⟨e1, e2, e3⟩ := h1.len
  rw [tl] at h4 h7 e1 e2 e3
  have ok : lenP p P Q R M B K := ⟨e1, e2, e3, h4, h2, h6, by omega⟩
  unfold isM
  rw [decide_eq_true ok, Bool.true_and]
  refine List.all_eq_true.2 fun i hi => ?_
  have hi2 := List.mem_range.1 hi
  rw [Nat.zero_add]
  obtain ⟨a1, a2, a3, a4, a5⟩ := thr_at h1 i _ (tsP_some hg hi2)
  have hi3 : i < B.length := by rw [show B.length = p.th.length from h4]; exact hi2
  have hb := h5 _ (rd_L7_in hi3)
  unfold thB
  have k : thOK p P Q R B i := ⟨a1, a2, a3, a4, a5, hb.1⟩
  rw [decide_eq_true k, Bool.true_and]
  refine List.all_eq_true.2 fun j hj => ?_
  have hj2 : j < (rd_L7 B (i : Int)).length := List.mem_range.1 hj
  rw [Nat.zero_add]
  obtain ⟨w1, w2, _⟩ := hb.2 _ (rd_T59_in hj2)
  exact decide_eq_true ⟨w1, w2⟩
end Go.Proofs.Ytemhpbdlonfikaa.P
