/- The program's Valid and the document's, by one definition. -/
import Derived.Test.YtemhpbdlonfikaaPvh
namespace Go.Proofs.Ytemhpbdlonfikaa.P
open Go Go.RowKit Go.Proofs.YtemhpbdlonfikaaW.PrintWords Go.Proofs.YtemhpbdlonfikaaW.PrintLast Go.Proofs.YtemhpbdlonfikaaW.PrintMore

structure VSz (p : Pg) : Prop where
  z : Sized p
  rg : p.rg.length ≤ 9223372036854775807
  row : ∀ i : Int, (rd_L4 p.rg i).length ≤ 9223372036854775807
  lo : p.lo.length ≤ 9223372036854775807
  tx : Texts p.lo
def tailM (p : Pg) : Int := if 64 < evM p.lo.length p.th then 96 else 0
def fitRow (p : Pg) (i q : Nat) : Bool := fitB (rd_T87 (rd_L3 p.th (i : Int)) (q : Int)) (rd_L4 p.rg (i : Int)) p.lo.length
def fitTh (p : Pg) (i : Nat) : Bool := allR (fitRow p i) 0 (rd_L3 p.th (i : Int)).length
def thrM (p : Pg) (i d : Nat) : Int := if allR (fitTh p) i d then tailM p else 93
def locM (p : Pg) : Int := if 16 < p.lo.length then 97 else thrM p 0 p.th.length
noncomputable def namM (p : Pg) : Bool := p.m0.length == p.lo.length && (risesB p.lo 1 (p.lo.length - 1) && allR (fun i => nameB (tx p.lo i)) 0 p.lo.length)
noncomputable def lateM (p : Pg) : Int := if namM p then locM p else 52
def smallR (p : Pg) (i : Nat) : Bool := decide ((rd_L4 p.rg (i : Int)).length ≤ 8)
def regOK (p : Pg) (i : Nat) : Bool := (rd_L5 p.r0 (i : Int)).length == (rd_L4 p.rg (i : Int)).length && (risesB (rd_L4 p.rg (i : Int)) 1 ((rd_L4 p.rg (i : Int)).length - 1) && regsB (rd_L4 p.rg (i : Int)) 0 (rd_L4 p.rg (i : Int)).length)
noncomputable def sizeM (p : Pg) (i d : Nat) : Int := if allR (smallR p) i d then lateM p else 98
noncomputable def regM (p : Pg) (i d : Nat) : Int := if allR (regOK p) i d then sizeM p 0 p.th.length else 92
noncomputable def validM (p : Pg) : Int := if p.th.length = 0 ∨ 4 < p.th.length then 95 else if p.rg.length = p.th.length ∧ p.r0.length = p.th.length then regM p 0 p.th.length else 92

theorem ite_and {α : Type} {a b : Bool} {x y : α} : (if (a && b) = true then x else y) = if a = true then (if b = true then x else y) else y := by cases a <;> simp
theorem thr_prog {p : Pg} (h : VSz p) (hg : p.rg.length = p.th.length) : ∀ (d i : Nat), i + d = p.th.length → Ev (fun k => prog_Valid.l2 k p.th p.th.length i p.th p.rg p.lo p.r0 p.m0) (thrM p i d) := by
  intro d
  induction d with
  | zero =>
    intro i hi
    have hE : thrM p i 0 = if evM p.lo.length p.th > 64 then 96 else 0 := rfl
    rw [hE]
    refine Ev.step (f := fun k => (prog_Events.f k p.th p.rg p.lo p.r0 p.m0).bind fun t => if t > 64 then some 96 else some 0) (fun k => ?_) (Ev.bind (events_is p h.z) ?_)
    · simp only [prog_Valid.l2]
      rw [if_neg (by omega)]
    · refine Ev.congr (f := fun _ => some (if evM p.lo.length p.th > 64 then 96 else 0)) (fun k => ?_) (Ev.now _)
      split <;> rfl
  | succ d ih =>
    intro i hi
    have hw := wrap_nat (k := i) (n := p.th.length) (by omega) h.z.th
    have inner : ∀ (e j : Nat), j + e = (rd_L3 p.th i).length → Ev (fun k => prog_Valid.l3 k i p.th p.th.length i (rd_L3 p.th i) (rd_L3 p.th i).length j p.th p.rg p.lo p.r0 p.m0) (if allR (fitRow p i) j e then thrM p (i + 1) d else 93) := by
      intro e
      induction e with
      | zero =>
        intro j hj
        refine Ev.step (fun k => ?_) (ih (i + 1) (by omega))
        simp only [prog_Valid.l3]
        rw [if_neg (by omega), hw]
      | succ e ihe =>
        intro j hj
        have hwj := wrap_nat (k := j) (n := (rd_L3 p.th i).length) (by omega) (h.z.op i)
        rw [allR_succ, ite_and]
        refine Ev.step (f := fun k => (prog_fits.f k (rd_T87 (rd_L3 p.th i) j).f0 (rd_T87 (rd_L3 p.th i) j).f1 (rd_T87 (rd_L3 p.th i) j).f2 (rd_T87 (rd_L3 p.th i) j).f3 (rd_T87 (rd_L3 p.th i) j).f4 (rd_L4 p.rg i) p.lo).bind fun t => if t = true then prog_Valid.l3 k i p.th p.th.length i (rd_L3 p.th i) (rd_L3 p.th i).length ((j + 1 : Nat) : Int) p.th p.rg p.lo p.r0 p.m0 else some 93) (fun k => ?_) (Ev.bind (fits_is _ _ _) ?_)
        · simp only [prog_Valid.l3]
          rw [if_pos (by omega), if_pos (by omega), if_pos (by omega), if_pos (by omega), if_pos (by omega), hwj]
        · show Ev _ (if fitB (rd_T87 (rd_L3 p.th i) j) (rd_L4 p.rg i) p.lo.length = true then _ else _)
          cases fitB (rd_T87 (rd_L3 p.th i) j) (rd_L4 p.rg i) p.lo.length with
          | true => exact Ev.congr (fun k => if_pos rfl) (ihe (j + 1) (by omega))
          | false => exact Ev.congr (fun k => if_neg (by decide)) (Ev.now _)
    have h0 := inner (rd_L3 p.th i).length 0 (by omega)
    have hE : thrM p i (d + 1) = if allR (fitRow p i) 0 (rd_L3 p.th i).length then thrM p (i + 1) d else 93 := by
      unfold thrM; rw [allR_succ, ite_and]; rfl
    rw [hE]
    refine Ev.step (fun k => ?_) h0
    simp only [prog_Valid.l2]
    rw [if_pos (by omega), if_pos (by omega), if_pos (by omega)]; rfl
theorem j4_prog {p : Pg} (h : VSz p) (hg : p.rg.length = p.th.length) (b : Bool) : Ev (fun k => prog_Valid.j4 k b p.th p.rg p.lo p.r0 p.m0) (if b = true then 52 else locM p) := by
  cases b with
  | true =>
    refine Ev.step (f := fun _ => some 52) (fun k => ?_) (Ev.now _)
    simp only [prog_Valid.j4]; rfl
  | false =>
    rw [if_neg (by decide)]
    unfold locM
    by_cases hc : 16 < p.lo.length
    · rw [if_pos hc]
      refine Ev.step (f := fun _ => some 97) (fun k => ?_) (Ev.now _)
      simp only [prog_Valid.j4]
      rw [if_neg (by simp), if_pos (by omega)]
    · rw [if_neg hc]
      refine Ev.step (fun k => ?_) (thr_prog h hg p.th.length 0 (by omega))
      simp only [prog_Valid.j4]
      rw [if_neg (by simp), if_neg (by omega)]; rfl
theorem size_prog {p : Pg} (h : VSz p) (hg : p.rg.length = p.th.length) : ∀ (d i : Nat), i + d = p.th.length → Ev (fun k => prog_Valid.l1 k p.rg p.rg.length i p.th p.rg p.lo p.r0 p.m0) (sizeM p i d) := by
  intro d
  induction d with
  | zero =>
    intro i hi
    have hE : sizeM p i 0 = lateM p := rfl
    rw [hE]
    unfold lateM namM
    rw [ite_and]
    by_cases hm : p.m0.length = p.lo.length
    · rw [if_pos (by simp [hm])]
      refine Ev.step (f := fun k => (prog_rises__lexis_Name.f k p.lo).bind fun t => prog_Valid.j4 k (!t) p.th p.rg p.lo p.r0 p.m0) (fun k => ?_) (Ev.bind (rises_name p.lo h.lo h.tx) ?_)
      · simp only [prog_Valid.l1]
        rw [if_neg (by omega), if_pos (by omega)]
      · have := j4_prog h hg (!(risesB p.lo 1 (p.lo.length - 1) && allR (fun i => nameB (tx p.lo i)) 0 p.lo.length))
        cases hb : (risesB p.lo 1 (p.lo.length - 1) && allR (fun i => nameB (tx p.lo i)) 0 p.lo.length) with
        | true => rw [hb] at this; exact this
        | false => rw [hb] at this; exact this
    · rw [if_neg (by simp [hm])]
      refine Ev.step (fun k => ?_) (j4_prog h hg true)
      simp only [prog_Valid.l1]
      rw [if_neg (by omega), if_neg (by omega)]
  | succ d ih =>
    intro i hi
    have hw := wrap_nat (k := i) (n := p.th.length) (by omega) h.z.th
    have hE : sizeM p i (d + 1) = if smallR p i = true then sizeM p (i + 1) d else 98 := by unfold sizeM; rw [allR_succ, ite_and]
    rw [hE]
    unfold smallR
    by_cases hc : (rd_L4 p.rg i).length ≤ 8
    · rw [if_pos (decide_eq_true hc)]
      refine Ev.step (fun k => ?_) (ih (i + 1) (by omega))
      simp only [prog_Valid.l1]
      rw [if_pos (by omega), if_pos (by omega), if_pos (by omega), if_neg (by omega), hw]
    · rw [if_neg (by simpa using hc)]
      refine Ev.step (f := fun _ => some 98) (fun k => ?_) (Ev.now _)
      simp only [prog_Valid.l1]
      rw [if_pos (by omega), if_pos (by omega), if_pos (by omega), if_pos (by omega)]
theorem reg_prog {p : Pg} (h : VSz p) (hg : p.rg.length = p.th.length) (hr : p.r0.length = p.th.length) : ∀ (d i : Nat), i + d = p.th.length → Ev (fun k => prog_Valid.l0 k p.rg p.rg.length i p.th p.rg p.lo p.r0 p.m0) (regM p i d) := by
  intro d
  induction d with
  | zero =>
    intro i hi
    refine Ev.step (fun k => ?_) (size_prog h hg p.th.length 0 (by omega))
    simp only [prog_Valid.l0]
    rw [if_neg (by omega)]; rfl
  | succ d ih =>
    intro i hi
    have hw := wrap_nat (k := i) (n := p.th.length) (by omega) h.z.th
    have hE : regM p i (d + 1) = if regOK p i = true then regM p (i + 1) d else 92 := by unfold regM; rw [allR_succ, ite_and]
    rw [hE]
    unfold regOK
    rw [ite_and]
    by_cases hc : (rd_L5 p.r0 i).length = (rd_L4 p.rg i).length
    · rw [if_pos (by simp [hc])]
      refine Ev.step (f := fun k => (prog_rises__prog_Register.f k (rd_L4 p.rg i)).bind fun t => if t = true then prog_Valid.l0 k p.rg p.rg.length ((i + 1 : Nat) : Int) p.th p.rg p.lo p.r0 p.m0 else some 92) (fun k => ?_) (Ev.bind (rises_reg _ (h.row i)) ?_)
      · simp only [prog_Valid.l0]
        rw [if_pos (by omega), if_pos (by omega), if_pos (by omega), if_pos (by omega), if_pos (by omega), hw]
      · cases (risesB (rd_L4 p.rg i) 1 ((rd_L4 p.rg i).length - 1) && regsB (rd_L4 p.rg i) 0 (rd_L4 p.rg i).length) with
        | true => exact Ev.congr (fun k => if_pos rfl) (ih (i + 1) (by omega))
        | false => exact Ev.congr (fun k => if_neg (by decide)) (Ev.now _)
    · rw [if_neg (by simp [hc])]
      refine Ev.step (f := fun _ => some 92) (fun k => ?_) (Ev.now _)
      simp only [prog_Valid.l0]
      rw [if_pos (by omega), if_pos (by omega), if_pos (by omega), if_pos (by omega), if_neg (by omega)]
theorem valid_prog {p : Pg} (h : VSz p) : Ev (fun k => prog_Valid.f k p.th p.rg p.lo p.r0 p.m0) (validM p) := by
  have j0 : ∀ b : Bool, Ev (fun k => prog_Valid.j0 k b p.th p.rg p.lo p.r0 p.m0) (if b = true then 95 else if p.rg.length = p.th.length ∧ p.r0.length = p.th.length then regM p 0 p.th.length else 92) := by
    intro b
    cases b with
    | true =>
      refine Ev.step (f := fun _ => some 95) (fun k => ?_) (Ev.now _)
      simp only [prog_Valid.j0]; rfl
    | false =>
      rw [if_neg (by decide)]
      by_cases hg : p.rg.length = p.th.length
      · by_cases hr : p.r0.length = p.th.length
        · rw [if_pos ⟨hg, hr⟩]
          refine Ev.step (f := fun k => prog_Valid.j1 k ((p.r0.length : Int) != (p.th.length : Int)) p.th p.rg p.lo p.r0 p.m0) (fun k => ?_) ?_
          · simp only [prog_Valid.j0]
            rw [if_neg (by simp), if_pos (by omega)]
          · rw [show ((p.r0.length : Int) != (p.th.length : Int)) = false by simp [hr]]
            refine Ev.step (fun k => ?_) (reg_prog h hg hr p.th.length 0 (by omega))
            simp only [prog_Valid.j1]
            rw [if_neg (by simp)]; rfl
        · rw [if_neg (fun h => hr h.2)]
          refine Ev.step (f := fun k => prog_Valid.j1 k ((p.r0.length : Int) != (p.th.length : Int)) p.th p.rg p.lo p.r0 p.m0) (fun k => ?_) ?_
          · simp only [prog_Valid.j0]
            rw [if_neg (by simp), if_pos (by omega)]
          · rw [show ((p.r0.length : Int) != (p.th.length : Int)) = true by simp; omega]
            refine Ev.step (f := fun _ => some 92) (fun k => ?_) (Ev.now _)
            simp only [prog_Valid.j1]; rfl
      · rw [if_neg (fun h => hg h.1)]
        refine Ev.step (f := fun k => prog_Valid.j1 k true p.th p.rg p.lo p.r0 p.m0) (fun k => ?_) ?_
        · simp only [prog_Valid.j0]
          rw [if_neg (by simp), if_neg (by omega)]
        · refine Ev.step (f := fun _ => some 92) (fun k => ?_) (Ev.now _)
          simp only [prog_Valid.j1]; rfl
  unfold validM
  by_cases h0 : p.th.length = 0
  · rw [if_pos (.inl h0)]
    refine Ev.congr (fun k => ?_) (j0 true)
    simp only [prog_Valid.f]
    rw [if_pos (by omega)]
  · by_cases h4 : 4 < p.th.length
    · rw [if_pos (.inr h4)]
      refine Ev.congr (fun k => ?_) (j0 true)
      simp only [prog_Valid.f]
      rw [if_neg (by omega), decide_eq_true (by omega)]
    · rw [if_neg (by omega)]
      refine Ev.congr (fun k => ?_) (j0 false)
      simp only [prog_Valid.f]
      rw [if_neg (by omega), decide_eq_false (by omega)]
/-- What holds of a right program. -/
theorem valid_right {p : Pg} (h : validM p = 0) : RightPg p ∧ SmallPg p := by
  unfold validM at h
  split at h
  · cases h
  rename_i hn
  split at h
  · rename_i hl
    unfold regM at h
    split at h
    · rename_i hreg
      unfold sizeM at h
      split at h
      · rename_i hsm
        unfold lateM at h
        split at h
        · rename_i hnm
          unfold locM at h
          split at h
          · cases h
          rename_i hlo
          unfold thrM at h
          split at h
          · rename_i hfit
            have hm : p.m0.length = p.lo.length := by
              unfold namM at hnm
              rw [Bool.and_eq_true, beq_iff_eq] at hnm
              exact hnm.1
            refine ⟨⟨hl.1, fun i k h0 h1 h2 h3 => ?_⟩, ⟨by omega, by omega, fun i => ?_, hl.2, fun i hi => ?_, hm⟩⟩
            · obtain ⟨a, rfl⟩ : ∃ a : Nat, i = a := ⟨i.toNat, by omega⟩
              obtain ⟨b, rfl⟩ : ∃ b : Nat, k = b := ⟨k.toNat, by omega⟩
              have h4 := allR_at hfit (q := a) (by omega) (by omega)
              have h5 := allR_at (show allR (fitRow p a) 0 _ = true from h4) (q := b) (by omega) (by omega)
              exact fit_ok h5
            · rcases Nat.lt_or_ge i p.th.length with hi | hi
              · exact of_decide_eq_true (allR_at hsm (q := i) (by omega) (by omega))
              · have : rd_L4 p.rg i = [] := by
                  unfold rd_L4
                  rw [Int.toNat_natCast, List.getD_eq_getElem?_getD, List.getElem?_eq_none (by omega)]; rfl
                rw [this]; exact Nat.zero_le _
            · have h4 := allR_at hreg (q := i) (by omega) (by omega)
              unfold regOK at h4
              rw [Bool.and_eq_true, beq_iff_eq] at h4
              exact h4.1
          · cases h
        · cases h
      · cases h
    · cases h
  · cases h
end Go.Proofs.Ytemhpbdlonfikaa.P
