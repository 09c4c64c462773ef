/- The document's Valid, by the same definition. -/
import Derived.Test.YtemhpbdlonfikaaPvi
namespace Go.Proofs.Ytemhpbdlonfikaa.P
open Go Go.RowKit Go.Proofs.YtemhpbdlonfikaaW.PrintWords Go.Proofs.YtemhpbdlonfikaaW.PrintLast Go.Proofs.YtemhpbdlonfikaaW.PrintMore

theorem regf (s : ByteArray) : weirref09_Register.f s = some (among s 16) := rfl
/-- The registers' code. -/
def rszM (p : Pg) (i d : Nat) : Int := if allR (smallR p) i d then 0 else 98
def rrgM (p : Pg) (i d : Nat) : Int := if allR (regOK p) i d then rszM p 0 p.th.length else 92
theorem rsz_ref {p : Pg} (h : VSz p) (hg : p.rg.length = p.th.length) : ∀ (d i : Nat), i + d = p.th.length → Ev (fun k => weirref09_registers.l2 k p.th.length i p.th p.rg p.lo p.r0 p.m0) (rszM p i d) := by
  intro d
  induction d with
  | zero =>
    intro i hi
    refine Ev.step (f := fun _ => some 0) (fun k => ?_) (Ev.now _)
    simp only [weirref09_registers.l2]
    rw [if_neg (by omega)]
  | succ d ih =>
    intro i hi
    have hw := wrap_nat (k := i) (n := p.th.length) (by omega) h.z.th
    have hE : rszM p i (d + 1) = if smallR p i = true then rszM p (i + 1) d else 98 := by unfold rszM; rw [allR_succ, ite_and]
    rw [hE]
    unfold smallR
    by_cases hc : (rd_L4 p.rg i).length ≤ 8
    · rw [if_pos (decide_eq_true hc)]
      refine Ev.step (fun k => ?_) (ih (i + 1) (by omega))
      simp only [weirref09_registers.l2]
      rw [if_pos (by omega), if_pos (by omega), if_pos (by omega), if_neg (by omega), hw]
    · rw [if_neg (by simpa using hc)]
      refine Ev.step (f := fun _ => some 98) (fun k => ?_) (Ev.now _)
      simp only [weirref09_registers.l2]
      rw [if_pos (by omega), if_pos (by omega), if_pos (by omega), if_pos (by omega)]
theorem rrg_step {p : Pg} {i j e : Nat} {X : Int} (_h : VSz p) (hg : p.rg.length = p.th.length) (hi : i < p.th.length) (hj : j + (e + 1) = (rd_L4 p.rg i).length) (hwj : wrap64 ((j : Int) + 1) = ((j + 1 : Nat) : Int))
    (hI : Ev (fun k => weirref09_registers.l1 k p.th.length i ((j + 1 : Nat) : Int) p.th p.rg p.lo p.r0 p.m0) (if regsB (rd_L4 p.rg i) (j + 1) e = true then X else 92)) :
    Ev (fun k => weirref09_registers.l1 k p.th.length i j p.th p.rg p.lo p.r0 p.m0) (if among (tx (rd_L4 p.rg i) j) 16 = true then (if regsB (rd_L4 p.rg i) (j + 1) e = true then X else 92) else 92) := by
  have hu : ∀ k, weirref09_registers.l1 (k + 1) p.th.length i j p.th p.rg p.lo p.r0 p.m0 = if among (tx (rd_L4 p.rg i) j) 16 = true then weirref09_registers.l1 k p.th.length i ((j + 1 : Nat) : Int) p.th p.rg p.lo p.r0 p.m0 else some 92 := fun k => by
    simp only [weirref09_registers.l1]
    rw [if_pos (by omega), if_pos (by omega), if_pos (by omega), if_pos (by omega), regf, Option.bind_some, hwj]
    rfl
  generalize among (tx (rd_L4 p.rg i) j) 16 = b at hu ⊢
  cases b with
  | true =>
    rw [if_pos rfl]
    exact Ev.step (fun k => by rw [hu k, if_pos rfl]) hI
  | false =>
    rw [if_neg (by decide)]
    exact Ev.step (f := fun _ => some 92) (fun k => by rw [hu k, if_neg (by decide)]) (Ev.now _)
theorem rrg_ref {p : Pg} (h : VSz p) (hg : p.rg.length = p.th.length) (hr : p.r0.length = p.th.length) : ∀ (d i : Nat), i + d = p.th.length → Ev (fun k => weirref09_registers.l0 k p.th.length i p.th p.rg p.lo p.r0 p.m0) (rrgM p i d) := by
  intro d
  induction d with
  | zero =>
    intro i hi
    refine Ev.step (fun k => ?_) (rsz_ref h hg p.th.length 0 (by omega))
    simp only [weirref09_registers.l0]
    rw [if_neg (by omega)]; rfl
  | succ d ih =>
    intro i hi
    have hw := wrap_nat (k := i) (n := p.th.length) (by omega) h.z.th
    have hE : rrgM p i (d + 1) = if regOK p i = true then rrgM p (i + 1) d else 92 := by unfold rrgM; rw [allR_succ, ite_and]
    rw [hE]
    unfold regOK
    rw [ite_and, ite_and]
    have inner : ∀ (e j : Nat), j + e = (rd_L4 p.rg i).length → Ev (fun k => weirref09_registers.l1 k p.th.length i j p.th p.rg p.lo p.r0 p.m0) (if regsB (rd_L4 p.rg i) j e = true then rrgM p (i + 1) d else 92) := by
      intro e
      induction e with
      | zero =>
        intro j hj
        refine Ev.step (fun k => ?_) (ih (i + 1) (by omega))
        simp only [weirref09_registers.l1]
        rw [if_pos (by omega), if_pos (by omega), if_neg (by omega), hw]
      | succ e ihe =>
        intro j hj
        have hwj := wrap_nat (k := j) (n := (rd_L4 p.rg i).length) (by omega) (h.row i)
        rw [regsB_succ, ite_and]
        exact rrg_step h hg (by omega) hj hwj (ihe (j + 1) (by omega))
    have j2 : ∀ b : Bool, Ev (fun k => weirref09_registers.j2 k p.th.length i (!b) p.th p.rg p.lo p.r0 p.m0) (if b = true then (if regsB (rd_L4 p.rg i) 0 (rd_L4 p.rg i).length = true then rrgM p (i + 1) d else 92) else 92) := by
      intro b
      cases b with
      | true =>
        rw [if_pos rfl]
        refine Ev.step (fun k => ?_) (inner (rd_L4 p.rg i).length 0 (by omega))
        simp only [weirref09_registers.j2]
        rw [if_neg (by simp)]; rfl
      | false =>
        refine Ev.step (f := fun _ => some 92) (fun k => ?_) (Ev.now _)
        simp only [weirref09_registers.j2]
        rw [if_pos (by simp)]
    by_cases hc : (rd_L5 p.r0 i).length = (rd_L4 p.rg i).length
    · rw [if_pos (by simp [hc])]
      refine Ev.step (f := fun k => (weirref09_rises.f k (rd_L4 p.rg i)).bind fun t => weirref09_registers.j2 k p.th.length i (!t) p.th p.rg p.lo p.r0 p.m0) (fun k => ?_) (Ev.bind (rises_ref _ (h.row i)) (j2 _))
      simp only [weirref09_registers.l0]
      rw [if_pos (by omega), if_pos (by omega), if_pos (by omega), if_pos (by omega), if_pos (by omega)]
    · rw [if_neg (by simp [hc])]
      refine Ev.step (fun k => ?_) (j2 false)
      simp only [weirref09_registers.l0]
      rw [if_pos (by omega), if_pos (by omega), if_pos (by omega), if_pos (by omega), if_neg (by omega)]; rfl
def regsM (p : Pg) : Int := if p.rg.length = p.th.length ∧ p.r0.length = p.th.length then rrgM p 0 p.th.length else 92
theorem regs_ref {p : Pg} (h : VSz p) : Ev (fun k => weirref09_registers.f k p.th p.rg p.lo p.r0 p.m0) (regsM p) := by
  have j0t : Ev (fun k => weirref09_registers.j0 k p.th.length true p.th p.rg p.lo p.r0 p.m0) 92 := by
    refine Ev.step (f := fun _ => some 92) (fun k => ?_) (Ev.now _)
    simp only [weirref09_registers.j0]; rfl
  unfold regsM
  by_cases hg : p.rg.length = p.th.length
  · by_cases hr : p.r0.length = p.th.length
    · rw [if_pos ⟨hg, hr⟩]
      refine Ev.congr (f := fun k => weirref09_registers.j0 k p.th.length false p.th p.rg p.lo p.r0 p.m0) (fun k => ?_) (Ev.step (fun k => ?_) (rrg_ref h hg hr p.th.length 0 (by omega)))
      · simp only [weirref09_registers.f]
        rw [if_pos (by omega), show ((p.r0.length : Int) != (p.th.length : Int)) = false by simp [hr]]
      · simp only [weirref09_registers.j0]
        rw [if_neg (by simp)]; rfl
    · rw [if_neg (fun h => hr h.2)]
      refine Ev.congr (fun k => ?_) j0t
      simp only [weirref09_registers.f]
      rw [if_pos (by omega), show ((p.r0.length : Int) != (p.th.length : Int)) = true by simp; omega]
  · rw [if_neg (fun h => hg h.1)]
    refine Ev.congr (fun k => ?_) j0t
    simp only [weirref09_registers.f]
    rw [if_neg (by omega)]
theorem thr_ref {p : Pg} (h : VSz p) (hg : p.rg.length = p.th.length) (hrs : ∀ i : Nat, i < p.th.length → risesB (rd_L4 p.rg i) 1 ((rd_L4 p.rg i).length - 1) = true) :
    ∀ (d i : Nat), i + d = p.th.length → Ev (fun k => weirref09_Valid.l1 k i p.th p.rg p.lo p.r0 p.m0) (thrM p i d) := by
  intro d
  induction d with
  | zero =>
    intro i hi
    have hE : thrM p i 0 = if evM p.lo.length p.th > 64 then 96 else 0 := rfl
    rw [hE]
    refine Ev.step (f := fun k => (weirref09_Events.f k p.th p.rg p.lo p.r0 p.m0).bind fun t => if t > 64 then some 96 else some 0) (fun k => ?_) (Ev.bind (events_ref p h.z) ?_)
    · simp only [weirref09_Valid.l1]
      rw [if_neg (by omega)]
    · refine Ev.congr (f := fun _ => some (if evM p.lo.length p.th > 64 then 96 else 0)) (fun k => ?_) (Ev.now _)
      split <;> rfl
  | succ d ih =>
    intro i hi
    have hw := wrap_nat (k := i) (n := p.th.length) (by omega) h.z.th
    have inner : ∀ (e j : Nat), j + e = (rd_L3 p.th i).length → Ev (fun k => weirref09_Valid.l2 k i j p.th p.rg p.lo p.r0 p.m0) (if allR (fitRow p i) j e then thrM p (i + 1) d else 93) := by
      intro e
      induction e with
      | zero =>
        intro j hj
        refine Ev.step (fun k => ?_) (ih (i + 1) (by omega))
        simp only [weirref09_Valid.l2]
        rw [if_pos (by omega), if_pos (by omega), if_neg (by omega), hw]
      | succ e ihe =>
        intro j hj
        have hwj := wrap_nat (k := j) (n := (rd_L3 p.th i).length) (by omega) (h.z.op i)
        rw [allR_succ, ite_and]
        refine Ev.step (f := fun k => (weirref09_right.f k (rd_T87 (rd_L3 p.th i) j).f0 (rd_T87 (rd_L3 p.th i) j).f1 (rd_T87 (rd_L3 p.th i) j).f2 (rd_T87 (rd_L3 p.th i) j).f3 (rd_T87 (rd_L3 p.th i) j).f4 (rd_L4 p.rg i) p.lo.length).bind fun t => if t = true then weirref09_Valid.l2 k i ((j + 1 : Nat) : Int) p.th p.rg p.lo p.r0 p.m0 else some 93) (fun k => ?_) (Ev.bind (right_is _ _ _ (h.row i) (hrs i (by omega))) ?_)
        · simp only [weirref09_Valid.l2]
          rw [if_pos (by omega), if_pos (by omega), if_pos (by omega), if_pos (by omega), if_pos (by omega), hwj]
        · show Ev _ (if fitB (rd_T87 (rd_L3 p.th i) j) (rd_L4 p.rg i) p.lo.length = true then _ else _)
          cases fitB (rd_T87 (rd_L3 p.th i) j) (rd_L4 p.rg i) p.lo.length with
          | true => exact Ev.congr (fun k => if_pos rfl) (ihe (j + 1) (by omega))
          | false => exact Ev.congr (fun k => if_neg (by decide)) (Ev.now _)
    have hE : thrM p i (d + 1) = if allR (fitRow p i) 0 (rd_L3 p.th i).length then thrM p (i + 1) d else 93 := by
      unfold thrM; rw [allR_succ, ite_and]; rfl
    rw [hE]
    refine Ev.step (fun k => ?_) (inner (rd_L3 p.th i).length 0 (by omega))
    simp only [weirref09_Valid.l1]
    rw [if_pos (by omega)]; rfl
theorem late_ref {p : Pg} (h : VSz p) (hg : p.rg.length = p.th.length) (hrs : ∀ i : Nat, i < p.th.length → risesB (rd_L4 p.rg i) 1 ((rd_L4 p.rg i).length - 1) = true) :
    Ev (fun k => if (p.m0.length : Int) = (p.lo.length : Int) then (weirref09_rises.f k p.lo).bind fun t => weirref09_Valid.j1 k (!t) p.th p.rg p.lo p.r0 p.m0 else weirref09_Valid.j1 k true p.th p.rg p.lo p.r0 p.m0) (lateM p) := by
  have names : ∀ (d i : Nat), i + d = p.lo.length → Ev (fun k => weirref09_Valid.l0 k i p.th p.rg p.lo p.r0 p.m0) (if allR (fun i => nameB (tx p.lo i)) i d = true then locM p else 52) := by
    intro d
    induction d with
    | zero =>
      intro i hi
      rw [show allR (fun i => nameB (tx p.lo i)) i 0 = true from rfl, if_pos rfl]
      unfold locM
      by_cases hc : 16 < p.lo.length
      · rw [if_pos hc]
        refine Ev.step (f := fun _ => some 97) (fun k => ?_) (Ev.now _)
        simp only [weirref09_Valid.l0]
        rw [if_neg (by omega), if_pos (by omega)]
      · rw [if_neg hc]
        refine Ev.step (fun k => ?_) (thr_ref h hg hrs p.th.length 0 (by omega))
        simp only [weirref09_Valid.l0]
        rw [if_neg (by omega), if_neg (by omega)]; rfl
    | succ d ih =>
      intro i hi
      have hw := wrap_nat (k := i) (n := p.lo.length) (by omega) h.lo
      rw [allR_succ, ite_and]
      refine Ev.step (f := fun k => (weirref05_Name.f k (tx p.lo i)).bind fun t => if t = true then weirref09_Valid.l0 k ((i + 1 : Nat) : Int) p.th p.rg p.lo p.r0 p.m0 else some 52) (fun k => ?_) (Ev.bind (nameB_is _ (h.tx i)).2 ?_)
      · simp only [weirref09_Valid.l0]
        rw [if_pos (by omega), if_pos (by omega), hw]; rfl
      · cases nameB (tx p.lo i) with
        | true => exact Ev.congr (fun k => if_pos rfl) (ih (i + 1) (by omega))
        | false => exact Ev.congr (fun k => if_neg (by decide)) (Ev.now _)
  have j1 : ∀ b : Bool, Ev (fun k => weirref09_Valid.j1 k (!b) p.th p.rg p.lo p.r0 p.m0) (if b = true then (if allR (fun i => nameB (tx p.lo i)) 0 p.lo.length = true then locM p else 52) else 52) := by
    intro b
    cases b with
    | true =>
      rw [if_pos rfl]
      refine Ev.step (fun k => ?_) (names p.lo.length 0 (by omega))
      simp only [weirref09_Valid.j1]
      rw [if_neg (by simp)]; rfl
    | false =>
      refine Ev.step (f := fun _ => some 52) (fun k => ?_) (Ev.now _)
      simp only [weirref09_Valid.j1]
      rw [if_pos (by simp)]
  unfold lateM namM
  rw [ite_and, ite_and]
  by_cases hm : p.m0.length = p.lo.length
  · rw [if_pos (by simp [hm])]
    refine Ev.congr (fun k => if_pos (by omega)) (Ev.bind (rises_ref p.lo h.lo) (j1 _))
  · rw [if_neg (by simp [hm])]
    exact Ev.congr (fun k => if_neg (by omega)) (j1 false)
theorem valid_ref {p : Pg} (h : VSz p) : Ev (fun k => weirref09_Valid.f k p.th p.rg p.lo p.r0 p.m0) (validM p) := by
  have jt : Ev (fun k => weirref09_Valid.j0 k true p.th p.rg p.lo p.r0 p.m0) 95 := by
    refine Ev.step (f := fun _ => some 95) (fun k => ?_) (Ev.now _)
    simp only [weirref09_Valid.j0]; rfl
  have jf : Ev (fun k => weirref09_Valid.j0 k false p.th p.rg p.lo p.r0 p.m0) (if p.rg.length = p.th.length ∧ p.r0.length = p.th.length then regM p 0 p.th.length else 92) := by
    have hbody : ∀ r : Int, regsM p = r → Ev (fun k => if r = 0 then (if (p.m0.length : Int) = (p.lo.length : Int) then (weirref09_rises.f k p.lo).bind fun t => weirref09_Valid.j1 k (!t) p.th p.rg p.lo p.r0 p.m0 else weirref09_Valid.j1 k true p.th p.rg p.lo p.r0 p.m0) else some r) (if p.rg.length = p.th.length ∧ p.r0.length = p.th.length then regM p 0 p.th.length else 92) := by
      intro r hr
      unfold regsM at hr
      split at hr
      · rename_i hl
        rw [if_pos hl]
        unfold rrgM at hr
        unfold regM
        split at hr
        · rename_i hreg
          rw [if_pos hreg]
          unfold rszM at hr
          unfold sizeM
          split at hr
          · rename_i hsm
            rw [if_pos hsm]
            subst hr
            refine Ev.congr (fun k => if_pos rfl) (late_ref h hl.1 (fun i hi => ?_))
            have h4 := allR_at hreg (q := i) (by omega) (by omega)
            unfold regOK at h4
            rw [Bool.and_eq_true, Bool.and_eq_true] at h4
            exact h4.2.1
          · rename_i hsm
            rw [if_neg hsm]
            subst hr
            exact Ev.congr (fun k => if_neg (by decide)) (Ev.now _)
        · rename_i hreg
          rw [if_neg hreg]
          subst hr
          exact Ev.congr (fun k => if_neg (by decide)) (Ev.now _)
      · rename_i hl
        rw [if_neg hl]
        subst hr
        exact Ev.congr (fun k => if_neg (by decide)) (Ev.now _)
    refine Ev.step (f := fun k => (weirref09_registers.f k p.th p.rg p.lo p.r0 p.m0).bind fun r => if r = 0 then (if (p.m0.length : Int) = (p.lo.length : Int) then (weirref09_rises.f k p.lo).bind fun t => weirref09_Valid.j1 k (!t) p.th p.rg p.lo p.r0 p.m0 else weirref09_Valid.j1 k true p.th p.rg p.lo p.r0 p.m0) else some r) (fun k => ?_) (Ev.bind (regs_ref h) (hbody _ rfl))
    simp only [weirref09_Valid.j0]
    rw [if_neg (by simp)]
  unfold validM
  by_cases h0 : p.th.length = 0
  · rw [if_pos (.inl h0)]
    refine Ev.congr (fun k => ?_) jt
    simp only [weirref09_Valid.f]
    rw [if_pos (by omega)]
  · by_cases h4 : 4 < p.th.length
    · rw [if_pos (.inr h4)]
      refine Ev.congr (fun k => ?_) jt
      simp only [weirref09_Valid.f]
      rw [if_neg (by omega), decide_eq_true (by omega)]
    · rw [if_neg (by omega)]
      refine Ev.congr (fun k => ?_) jf
      simp only [weirref09_Valid.f]
      rw [if_neg (by omega), decide_eq_false (by omega)]
end Go.Proofs.Ytemhpbdlonfikaa.P
