/- Programs and states that are handed in fit into memory. -/
import Derived.Test.YtemhpbdlonfikaaArgS
import Derived.Test.YtemhpbdlonfikaaP26
namespace Go.Proofs.Ytemhpbdlonfikaa.P
open Go.RowKit Go.ChangeShapes Go.WideShapes Go.Proofs.YtemhpbdlonfikaaW.PrintWords

set_option maxRecDepth 100000 in
theorem opens_progF {H : Type} {enc : TypeId × Value → H} {W : World} {r : Reach} {b0 base : Nat} {spare : Nat → Bool} {held : Bool} {v : Value} {d : DataW H} {ps : List MemPlace} (hv : Value.okWide Try.prog W r b0 28 v)
    (h : DataW.Trod enc Try.prog W base spare held 28 v d ps) (hw : (d.weights Try.prog 28).all (· ≤ reachBytes) = true) :
    ∃ (A0 A1 A2 A3 A4 : Option Addr) (c0 c1 c2 c3 c4 : Nat) (th : List (List S87)) (rg : List (List ByteArray)) (lo : List ByteArray) (r0 : List (List Int)) (m0 : List Int),
      v = .agg #[.slice A0 th.length c0, .slice A1 rg.length c1, .slice A2 lo.length c2, .slice A3 r0.length c3, .slice A4 m0.length c4] ∧
      Kd.C (Kd.slice 87 k87) W A0 th.length th ∧ th.length ≤ c0 ∧ Kd.C (Kd.slice 9 Kd.string) W A1 rg.length rg ∧ rg.length ≤ c1 ∧ Kd.C Kd.string W A2 lo.length lo ∧ lo.length ≤ c2 ∧
      Kd.C (Kd.slice 2 (Kd.int .i64)) W A3 r0.length r0 ∧ r0.length ≤ c3 ∧ Kd.C (Kd.int .i64) W A4 m0.length m0 ∧ m0.length ≤ c4 ∧
      th.length < 5864062014806 ∧ rg.length < 5864062014806 ∧ lo.length ≤ 8796093022208 ∧ (∀ x ∈ th, x.length ≤ 3518437208883) ∧ (∀ x ∈ rg, x.length ≤ 8796093022208) ∧ (∀ s ∈ lo, s.size ≤ 140737488351232) ∧ PgFit ⟨th, rg, lo, r0, m0⟩ := by
  obtain ⟨cs, rfl, hsz⟩ := okWide_struct Try.underlying28 hv
  obtain ⟨fuel, h⟩ := h
  obtain ⟨xs, n, _, hx, hl, hlen, hf⟩ := DataW.trod_struct Try.underlying28 h
  injection hx with hx _
  subst hx
  have hR : reachBytes = 140737488351232 := by decide
  have c28 : Try.prog.cellsOf 28 = 5 := by kernel_rfl
  have c22 : Try.prog.cellsOf 22 = 1 := by kernel_rfl
  have c23 : Try.prog.cellsOf 23 = 1 := by kernel_rfl
  have c24 : Try.prog.cellsOf 24 = 1 := by kernel_rfl
  have c25 : Try.prog.cellsOf 25 = 1 := by kernel_rfl
  have c26 : Try.prog.cellsOf 26 = 1 := by kernel_rfl
  have b85 : Try.prog.bytesOf 85 = 24 := by kernel_rfl
  have b87 : Try.prog.bytesOf 87 = 40 := by kernel_rfl
  have b24 : Try.prog.bytesOf 24 = 24 := by kernel_rfl
  have b9 : Try.prog.bytesOf 9 = 16 := by kernel_rfl
  have b26 : Try.prog.bytesOf 26 = 24 := by kernel_rfl
  have b2 : Try.prog.bytesOf 2 = 8 := by kernel_rfl
  have o2 := opens_int (k := .i64) Try.underlying2
  have o9 := opens_string Try.underlying9
  have o85 := opens_slice (d := k87) Try.underlying85 (by kernel_rfl) opens_k87
  have o22 := opens_slice (d := Kd.slice 87 k87) Try.underlying22 (by kernel_rfl) o85
  have o24 := opens_slice (d := Kd.string) Try.underlying24 (by kernel_rfl) o9
  have o23 := opens_slice (d := Kd.slice 9 Kd.string) Try.underlying23 (by kernel_rfl) o24
  have o26 := opens_slice (d := Kd.int .i64) Try.underlying26 (by kernel_rfl) o2
  have o25 := opens_slice (d := Kd.slice 2 (Kd.int .i64)) Try.underlying25 (by kernel_rfl) o26
  obtain ⟨L, rfl⟩ : ∃ L : List Value, cs = L.toArray := ⟨cs.toList, by simp⟩
  have hl' : L.length = 5 := by rw [c28] at hsz; simpa using hsz
  simp only [Value.cells] at hf
  match L, hl' with
  | [u0, u1, u2, u3, u4], _ =>
    obtain ⟨th, ⟨A0, c0, e0, l0, k0⟩, g0, g0'⟩ := field_opens (t := 28) 0 _ rfl o22 Try.underlying28 hlen hf hw (u := [u0]) (by simp [c22])
    obtain ⟨rg, ⟨A1, c1, e1, l1, k1⟩, g1, g1'⟩ := field_opens (t := 28) 1 _ rfl o23 Try.underlying28 hlen hf hw (u := [u1]) (by simp [c23])
    obtain ⟨lo, ⟨A2, c2, e2, l2, k2⟩, g2, g2'⟩ := field_opens (t := 28) 2 _ rfl o24 Try.underlying28 hlen hf hw (u := [u2]) (by simp [c24])
    obtain ⟨r0, ⟨A3, c3, e3, l3, k3⟩, g3, g3'⟩ := field_opens (t := 28) 3 _ rfl o25 Try.underlying28 hlen hf hw (u := [u3]) (by simp [c25])
    obtain ⟨m0, ⟨A4, c4, e4, l4, k4⟩, g4, _⟩ := field_opens (t := 28) 4 _ rfl o26 Try.underlying28 hlen hf hw (u := [u4]) (by simp [c26])
    injection e0 with e0 _
    injection e1 with e1 _
    injection e2 with e2 _
    injection e3 with e3 _
    injection e4 with e4 _
    subst e0 e1 e2 e3 e4
    rw [b85] at g0
    rw [b24] at g1
    rw [b9] at g2
    rw [b26] at g3
    rw [b2] at g4
    have q0 : ∀ x ∈ th, x.length ≤ 3518437208880 := fun x hx => by
      have := (g0' x hx).1
      rw [b87] at this
      omega
    have q1 : ∀ x ∈ rg, x.length ≤ 8796093022000 := fun x hx => by
      have := (g1' x hx).1
      rw [b9] at this
      omega
    have q3 : ∀ x ∈ r0, x.length < 17592186044416 := fun x hx => by
      have := (g3' x hx).1
      rw [b2] at this
      omega
    refine ⟨A0, A1, A2, A3, A4, c0, c1, c2, c3, c4, th, rg, lo, r0, m0, rfl, k0, l0, k1, l1, k2, l2, k3, l3, k4, l4, by omega, by omega, by omega, fun x hx => ?_, fun x hx => ?_, fun s hs => ?_, ⟨show th.length < _ by omega, fun x hx => Nat.lt_of_le_of_lt (q0 x hx) (by omega), show rg.length < _ by omega, fun x hx => Nat.lt_of_le_of_lt (q1 x hx) (by omega), show lo.length < _ by omega, show r0.length < _ by omega, q3, show m0.length < _ by omega⟩⟩
    · have := (g0' x hx).1
      rw [b87] at this
      omega
    · have := (g1' x hx).1
      rw [b9] at this
      omega
    · have := g2' s hs
      omega
set_option maxRecDepth 100000 in
theorem opens_stateF {H : Type} {enc : TypeId × Value → H} {W : World} {r : Reach} {b0 base : Nat} {spare : Nat → Bool} {held : Bool} {v : Value} {d : DataW H} {ps : List MemPlace} (hv : Value.okWide Try.prog W r b0 42 v)
    (h : DataW.Trod enc Try.prog W base spare held 42 v d ps) (hw : (d.weights Try.prog 42).all (· ≤ reachBytes) = true) :
    ∃ (A0 A1 A2 A3 A4 : Option Addr) (c0 c1 c2 c3 c4 : Nat) (p q : List Int) (rg : List (List Int)) (me : List Int) (bf : List (List S59)) (lk : Int),
      v = .agg #[.slice A0 p.length c0, .slice A1 q.length c1, .slice A2 rg.length c2, .slice A3 me.length c3, .slice A4 bf.length c4, .int .i64 lk] ∧
      Kd.C (Kd.int .i64) W A0 p.length p ∧ p.length ≤ c0 ∧ Kd.C (Kd.int .i64) W A1 q.length q ∧ q.length ≤ c1 ∧ Kd.C (Kd.slice 2 (Kd.int .i64)) W A2 rg.length rg ∧ rg.length ≤ c2 ∧
      Kd.C (Kd.int .i64) W A3 me.length me ∧ me.length ≤ c3 ∧ Kd.C (Kd.slice 59 k59) W A4 bf.length bf ∧ bf.length ≤ c4 ∧ Nums (p, q, rg, me, bf, lk) ∧ StFit (p, q, rg, me, bf, lk) := by
  obtain ⟨cs, rfl, hsz⟩ := okWide_struct Try.underlying42 hv
  obtain ⟨fuel, h⟩ := h
  obtain ⟨xs, n, _, hx, hl, hlen, hf⟩ := DataW.trod_struct Try.underlying42 h
  injection hx with hx _
  subst hx
  have c42 : Try.prog.cellsOf 42 = 6 := by kernel_rfl
  have c29 : Try.prog.cellsOf 29 = 1 := by kernel_rfl
  have c25 : Try.prog.cellsOf 25 = 1 := by kernel_rfl
  have c26 : Try.prog.cellsOf 26 = 1 := by kernel_rfl
  have c40 : Try.prog.cellsOf 40 = 1 := by kernel_rfl
  have c3 : Try.prog.cellsOf 3 = 1 := by kernel_rfl
  have hR : reachBytes = 140737488351232 := by decide
  have b3 : Try.prog.bytesOf 3 = 8 := by kernel_rfl
  have b2 : Try.prog.bytesOf 2 = 8 := by kernel_rfl
  have b26 : Try.prog.bytesOf 26 = 24 := by kernel_rfl
  have b57 : Try.prog.bytesOf 57 = 24 := by kernel_rfl
  have b59 : Try.prog.bytesOf 59 = 16 := by kernel_rfl
  have o3 := opens_int (k := .i64) Try.underlying3
  have o2 := opens_int (k := .i64) Try.underlying2
  have o29 := opens_slice (d := Kd.int .i64) Try.underlying29 (by kernel_rfl) o3
  have o26 := opens_slice (d := Kd.int .i64) Try.underlying26 (by kernel_rfl) o2
  have o25 := opens_slice (d := Kd.slice 2 (Kd.int .i64)) Try.underlying25 (by kernel_rfl) o26
  have o57 := opens_slice (d := k59) Try.underlying57 (by kernel_rfl) opens_k59
  have o40 := opens_slice (d := Kd.slice 59 k59) Try.underlying40 (by kernel_rfl) o57
  obtain ⟨L, rfl⟩ : ∃ L : List Value, cs = L.toArray := ⟨cs.toList, by simp⟩
  have hl' : L.length = 6 := by rw [c42] at hsz; simpa using hsz
  simp only [Value.cells] at hf
  match L, hl' with
  | [u0, u1, u2, u3, u4, u5], _ =>
    obtain ⟨p, ⟨A0, c0, e0, l0, k0⟩, y0, g0⟩ := field_opens (t := 42) 0 _ rfl o29 Try.underlying42 hlen hf hw (u := [u0]) (by simp [c29])
    obtain ⟨q, ⟨A1, c1, e1, l1, k1⟩, y1, g1⟩ := field_opens (t := 42) 1 _ rfl o29 Try.underlying42 hlen hf hw (u := [u1]) (by simp [c29])
    obtain ⟨rg, ⟨A2, c2, e2, l2, k2⟩, y2, g2⟩ := field_opens (t := 42) 2 _ rfl o25 Try.underlying42 hlen hf hw (u := [u2]) (by simp [c25])
    obtain ⟨me, ⟨A3, c3', e3, l3, k3⟩, y3, g3⟩ := field_opens (t := 42) 3 _ rfl o26 Try.underlying42 hlen hf hw (u := [u3]) (by simp [c26])
    obtain ⟨bf, ⟨A4, c4, e4, l4, k4⟩, y4, g4⟩ := field_opens (t := 42) 4 _ rfl o40 Try.underlying42 hlen hf hw (u := [u4]) (by simp [c40])
    obtain ⟨lk, e5, _⟩ := field_opens (t := 42) 5 _ rfl o3 Try.underlying42 hlen hf hw (u := [u5]) (by simp [c3])
    have e5' : [u5] = [Value.int .i64 lk] := e5
    injection e0 with e0 _
    injection e1 with e1 _
    injection e2 with e2 _
    injection e3 with e3 _
    injection e4 with e4 _
    injection e5' with e5' _
    subst e0 e1 e2 e3 e4 e5'
    rw [b3] at y0 y1
    rw [b26] at y2
    rw [b2] at y3
    rw [b57] at y4
    have z2 : ∀ x ∈ rg, x.length < 17592186044416 := fun x hx => by
      have := (g2 x hx).1
      rw [b2] at this
      omega
    have z4 : ∀ x ∈ bf, x.length < 8796093022208 := fun x hx => by
      have := (g4 x hx).1
      rw [b59] at this
      omega
    exact ⟨A0, A1, A2, A3, A4, c0, c1, c2, c3', c4, p, q, rg, me, bf, lk, rfl, k0, l0, k1, l1, k2, l2, k3, l3, k4, l4, ⟨fun x hx => i64_wf (g0 x hx), fun x hx => i64_wf (g1 x hx), fun r hr x hx => i64_wf ((g2 r hr).2 x hx), fun x hx => i64_wf (g3 x hx), fun r hr x hx => (g4 r hr).2 x hx⟩, ⟨show p.length < _ by omega, show q.length < _ by omega, show rg.length < _ by omega, z2, show me.length < _ by omega, show bf.length < _ by omega, z4⟩⟩
end Go.Proofs.Ytemhpbdlonfikaa.P
/- The document's Valid, by the same definition. -/
namespace Go.Proofs.Ytemhpbdlonfikaa.P
open Go Go.RowKit Go.Proofs.YtemhpbdlonfikaaW.PrintWords Go.Proofs.YtemhpbdlonfikaaW.PrintLast Go.Proofs.YtemhpbdlonfikaaW.PrintMore

theorem regf (s : ByteArray) : weirref09_Register.f s = some (among s 16) := rfl
/-- The registers' code. -/
def rszM (p : Pg) (i d : Nat) : Int := if allR (smallR p) i d then 0 else 98
def rrgM (p : Pg) (i d : Nat) : Int := if allR (regOK p) i d then rszM p 0 p.th.length else 92
theorem rsz_ref {p : Pg} (h : VSz p) (hg : p.rg.length = p.th.length) : ∀ (d i : Nat), i + d = p.th.length → Ev (fun k => weirref09_registers.l2 k p.th.length i p.th p.rg p.lo p.r0 p.m0) (rszM p i d) := by
  intro d
  induction d with
  | zero =>
    intro i hi
    refine Ev.step (f := fun _ => some 0) (fun k => ?_) (Ev.now _)
    simp only [weirref09_registers.l2]
    rw [if_neg (by omega)]
  | succ d ih =>
    intro i hi
    have hw := wrap_nat (k := i) (n := p.th.length) (by omega) h.z.th
    have hE : rszM p i (d + 1) = if smallR p i = true then rszM p (i + 1) d else 98 := by unfold rszM; rw [allR_succ, ite_and]
    rw [hE]
    unfold smallR
    by_cases hc : (rd_L4 p.rg i).length ≤ 8
    · rw [if_pos (decide_eq_true hc)]
      refine Ev.step (fun k => ?_) (ih (i + 1) (by omega))
      simp only [weirref09_registers.l2]
      rw [if_pos (by omega), if_pos (by omega), if_pos (by omega), if_neg (by omega), hw]
    · rw [if_neg (by simpa using hc)]
      refine Ev.step (f := fun _ => some 98) (fun k => ?_) (Ev.now _)
      simp only [weirref09_registers.l2]
      rw [if_pos (by omega), if_pos (by omega), if_pos (by omega), if_pos (by omega)]
theorem rrg_step {p : Pg} {i j e : Nat} {X : Int} (_h : VSz p) (hg : p.rg.length = p.th.length) (hi : i < p.th.length) (hj : j + (e + 1) = (rd_L4 p.rg i).length) (hwj : wrap64 ((j : Int) + 1) = ((j + 1 : Nat) : Int))
    (hI : Ev (fun k => weirref09_registers.l1 k p.th.length i ((j + 1 : Nat) : Int) p.th p.rg p.lo p.r0 p.m0) (if regsB (rd_L4 p.rg i) (j + 1) e = true then X else 92)) :
    Ev (fun k => weirref09_registers.l1 k p.th.length i j p.th p.rg p.lo p.r0 p.m0) (if among (tx (rd_L4 p.rg i) j) 16 = true then (if regsB (rd_L4 p.rg i) (j + 1) e = true then X else 92) else 92) := by
  have hu : ∀ k, weirref09_registers.l1 (k + 1) p.th.length i j p.th p.rg p.lo p.r0 p.m0 = if among (tx (rd_L4 p.rg i) j) 16 = true then weirref09_registers.l1 k p.th.length i ((j + 1 : Nat) : Int) p.th p.rg p.lo p.r0 p.m0 else some 92 := fun k => by
    simp only [weirref09_registers.l1]
    rw [if_pos (by omega), if_pos (by omega), if_pos (by omega), if_pos (by omega), regf, Option.bind_some, hwj]
    rfl
  generalize among (tx (rd_L4 p.rg i) j) 16 = b at hu ⊢
  cases b with
  | true =>
    rw [if_pos rfl]
    exact Ev.step (fun k => by rw [hu k, if_pos rfl]) hI
  | false =>
    rw [if_neg (by decide)]
    exact Ev.step (f := fun _ => some 92) (fun k => by rw [hu k, if_neg (by decide)]) (Ev.now _)
theorem rrg_ref {p : Pg} (h : VSz p) (hg : p.rg.length = p.th.length) (hr : p.r0.length = p.th.length) : ∀ (d i : Nat), i + d = p.th.length → Ev (fun k => weirref09_registers.l0 k p.th.length i p.th p.rg p.lo p.r0 p.m0) (rrgM p i d) := by
  intro d
  induction d with
  | zero =>
    intro i hi
    refine Ev.step (fun k => ?_) (rsz_ref h hg p.th.length 0 (by omega))
    simp only [weirref09_registers.l0]
    rw [if_neg (by omega)]; rfl
  | succ d ih =>
    intro i hi
    have hw := wrap_nat (k := i) (n := p.th.length) (by omega) h.z.th
    have hE : rrgM p i (d + 1) = if regOK p i = true then rrgM p (i + 1) d else 92 := by unfold rrgM; rw [allR_succ, ite_and]
    rw [hE]
    unfold regOK
    rw [ite_and, ite_and]
    have inner : ∀ (e j : Nat), j + e = (rd_L4 p.rg i).length → Ev (fun k => weirref09_registers.l1 k p.th.length i j p.th p.rg p.lo p.r0 p.m0) (if regsB (rd_L4 p.rg i) j e = true then rrgM p (i + 1) d else 92) := by
      intro e
      induction e with
      | zero =>
        intro j hj
        refine Ev.step (fun k => ?_) (ih (i + 1) (by omega))
        simp only [weirref09_registers.l1]
        rw [if_pos (by omega), if_pos (by omega), if_neg (by omega), hw]
      | succ e ihe =>
        intro j hj
        have hwj := wrap_nat (k := j) (n := (rd_L4 p.rg i).length) (by omega) (h.row i)
        rw [regsB_succ, ite_and]
        exact rrg_step h hg (by omega) hj hwj (ihe (j + 1) (by omega))
    have j2 : ∀ b : Bool, Ev (fun k => weirref09_registers.j2 k p.th.length i (!b) p.th p.rg p.lo p.r0 p.m0) (if b = true then (if regsB (rd_L4 p.rg i) 0 (rd_L4 p.rg i).length = true then rrgM p (i + 1) d else 92) else 92) := by
      intro b
      cases b with
      | true =>
        rw [if_pos rfl]
        refine Ev.step (fun k => ?_) (inner (rd_L4 p.rg i).length 0 (by omega))
        simp only [weirref09_registers.j2]
        rw [if_neg (by simp)]; rfl
      | false =>
        refine Ev.step (f := fun _ => some 92) (fun k => ?_) (Ev.now _)
        simp only [weirref09_registers.j2]
        rw [if_pos (by simp)]
    by_cases hc : (rd_L5 p.r0 i).length = (rd_L4 p.rg i).length
    · rw [if_pos (by simp [hc])]
      refine Ev.step (f := fun k => (weirref09_rises.f k (rd_L4 p.rg i)).bind fun t => weirref09_registers.j2 k p.th.length i (!t) p.th p.rg p.lo p.r0 p.m0) (fun k => ?_) (Ev.bind (rises_ref _ (h.row i)) (j2 _))
      simp only [weirref09_registers.l0]
      rw [if_pos (by omega), if_pos (by omega), if_pos (by omega), if_pos (by omega), if_pos (by omega)]
    · rw [if_neg (by simp [hc])]
      refine Ev.step (fun k => ?_) (j2 false)
      simp only [weirref09_registers.l0]
      rw [if_pos (by omega), if_pos (by omega), if_pos (by omega), if_pos (by omega), if_neg (by omega)]; rfl
def regsM (p : Pg) : Int := if p.rg.length = p.th.length ∧ p.r0.length = p.th.length then rrgM p 0 p.th.length else 92
theorem regs_ref {p : Pg} (h : VSz p) : Ev (fun k => weirref09_registers.f k p.th p.rg p.lo p.r0 p.m0) (regsM p) := by
  have j0t : Ev (fun k => weirref09_registers.j0 k p.th.length true p.th p.rg p.lo p.r0 p.m0) 92 := by
    refine Ev.step (f := fun _ => some 92) (fun k => ?_) (Ev.now _)
    simp only [weirref09_registers.j0]; rfl
  unfold regsM
  by_cases hg : p.rg.length = p.th.length
  · by_cases hr : p.r0.length = p.th.length
    · rw [if_pos ⟨hg, hr⟩]
      refine Ev.congr (f := fun k => weirref09_registers.j0 k p.th.length false p.th p.rg p.lo p.r0 p.m0) (fun k => ?_) (Ev.step (fun k => ?_) (rrg_ref h hg hr p.th.length 0 (by omega)))
      · simp only [weirref09_registers.f]
        rw [if_pos (by omega), show ((p.r0.length : Int) != (p.th.length : Int)) = false by simp [hr]]
      · simp only [weirref09_registers.j0]
        rw [if_neg (by simp)]; rfl
    · rw [if_neg (fun h => hr h.2)]
      refine Ev.congr (fun k => ?_) j0t
      simp only [weirref09_registers.f]
      rw [if_pos (by omega), show ((p.r0.length : Int) != (p.th.length : Int)) = true by simp; omega]
  · rw [if_neg (fun h => hg h.1)]
    refine Ev.congr (fun k => ?_) j0t
    simp only [weirref09_registers.f]
    rw [if_neg (by omega)]
theorem thr_ref {p : Pg} (h : VSz p) (hg : p.rg.length = p.th.length) (hrs : ∀ i : Nat, i < p.th.length → risesB (rd_L4 p.rg i) 1 ((rd_L4 p.rg i).length - 1) = true) :
    ∀ (d i : Nat), i + d = p.th.length → Ev (fun k => weirref09_Valid.l1 k i p.th p.rg p.lo p.r0 p.m0) (thrM p i d) := by
  intro d
  induction d with
  | zero =>
    intro i hi
    have hE : thrM p i 0 = if evM p.lo.length p.th > 64 then 96 else 0 := rfl
    rw [hE]
    refine Ev.step (f := fun k => (weirref09_Events.f k p.th p.rg p.lo p.r0 p.m0).bind fun t => if t > 64 then some 96 else some 0) (fun k => ?_) (Ev.bind (events_ref p h.z) ?_)
    · simp only [weirref09_Valid.l1]
      rw [if_neg (by omega)]
    · refine Ev.congr (f := fun _ => some (if evM p.lo.length p.th > 64 then 96 else 0)) (fun k => ?_) (Ev.now _)
      split <;> rfl
  | succ d ih =>
    intro i hi
    have hw := wrap_nat (k := i) (n := p.th.length) (by omega) h.z.th
    have inner : ∀ (e j : Nat), j + e = (rd_L3 p.th i).length → Ev (fun k => weirref09_Valid.l2 k i j p.th p.rg p.lo p.r0 p.m0) (if allR (fitRow p i) j e then thrM p (i + 1) d else 93) := by
      intro e
      induction e with
      | zero =>
        intro j hj
        refine Ev.step (fun k => ?_) (ih (i + 1) (by omega))
        simp only [weirref09_Valid.l2]
        rw [if_pos (by omega), if_pos (by omega), if_neg (by omega), hw]
      | succ e ihe =>
        intro j hj
        have hwj := wrap_nat (k := j) (n := (rd_L3 p.th i).length) (by omega) (h.z.op i)
        rw [allR_succ, ite_and]
        refine Ev.step (f := fun k => (weirref09_right.f k (rd_T87 (rd_L3 p.th i) j).f0 (rd_T87 (rd_L3 p.th i) j).f1 (rd_T87 (rd_L3 p.th i) j).f2 (rd_T87 (rd_L3 p.th i) j).f3 (rd_T87 (rd_L3 p.th i) j).f4 (rd_L4 p.rg i) p.lo.length).bind fun t => if t = true then weirref09_Valid.l2 k i ((j + 1 : Nat) : Int) p.th p.rg p.lo p.r0 p.m0 else some 93) (fun k => ?_) (Ev.bind (right_is _ _ _ (h.row i) (hrs i (by omega))) ?_)
        · simp only [weirref09_Valid.l2]
          rw [if_pos (by omega), if_pos (by omega), if_pos (by omega), if_pos (by omega), if_pos (by omega), hwj]
        · show Ev _ (if fitB (rd_T87 (rd_L3 p.th i) j) (rd_L4 p.rg i) p.lo.length = true then _ else _)
          cases fitB (rd_T87 (rd_L3 p.th i) j) (rd_L4 p.rg i) p.lo.length with
          | true => exact Ev.congr (fun k => if_pos rfl) (ihe (j + 1) (by omega))
          | false => exact Ev.congr (fun k => if_neg (by decide)) (Ev.now _)
    have hE : thrM p i (d + 1) = if allR (fitRow p i) 0 (rd_L3 p.th i).length then thrM p (i + 1) d else 93 := by
      unfold thrM; rw [allR_succ, ite_and]; rfl
    rw [hE]
    refine Ev.step (fun k => ?_) (inner (rd_L3 p.th i).length 0 (by omega))
    simp only [weirref09_Valid.l1]
    rw [if_pos (by omega)]; rfl
theorem late_ref {p : Pg} (h : VSz p) (hg : p.rg.length = p.th.length) (hrs : ∀ i : Nat, i < p.th.length → risesB (rd_L4 p.rg i) 1 ((rd_L4 p.rg i).length - 1) = true) :
    Ev (fun k => if (p.m0.length : Int) = (p.lo.length : Int) then (weirref09_rises.f k p.lo).bind fun t => weirref09_Valid.j1 k (!t) p.th p.rg p.lo p.r0 p.m0 else weirref09_Valid.j1 k true p.th p.rg p.lo p.r0 p.m0) (lateM p) := by
  have names : ∀ (d i : Nat), i + d = p.lo.length → Ev (fun k => weirref09_Valid.l0 k i p.th p.rg p.lo p.r0 p.m0) (if allR (fun i => nameB (tx p.lo i)) i d = true then locM p else 52) := by
    intro d
    induction d with
    | zero =>
      intro i hi
      rw [show allR (fun i => nameB (tx p.lo i)) i 0 = true from rfl, if_pos rfl]
      unfold locM
      by_cases hc : 16 < p.lo.length
      · rw [if_pos hc]
        refine Ev.step (f := fun _ => some 97) (fun k => ?_) (Ev.now _)
        simp only [weirref09_Valid.l0]
        rw [if_neg (by omega), if_pos (by omega)]
      · rw [if_neg hc]
        refine Ev.step (fun k => ?_) (thr_ref h hg hrs p.th.length 0 (by omega))
        simp only [weirref09_Valid.l0]
        rw [if_neg (by omega), if_neg (by omega)]; rfl
    | succ d ih =>
      intro i hi
      have hw := wrap_nat (k := i) (n := p.lo.length) (by omega) h.lo
      rw [allR_succ, ite_and]
      refine Ev.step (f := fun k => (weirref05_Name.f k (tx p.lo i)).bind fun t => if t = true then weirref09_Valid.l0 k ((i + 1 : Nat) : Int) p.th p.rg p.lo p.r0 p.m0 else some 52) (fun k => ?_) (Ev.bind (nameB_is _ (h.tx i)).2 ?_)
      · simp only [weirref09_Valid.l0]
        rw [if_pos (by omega), if_pos (by omega), hw]; rfl
      · cases nameB (tx p.lo i) with
        | true => exact Ev.congr (fun k => if_pos rfl) (ih (i + 1) (by omega))
        | false => exact Ev.congr (fun k => if_neg (by decide)) (Ev.now _)
  have j1 : ∀ b : Bool, Ev (fun k => weirref09_Valid.j1 k (!b) p.th p.rg p.lo p.r0 p.m0) (if b = true then (if allR (fun i => nameB (tx p.lo i)) 0 p.lo.length = true then locM p else 52) else 52) := by
    intro b
    cases b with
    | true =>
      rw [if_pos rfl]
      refine Ev.step (fun k => ?_) (names p.lo.length 0 (by omega))
      simp only [weirref09_Valid.j1]
      rw [if_neg (by simp)]; rfl
    | false =>
      refine Ev.step (f := fun _ => some 52) (fun k => ?_) (Ev.now _)
      simp only [weirref09_Valid.j1]
      rw [if_pos (by simp)]
  unfold lateM namM
  rw [ite_and, ite_and]
  by_cases hm : p.m0.length = p.lo.length
  · rw [if_pos (by simp [hm])]
    refine Ev.congr (fun k => if_pos (by omega)) (Ev.bind (rises_ref p.lo h.lo) (j1 _))
  · rw [if_neg (by simp [hm])]
    exact Ev.congr (fun k => if_neg (by omega)) (j1 false)
theorem valid_ref {p : Pg} (h : VSz p) : Ev (fun k => weirref09_Valid.f k p.th p.rg p.lo p.r0 p.m0) (validM p) := by
  have jt : Ev (fun k => weirref09_Valid.j0 k true p.th p.rg p.lo p.r0 p.m0) 95 := by
    refine Ev.step (f := fun _ => some 95) (fun k => ?_) (Ev.now _)
    simp only [weirref09_Valid.j0]; rfl
  have jf : Ev (fun k => weirref09_Valid.j0 k false p.th p.rg p.lo p.r0 p.m0) (if p.rg.length = p.th.length ∧ p.r0.length = p.th.length then regM p 0 p.th.length else 92) := by
    have hbody : ∀ r : Int, regsM p = r → Ev (fun k => if r = 0 then (if (p.m0.length : Int) = (p.lo.length : Int) then (weirref09_rises.f k p.lo).bind fun t => weirref09_Valid.j1 k (!t) p.th p.rg p.lo p.r0 p.m0 else weirref09_Valid.j1 k true p.th p.rg p.lo p.r0 p.m0) else some r) (if p.rg.length = p.th.length ∧ p.r0.length = p.th.length then regM p 0 p.th.length else 92) := by
      intro r hr
      unfold regsM at hr
      split at hr
      · rename_i hl
        rw [if_pos hl]
        unfold rrgM at hr
        unfold regM
        split at hr
        · rename_i hreg
          rw [if_pos hreg]
          unfold rszM at hr
          unfold sizeM
          split at hr
          · rename_i hsm
            rw [if_pos hsm]
            subst hr
            refine Ev.congr (fun k => if_pos rfl) (late_ref h hl.1 (fun i hi => ?_))
            have h4 := allR_at hreg (q := i) (by omega) (by omega)
            unfold regOK at h4
            rw [Bool.and_eq_true, Bool.and_eq_true] at h4
            exact h4.2.1
          · rename_i hsm
            rw [if_neg hsm]
            subst hr
            exact Ev.congr (fun k => if_neg (by decide)) (Ev.now _)
        · rename_i hreg
          rw [if_neg hreg]
          subst hr
          exact Ev.congr (fun k => if_neg (by decide)) (Ev.now _)
      · rename_i hl
        rw [if_neg hl]
        subst hr
        exact Ev.congr (fun k => if_neg (by decide)) (Ev.now _)
    refine Ev.step (f := fun k => (weirref09_registers.f k p.th p.rg p.lo p.r0 p.m0).bind fun r => if r = 0 then (if (p.m0.length : Int) = (p.lo.length : Int) then (weirref09_rises.f k p.lo).bind fun t => weirref09_Valid.j1 k (!t) p.th p.rg p.lo p.r0 p.m0 else weirref09_Valid.j1 k true p.th p.rg p.lo p.r0 p.m0) else some r) (fun k => ?_) (Ev.bind (regs_ref h) (hbody _ rfl))
    simp only [weirref09_Valid.j0]
    rw [if_neg (by simp)]
  unfold validM
  by_cases h0 : p.th.length = 0
  · rw [if_pos (.inl h0)]
    refine Ev.congr (fun k => ?_) jt
    simp only [weirref09_Valid.f]
    rw [if_pos (by omega)]
  · by_cases h4 : 4 < p.th.length
    · rw [if_pos (.inr h4)]
      refine Ev.congr (fun k => ?_) jt
      simp only [weirref09_Valid.f]
      rw [if_neg (by omega), decide_eq_true (by omega)]
    · rw [if_neg (by omega)]
      refine Ev.congr (fun k => ?_) jf
      simp only [weirref09_Valid.f]
      rw [if_neg (by omega), decide_eq_false (by omega)]
end Go.Proofs.Ytemhpbdlonfikaa.P
