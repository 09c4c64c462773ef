/- What the document's Picks, Done, Atomic and Local and the program's over answer. -/
import Derived.Test.YtemhpbdlonfikaaPua
namespace Go.Proofs.Ytemhpbdlonfikaa.P
open Go Go.RowKit Go.Proofs.YtemhpbdlonfikaaW.PrintWords Go.Proofs.YtemhpbdlonfikaaW.PrintLast Go.Proofs.YtemhpbdlonfikaaW.PrintMore

/-- A state of the machine of sequential consistency. -/
structure PlainSt (s : St) : Prop where
  lk : s.lk = -1
  q : ∀ i : Int, rd s.q i = 0
  e : ∀ b ∈ s.bf, b = []
theorem plain_is {s : St} (h : PlainSt s) (hp : s.p.length ≤ 4) (hq : s.q.length = s.p.length) (hb : s.bf.length = s.p.length) : Ev (fun k => weirref11_Plain.f k s.p s.q s.rg s.me s.bf s.lk) true := by
  have key : ∀ (d i : Nat), i + d = s.p.length → Ev (fun k => weirref11_Plain.l0 k i s.p s.q s.rg s.me s.bf s.lk) true := by
    intro d
    induction d with
    | zero =>
      intro i hi
      refine Ev.step (f := fun _ => some true) (fun k => ?_) (Ev.now _)
      simp only [weirref11_Plain.l0]
      rw [if_neg (by omega)]
    | succ d ih =>
      intro i hi
      have hw := wrap_nat (k := i) (n := s.p.length) (by omega) (by omega)
      refine Ev.step (fun k => ?_) (ih (i + 1) (by omega))
      simp only [weirref11_Plain.l0]
      rw [if_pos (by omega), if_pos (by omega), if_pos (by omega), if_pos (h.q _), if_pos (by omega), rd7_nil h.e, if_neg (by simp), hw]
  refine Ev.congr (fun k => ?_) (key s.p.length 0 (by omega))
  simp only [weirref11_Plain.f]
  rw [if_pos h.lk]; rfl
/-- The first threads that have an instruction left. -/
def picksL (p : Pg) (s : St) (n : Nat) : List S70 := ((List.range n).filter fun (j : Nat) => decide (rd s.p (j : Int) < ((rd_L3 p.th (j : Int)).length : Int))).map fun (j : Nat) => (⟨j, 1, 0⟩ : S70)
theorem picksL_length (p : Pg) (s : St) (n : Nat) : (picksL p s n).length ≤ n := by
  unfold picksL
  rw [List.length_map]
  exact Nat.le_trans (List.length_filter_le _ _) (by rw [List.length_range]; exact Nat.le_refl _)
theorem picksL_succ (p : Pg) (s : St) (n : Nat) : picksL p s (n + 1) = if rd s.p (n : Int) < ((rd_L3 p.th (n : Int)).length : Int) then picksL p s n ++ [⟨n, 1, 0⟩] else picksL p s n := by
  unfold picksL
  rw [List.range_succ, List.filter_append, List.map_append]
  by_cases h : rd s.p (n : Int) < ((rd_L3 p.th (n : Int)).length : Int)
  · rw [if_pos h]; simp [h]
  · rw [if_neg h]; simp [h]
theorem picks_is {p : Pg} {s : St} (h : PlainSt s) (hS : StOK p s) (hn : p.th.length ≤ 4) : Ev (fun k => weirref11_Picks.f k p.th p.rg p.lo p.r0 p.m0 s.p s.q s.rg s.me s.bf s.lk) (picksL p s p.th.length) := by
  have hl := hS.lp
  have key : ∀ (d i : Nat), i + d = p.th.length → Ev (fun k => weirref11_Picks.l0 k (picksL p s i) i p.th p.rg p.lo p.r0 p.m0 s.p s.q s.rg s.me s.bf s.lk) (picksL p s p.th.length) := by
    intro d
    induction d with
    | zero =>
      intro i hi
      obtain rfl : i = p.th.length := by omega
      refine Ev.step (f := fun _ => some (picksL p s p.th.length)) (fun k => ?_) (Ev.now _)
      simp only [weirref11_Picks.l0]
      rw [if_neg (by omega)]
    | succ d ih =>
      intro i hi
      have hw := wrap_nat (k := i) (n := p.th.length) (by omega) (by omega)
      have hI := ih (i + 1) (by omega)
      rw [picksL_succ] at hI
      have hle := picksL_length p s i
      by_cases hc : rd s.p (i : Int) < ((rd_L3 p.th (i : Int)).length : Int)
      · rw [if_pos hc] at hI
        refine Ev.step (fun k => ?_) hI
        simp only [weirref11_Picks.l0]
        rw [if_pos (by omega), if_pos (by omega), if_pos (by omega), if_pos hc, if_pos (by omega), hw]
      · rw [if_neg hc] at hI
        refine Ev.step (fun k => ?_) hI
        simp only [weirref11_Picks.l0]
        rw [if_pos (by omega), if_pos (by omega), if_pos (by omega), if_neg hc, hw]
  have h1 := Ev.bind (f := fun k t332 => if t332 = true then weirref11_Picks.l0 k ([] : List S70) 0 p.th p.rg p.lo p.r0 p.m0 s.p s.q s.rg s.me s.bf s.lk else some ([] : List S70)) (r := picksL p s p.th.length) (plain_is h (by rw [hl]; exact hn) (hS.lq.trans hl.symm) (hS.lb.trans hl.symm)) (Ev.congr (fun k => if_pos rfl) (key p.th.length 0 (by omega)))
  exact Ev.congr (fun k => by simp only [weirref11_Picks.f]) h1
theorem picksL_mem {p : Pg} {s : St} {n : Nat} {i : Int} : (⟨i, 1, 0⟩ : S70) ∈ picksL p s n ↔ 0 ≤ i ∧ i < n ∧ rd s.p i < ((rd_L3 p.th i).length : Int) := by
  unfold picksL
  rw [List.mem_map]
  constructor
  · rintro ⟨j, hj, e⟩
    rw [List.mem_filter, List.mem_range] at hj
    injection e with e
    subst e
    exact ⟨by omega, by omega, of_decide_eq_true hj.2⟩
  · rintro ⟨h0, h1, h2⟩
    refine ⟨i.toNat, List.mem_filter.2 ⟨List.mem_range.2 (by omega), decide_eq_true ?_⟩, ?_⟩
    · rw [Int.toNat_of_nonneg h0]; exact h2
    · rw [Int.toNat_of_nonneg h0]

/-- Are all threads at their ends? -/
def overB (p : Pg) (s : St) (n d : Nat) : Bool := (List.range d).all fun (j : Nat) => decide (rd s.p ((n + j : Nat) : Int) = ((rd_L3 p.th ((n + j : Nat) : Int)).length : Int))
theorem overB_succ (p : Pg) (s : St) (n d : Nat) : overB p s n (d + 1) = (decide (rd s.p (n : Int) = ((rd_L3 p.th (n : Int)).length : Int)) && overB p s (n + 1) d) := by
  unfold overB
  rw [List.range_succ_eq_map, List.all_cons, List.all_map]
  congr 2
  funext j
  show decide (rd s.p ((n + (j + 1) : Nat) : Int) = _) = decide (rd s.p ((n + 1 + j : Nat) : Int) = _)
  rw [show n + (j + 1) = n + 1 + j by omega]
theorem over_is {p : Pg} {s : St} (hS : StOK p s) (hn : p.th.length ≤ 4) : Ev (fun k => sc_over.f k p.th p.rg p.lo p.r0 p.m0 s.p s.q s.rg s.me s.bf s.lk) (overB p s 0 p.th.length) := by
  have hl := hS.lp
  have key : ∀ (d i : Nat), i + d = p.th.length → Ev (fun k => sc_over.l0 k p.th p.th.length i s.p s.q s.rg s.me s.bf s.lk) (overB p s i d) := by
    intro d
    induction d with
    | zero =>
      intro i hi
      refine Ev.step (f := fun _ => some true) (fun k => ?_) (Ev.now _)
      simp only [sc_over.l0]
      rw [if_neg (by omega)]
    | succ d ih =>
      intro i hi
      have hw := wrap_nat (k := i) (n := p.th.length) (by omega) (by omega)
      have hI := ih (i + 1) (by omega)
      have hpc := hS.pc i (by omega) (by omega)
      rw [overB_succ]
      by_cases hc : rd s.p (i : Int) < ((rd_L3 p.th (i : Int)).length : Int)
      · rw [decide_eq_false (by omega), Bool.false_and]
        refine Ev.step (f := fun _ => some false) (fun k => ?_) (Ev.now _)
        simp only [sc_over.l0]
        rw [if_pos (by omega), if_pos (by omega), if_pos (by omega), if_pos (by omega), if_pos hc]
      · rw [decide_eq_true (by omega), Bool.true_and]
        refine Ev.step (fun k => ?_) hI
        simp only [sc_over.l0]
        rw [if_pos (by omega), if_pos (by omega), if_pos (by omega), if_pos (by omega), if_neg hc, hw]
  exact Ev.congr (fun k => by simp only [sc_over.f]; rfl) (key p.th.length 0 (by omega))
theorem done_is {p : Pg} {s : St} (hS : StOK p s) (hn : p.th.length ≤ 4) : Ev (fun k => weirref11_Done.f k p.th p.rg p.lo p.r0 p.m0 s.p s.q s.rg s.me s.bf s.lk) (overB p s 0 p.th.length) := by
  have hl := hS.lp
  have key : ∀ (d i : Nat), i + d = p.th.length → Ev (fun k => weirref11_Done.l0 k i p.th p.rg p.lo p.r0 p.m0 s.p s.q s.rg s.me s.bf s.lk) (overB p s i d) := by
    intro d
    induction d with
    | zero =>
      intro i hi
      refine Ev.step (f := fun _ => some true) (fun k => ?_) (Ev.now _)
      simp only [weirref11_Done.l0]
      rw [if_neg (by omega)]
    | succ d ih =>
      intro i hi
      have hw := wrap_nat (k := i) (n := p.th.length) (by omega) (by omega)
      have hI := ih (i + 1) (by omega)
      rw [overB_succ]
      by_cases hc : rd s.p (i : Int) = ((rd_L3 p.th (i : Int)).length : Int)
      · rw [decide_eq_true hc, Bool.true_and]
        refine Ev.step (fun k => ?_) hI
        simp only [weirref11_Done.l0]
        rw [if_pos (by omega), if_pos (by omega), if_pos (by omega), if_pos hc, hw]
      · rw [decide_eq_false hc, Bool.false_and]
        refine Ev.step (f := fun _ => some false) (fun k => ?_) (Ev.now _)
        simp only [weirref11_Done.l0]
        rw [if_pos (by omega), if_pos (by omega), if_pos (by omega), if_neg hc]
  exact Ev.congr (fun k => by simp only [weirref11_Done.f]; rfl) (key p.th.length 0 (by omega))

/-- Does an instruction ask a location? -/
def memB (a : Int) : Bool := decide (a = 3 ∨ a = 4 ∨ a = 5 ∨ a = 7 ∨ a = 8 ∨ a = 9)
theorem memory_is (a : Int) : Ev (fun k => weirref09_Memory.f k a) (memB a) := by
  refine ⟨1, fun k hk => ?_⟩
  obtain ⟨k, rfl⟩ : ∃ m, k = m + 1 := ⟨k - 1, by omega⟩
  unfold memB
  simp only [weirref09_Memory.f, weirref09_weight.f, weirref09_weight.j0]
  by_cases h3 : a = 3
  · subst h3; decide
  by_cases h4 : a = 4
  · subst h4; decide
  by_cases h5 : a = 5
  · subst h5; decide
  by_cases h6 : a = 6
  · subst h6; decide
  by_cases h7 : a = 7
  · subst h7; decide
  by_cases h8 : a = 8
  · subst h8; decide
  by_cases h9 : a = 9
  · subst h9; decide
  simp [h3, h4, h5, h6, h7, h8, h9]
theorem set_rd (l : List Int) (i : Int) (h0 : 0 ≤ i) (h1 : i < l.length) : l.set i.toNat (rd l i) = l := by
  apply List.ext_getElem?
  intro j
  rw [List.getElem?_set]
  split
  · rename_i h
    subst h
    rw [if_pos (by omega)]
    unfold rd
    rw [List.getD_eq_getElem?_getD, List.getElem?_eq_getElem (by omega)]; rfl
  · rfl
theorem atomic_is {o : S87} {r me : List Int} (h : OpOK o r.length me.length) (hm : memB o.f0 = true) :
    ∃ v b, weirref09_Atomic.f o.f0 o.f1 o.f2 o.f3 o.f4 r (rd me o.f3) = some (v, b, (doM o r me).1) ∧ (doM o r me).2 = me.set o.f3.toNat v := by
  obtain ⟨k0, k1, k2, k3, k4⟩ := o
  obtain ⟨hA, hB, hC⟩ := h
  unfold memB at hm
  have hm := of_decide_eq_true hm
  simp only at hA hB hC hm
  obtain ⟨c0, c1⟩ := hC (by omega)
  rcases hm with rfl | rfl | rfl | rfl | rfl | rfl
  · obtain ⟨a0, a1⟩ := hA (by omega)
    refine ⟨rd me k3, false, ?_, ?_⟩
    · simp [weirref09_Atomic.f, doM, a0, a1]
    · simp [doM, set_rd me k3 c0 c1]
  · exact ⟨k4, true, by simp [weirref09_Atomic.f, doM], by simp [doM]⟩
  · obtain ⟨b0, b1⟩ := hB (by omega)
    exact ⟨rd r k2, true, by simp [weirref09_Atomic.f, doM, b0, b1], by simp [doM]⟩
  · obtain ⟨a0, a1⟩ := hA (by omega)
    exact ⟨rd r k1, true, by simp [weirref09_Atomic.f, doM, a0, a1], by simp [doM]⟩
  · obtain ⟨a0, a1⟩ := hA (by omega)
    obtain ⟨b0, b1⟩ := hB (by omega)
    by_cases he : rd me k3 = rd r k1
    · exact ⟨rd r k2, true, by simp [weirref09_Atomic.f, doM, a0, a1, b0, b1, he], by simp [doM, he]⟩
    · refine ⟨rd me k3, false, by simp [weirref09_Atomic.f, doM, a0, a1, he], ?_⟩
      rw [set_rd me k3 c0 c1]; simp [doM, he]
  · obtain ⟨a0, a1⟩ := hA (by omega)
    exact ⟨wrap64 (rd me k3 + rd r k1), true, by simp [weirref09_Atomic.f, doM, a0, a1], by simp [doM]⟩
theorem local_is {o : S87} {r me : List Int} (h : OpOK o r.length me.length) (hm : memB o.f0 = false) :
    weirref09_Local.f o.f0 o.f1 o.f2 o.f3 o.f4 r = some (doM o r me).1 ∧ (doM o r me).2 = me := by
  obtain ⟨k0, k1, k2, k3, k4⟩ := o
  obtain ⟨hA, hB, hC⟩ := h
  unfold memB at hm
  have hm := of_decide_eq_false hm
  simp only at hA hB hC hm
  by_cases h1 : k0 = 1
  · obtain ⟨a0, a1⟩ := hA (by omega)
    subst h1
    exact ⟨by simp [weirref09_Local.f, doM, a0, a1], by simp [doM]⟩
  by_cases h2 : k0 = 2
  · obtain ⟨a0, a1⟩ := hA (by omega)
    obtain ⟨b0, b1⟩ := hB (by omega)
    subst h2
    exact ⟨by simp [weirref09_Local.f, doM, a0, a1, b0, b1], by simp [doM]⟩
  have e : doM ⟨k0, k1, k2, k3, k4⟩ r me = (r, me) := by
    unfold doM
    simp only
    rw [if_neg h1, if_neg h2, if_neg (by omega), if_neg (by omega), if_neg (by omega), if_neg (by omega), if_neg (by omega), if_neg (by omega)]
  rw [e]
  refine ⟨?_, rfl⟩
  unfold weirref09_Local.f
  rw [if_neg h1, if_neg h2]
end Go.Proofs.Ytemhpbdlonfikaa.P
