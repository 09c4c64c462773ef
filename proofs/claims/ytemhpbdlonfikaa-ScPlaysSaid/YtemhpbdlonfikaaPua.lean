/- What the printed functions of the machine's states answer, of small states. -/
import Derived.Test.YtemhpbdlonfikaaTurn
import Derived.Test.YtemhpbdlonfikaaP6
import Derived.Test.YtemhpbdlonfikaaP12
import Derived.Test.YtemhpbdlonfikaaP14
import Derived.Test.YtemhpbdlonfikaaP15
import Derived.Test.YtemhpbdlonfikaaP16
namespace Go.Proofs.Ytemhpbdlonfikaa.P
open Go Go.RowKit Go.Proofs.YtemhpbdlonfikaaW.PrintWords Go.Proofs.YtemhpbdlonfikaaW.PrintLast Go.Proofs.YtemhpbdlonfikaaW.PrintMore

theorem wrap_nat {k n : Nat} (h : k < n) (hn : n ≤ 9223372036854775807) : wrap64 ((k : Int) + 1) = ((k + 1 : Nat) : Int) := by unfold wrap64; omega
theorem rd5_nat (l : List (List Int)) (i : Nat) (h : i < l.length) : rd_L5 l (i : Int) = l[i] := by
  unfold rd_L5
  rw [Int.toNat_natCast, List.getD_eq_getElem?_getD, List.getElem?_eq_getElem h]; rfl
theorem copy_rows (l : List (List Int)) (hl : l.length ≤ 4) (hr : ∀ i : Nat, (rd_L5 l i).length ≤ 8) : Ev (fun k => weirref09_Copy.f k l) l := by
  have key : ∀ (d i : Nat), i + d = l.length → Ev (fun k => weirref09_Copy.l0 k l (l.take i) i) l := by
    intro d
    induction d with
    | zero =>
      intro i hi
      refine Ev.step (f := fun _ => some l) (fun k => ?_) (Ev.now _)
      simp only [weirref09_Copy.l0]
      rw [if_neg (by omega), List.take_of_length_le (by omega)]
    | succ d ih =>
      intro i hi
      have hI := ih (i + 1) (by omega)
      have hw := wrap_nat (k := i) (n := l.length) (by omega) (by omega)
      have ht : l.take (i + 1) = l.take i ++ [rd_L5 l i] := by rw [rd5_nat l i (by omega), List.take_succ_eq_append_getElem (by omega)]
      refine Ev.step (fun k => ?_) hI
      simp only [weirref09_Copy.l0]
      rw [if_pos (by omega), Option.bind_some, if_pos (by omega), if_pos (by have := hr i; simp only [List.length_nil]; omega), if_pos (by rw [List.length_take]; omega), List.nil_append, hw, ← ht]
  refine Ev.congr (fun k => ?_) (key l.length 0 (by omega))
  simp only [weirref09_Copy.f, List.take_zero]; rfl

/-- A state whose lists are short, its buffers empty. -/
structure SmallSt (s : St) : Prop where
  p : s.p.length ≤ 4
  q : s.q.length ≤ 4
  rg : s.rg.length ≤ 4
  bf : s.bf.length ≤ 4
  me : s.me.length ≤ 16
  row : ∀ i : Nat, (rd_L5 s.rg i).length ≤ 8
  e : ∀ b ∈ s.bf, b = []
theorem rd7_nil {l : List (List S59)} (h : ∀ b ∈ l, b = []) (i : Int) : rd_L7 l i = [] := by
  unfold rd_L7
  rw [List.getD_eq_getElem?_getD]
  cases hg : l[i.toNat]? with
  | none => rfl
  | some b => exact h b (List.mem_of_getElem? hg)
theorem copy_state {s : St} (h : SmallSt s) : Ev (fun k => weirref11_Copy.f k s.p s.q s.rg s.me s.bf s.lk) (s.p, s.q, s.rg, s.me, s.bf, s.lk) := by
  have key : ∀ (d i : Nat), i + d = s.bf.length → Ev (fun k => weirref11_Copy.l0 k i s.p s.q s.rg s.me s.bf s.lk ([] ++ s.p) ([] ++ s.q) s.rg ([] ++ s.me) (s.bf.take i) s.lk) (s.p, s.q, s.rg, s.me, s.bf, s.lk) := by
    intro d
    induction d with
    | zero =>
      intro i hi
      refine Ev.step (f := fun _ => some (s.p, s.q, s.rg, s.me, s.bf, s.lk)) (fun k => ?_) (Ev.now _)
      simp only [weirref11_Copy.l0]
      rw [if_neg (by omega), List.take_of_length_le (by omega)]; rfl
    | succ d ih =>
      intro i hi
      have hI := ih (i + 1) (by omega)
      have hb := h.bf
      have hw := wrap_nat (k := i) (n := s.bf.length) (by omega) (by omega)
      have hz := rd7_nil h.e i
      have ht : s.bf.take (i + 1) = s.bf.take i ++ [[]] := by rw [List.take_succ_eq_append_getElem (by omega), h.e _ (List.getElem_mem _)]
      refine Ev.step (fun k => ?_) hI
      simp only [weirref11_Copy.l0]
      rw [if_pos (by omega), Option.bind_some, if_pos (by omega), hz, if_pos (by simp), if_pos (by rw [List.length_take]; omega), hw, ht]; rfl
  have h1 := Ev.bind (f := fun k t307 => weirref11_Copy.l0 k 0 s.p s.q s.rg s.me s.bf s.lk ([] ++ s.p) ([] ++ s.q) t307 ([] ++ s.me) ([] : List (List (S59))) s.lk) (copy_rows s.rg h.rg h.row) (key s.bf.length 0 (by omega))
  refine Ev.congr (fun k => ?_) h1
  simp only [weirref11_Copy.f, Option.bind_some]
  rw [if_pos (by have := h.p; simp only [List.length_nil]; omega), if_pos (by have := h.q; simp only [List.length_nil]; omega)]
  congr 1
  funext t
  rw [if_pos (by have := h.me; simp only [List.length_nil]; omega)]

/-- The state in which a program begins. -/
def firstM (p : Pg) : St := ⟨List.replicate p.th.length 0, List.replicate p.th.length 0, p.r0, p.m0, List.replicate p.th.length [], -1⟩
structure SmallPg (p : Pg) : Prop where
  th : p.th.length ≤ 4
  lo : p.lo.length ≤ 16
  row : ∀ i : Nat, (rd_L4 p.rg i).length ≤ 8
  r0 : p.r0.length = p.th.length
  r0r : ∀ i : Nat, i < p.th.length → (rd_L5 p.r0 i).length = (rd_L4 p.rg i).length
  m0 : p.m0.length = p.lo.length
theorem SmallPg.r0row {p : Pg} (h : SmallPg p) (i : Nat) : (rd_L5 p.r0 i).length ≤ 8 := by
  rcases Nat.lt_or_ge i p.th.length with hi | hi
  · rw [h.r0r i hi]; exact h.row i
  · unfold rd_L5
    rw [Int.toNat_natCast, List.getD_eq_getElem?_getD, List.getElem?_eq_none (by rw [h.r0]; exact hi)]; exact Nat.zero_le _
theorem first_is {p : Pg} (h : SmallPg p) : Ev (fun k => weirref11_First.f k p.th p.rg p.lo p.r0 p.m0) ((firstM p).p, (firstM p).q, (firstM p).rg, (firstM p).me, (firstM p).bf, (firstM p).lk) := by
  have hn := h.th
  have h1 := Ev.bind (f := fun _ t281 => some (List.replicate p.th.length (0 : Int), List.replicate p.th.length (0 : Int), t281, [] ++ p.m0, List.replicate p.th.length ([] : List S59), (-1 : Int))) (copy_rows p.r0 (by rw [h.r0]; exact hn) h.r0row) (Ev.now _)
  refine Ev.congr (fun k => ?_) h1
  simp only [weirref11_First.f, Option.bind_some, Int.toNat_natCast]
  rw [if_pos (by omega), if_pos (by omega)]
  congr 1
  funext t
  rw [if_pos (by have := h.m0; have := h.lo; simp only [List.length_nil]; omega), if_pos (by omega)]
theorem clone_is (l : List Int) (h : l.length ≤ 16) : slices_Clone_int64_int64.f l = some l := by
  simp only [slices_Clone_int64_int64.f, Option.bind_some]
  rw [if_pos (by simp only [List.length_nil]; omega)]; rfl
theorem rows_is (l : List (List Int)) (hl : l.length ≤ 4) (hr : ∀ i : Nat, (rd_L5 l i).length ≤ 8) : Ev (fun k => sc_rows_int64.f k l) l := by
  have key : ∀ (d i : Nat), i + d = l.length → Ev (fun k => sc_rows_int64.l0 k l (l.take i ++ List.replicate d []) l.length i) l := by
    intro d
    induction d with
    | zero =>
      intro i hi
      refine Ev.step (f := fun _ => some l) (fun k => ?_) (Ev.now _)
      simp only [sc_rows_int64.l0]
      rw [if_neg (by omega), List.take_of_length_le (by omega)]; simp
    | succ d ih =>
      intro i hi
      have hI := ih (i + 1) (by omega)
      have hw := wrap_nat (k := i) (n := l.length) (by omega) (by omega)
      have ht : (l.take i ++ List.replicate (d + 1) []).set i (rd_L5 l i) = l.take (i + 1) ++ List.replicate d [] := by
        rw [rd5_nat l i (by omega), List.take_succ_eq_append_getElem (by omega), List.set_append, if_neg (by rw [List.length_take]; omega)]
        rw [List.length_take, show i - min i l.length = 0 by omega, List.replicate_succ, List.set_cons_zero, List.append_assoc]; rfl
      refine Ev.step (fun k => ?_) hI
      simp only [sc_rows_int64.l0]
      rw [if_pos (by omega), if_pos (by omega), if_pos (by omega), clone_is _ (by have := hr i; omega), Option.bind_some, if_pos (by simp only [List.length_append, List.length_take, List.length_replicate]; omega), hw, Int.toNat_natCast, ht]
  refine Ev.congr (fun k => ?_) (key l.length 0 (by omega))
  simp only [sc_rows_int64.f, List.take_zero, Int.toNat_natCast, List.nil_append]
  rw [if_pos (by omega), if_pos (by omega)]; rfl
theorem start_is {p : Pg} (h : SmallPg p) (hv : Ev (fun k => prog_Valid.f k p.th p.rg p.lo p.r0 p.m0) 0) :
    Ev (fun k => sc_Start.f k p.th p.rg p.lo p.r0 p.m0) ((firstM p).p, (firstM p).q, (firstM p).rg, (firstM p).me, (firstM p).bf, (firstM p).lk, 0) := by
  have hn := h.th
  have h2 := Ev.bind (f := fun _ t178 => (slices_Clone_int64_int64.f p.m0).bind fun t181 => some (List.replicate p.th.length (0 : Int), List.replicate p.th.length (0 : Int), t178, t181, List.replicate p.th.length ([] : List S59), (-1 : Int), (0 : Int))) (r := ((firstM p).p, (firstM p).q, (firstM p).rg, (firstM p).me, (firstM p).bf, (firstM p).lk, 0)) (rows_is p.r0 (by rw [h.r0]; exact hn) h.r0row)
    (Ev.congr (fun k => by rw [clone_is p.m0 (by rw [h.m0]; exact h.lo), Option.bind_some]; rfl) (Ev.now _))
  have h1 := Ev.bind (f := fun k t171 => if t171 = 0 then (sc_rows_int64.f k p.r0).bind fun t178 => (slices_Clone_int64_int64.f p.m0).bind fun t181 => some (List.replicate p.th.length (0 : Int), List.replicate p.th.length (0 : Int), t178, t181, List.replicate p.th.length ([] : List S59), (-1 : Int), (0 : Int)) else none) hv (Ev.congr (fun k => if_pos rfl) h2)
  obtain ⟨K, hK⟩ := h1
  obtain ⟨K2, hK2⟩ := hv
  refine ⟨max K K2, fun k hk => ?_⟩
  have e1 := hK k (by omega)
  have e2 := hK2 k (by omega)
  simp only at e1 e2
  rw [e2, Option.bind_some, if_pos rfl] at e1
  simp only [sc_Start.f]
  rw [e2, Option.bind_some, if_pos rfl, if_pos (by omega), if_pos (by omega)]
  rw [← e1]
  simp only [Int.toNat_natCast]
  congr 1
  funext t
  congr 1
  funext t2
  rw [if_pos (by omega)]
theorem start_not {p : Pg} {r : Int} (hr : r ≠ 0) (hv : Ev (fun k => prog_Valid.f k p.th p.rg p.lo p.r0 p.m0) r) :
    Ev (fun k => sc_Start.f k p.th p.rg p.lo p.r0 p.m0) ([], [], [], [], [], 0, r) := by
  obtain ⟨K, hK⟩ := hv
  refine ⟨K, fun k hk => ?_⟩
  have e := hK k hk
  simp only at e
  simp only [sc_Start.f]
  rw [e, Option.bind_some, if_neg hr]
end Go.Proofs.Ytemhpbdlonfikaa.P
