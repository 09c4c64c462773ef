/- PsoSorts' plain law: the sorted states of the program and of the document are one, sorting twice is sorting once, what was handed in is the same. -/
import Derived.Test.YtgooppfeikijeaaSortF
import Derived.Test.YtgooppfeikijeaaP8
import Derived.Test.YtgooppfeikijeaaP10
import Derived.Test.YtgooppfeikijeaaP11
namespace Go.Proofs.Ytgooppfeikijeaa.Pure
open Go.RowKit Go.Proofs.Ytgooppfeikijeaa.P Go.Proofs.YtgooppfeikijeaaW.PrintWords Go.Proofs.YtgooppfeikijeaaW.PrintLast

noncomputable def st (l : List S37) : List S37 := if h : l.length < 8796093022208 then (one_answer l h).choose else l
theorem st_all {l : List S37} (h : l.length < 8796093022208) : Srt (st l) ∧ Sim l (st l) ∧ (st l).length = l.length ∧ Ev (fun k => slices_SortStableFunc__pso_Sorted_1.f k l) (st l) ∧ Ev (fun k => weirref13_sorted.f k l) (st l) := by
  have := (one_answer l h).choose_spec
  unfold st
  rw [dif_pos h]
  exact this
theorem st_st {l : List S37} (h : l.length < 8796093022208) : st (st l) = st l := by
  obtain ⟨a1, a2, a3, _, _⟩ := st_all h
  obtain ⟨b1, b2, _, _, _⟩ := st_all (l := st l) (by omega)
  exact uniq b1 a1 b2.symm

theorem take_snoc {α : Type} (xs : List α) (d : α) (i : Nat) (h : i < xs.length) : xs.take i ++ [xs.getD i d] = xs.take (i + 1) := by
  rw [List.take_add_one, List.getD_eq_getElem?_getD, List.getElem?_eq_getElem h]
  rfl

structure Fits (p q : List Int) (rg : List (List Int)) (me : List Int) (bf : List (List S37)) : Prop where
  np : p.length < 17592186044416
  nq : q.length < 17592186044416
  nme : me.length < 17592186044416
  nrg : rg.length < 5864062014805
  nbf : bf.length < 5864062014805
  rgs : ∀ x ∈ rg, x.length < 17592186044416
  bfs : ∀ x ∈ bf, x.length < 8796093022208

section
variable {p q me : List Int} {rg : List (List Int)} {bf : List (List S37)} {c : Int}
theorem rg_at (F : Fits p q rg me bf) {i : Nat} (h : i < rg.length) : (rg.getD i []).length < 17592186044416 := F.rgs _ (by
  rw [List.getD_eq_getElem?_getD, List.getElem?_eq_getElem h]
  exact List.getElem_mem h)
theorem bf_at (F : Fits p q rg me bf) {i : Nat} (h : i < bf.length) : (bf.getD i []).length < 8796093022208 := F.bfs _ (by
  rw [List.getD_eq_getElem?_getD, List.getElem?_eq_getElem h]
  exact List.getElem_mem h)

/-! ### The copy -/
theorem copy_regs (F : Fits p q rg me bf) : ∀ (d i : Nat), i + d = rg.length → Ev (fun k => weirref09_Copy.l0 k rg (rg.take i) i) rg := by
  have hrg := F.nrg
  intro d
  induction d with
  | zero =>
    intro i hi
    refine Ev.step (f := fun _ => some rg) (fun k => ?_) (Ev.now _)
    simp only [weirref09_Copy.l0]
    rw [if_neg (by omega), List.take_of_length_le (by omega)]
  | succ d ih =>
    intro i hi
    have h1 := rg_at F (i := i) (by omega)
    refine Ev.step (fun k => ?_) (ih (i + 1) (by omega))
    simp only [weirref09_Copy.l0, rd_L1, Int.toNat_natCast, Option.bind_some, List.nil_append, List.length_nil, Nat.zero_add]
    rw [if_pos (by omega), if_pos (by omega), if_pos h1, if_pos (by rw [List.length_take]; omega), take_snoc rg [] i (by omega), wrap_small (by omega) (by omega)]
    rfl
theorem copy_bufs (F : Fits p q rg me bf) (a1 a2 a4 : List Int) (a3 : List (List Int)) (a5 : Int) : ∀ (d i : Nat), i + d = bf.length →
    Ev (fun k => weirref11_Copy.l0 k i p q rg me bf c a1 a2 a3 a4 (bf.take i) a5) (a1, a2, a3, a4, bf, a5) := by
  have hbf := F.nbf
  intro d
  induction d with
  | zero =>
    intro i hi
    refine Ev.step (f := fun _ => some (a1, a2, a3, a4, bf, a5)) (fun k => ?_) (Ev.now _)
    simp only [weirref11_Copy.l0]
    rw [if_neg (by omega), List.take_of_length_le (by omega)]
  | succ d ih =>
    intro i hi
    have h1 := bf_at F (i := i) (by omega)
    refine Ev.step (fun k => ?_) (ih (i + 1) (by omega))
    simp only [weirref11_Copy.l0, rd_L3, Int.toNat_natCast, Option.bind_some, List.nil_append, List.length_nil, Nat.zero_add]
    rw [if_pos (by omega), if_pos (by omega), if_pos h1, if_pos (by rw [List.length_take]; omega), take_snoc bf [] i (by omega), wrap_small (by omega) (by omega)]
    rfl
theorem copy_ev (F : Fits p q rg me bf) : Ev (fun k => weirref11_Copy.f k p q rg me bf c) (p, q, rg, me, bf, c) := by
  have h1 := copy_regs F rg.length 0 (by omega)
  have h2 := copy_bufs F p q me rg c (c := c) bf.length 0 (by omega)
  refine Ev.congr (fun k => ?_) (Ev.bind (g := fun k => weirref09_Copy.f k rg) (f := fun k t => weirref11_Copy.l0 k 0 p q rg me bf c p q t me [] c) (by simpa [weirref09_Copy.f] using h1) (by simpa using h2))
  simp only [weirref11_Copy.f, Option.bind_some, List.nil_append, List.length_nil, Nat.zero_add]
  rw [if_pos F.np, if_pos F.nq]
  congr 1
  funext t
  rw [if_pos F.nme]

/-! ### The program's Sorted -/
theorem sort_bufs (F : Fits p q rg me bf) (a1 a2 a4 : List Int) (a3 : List (List Int)) (a5 : Int) : ∀ (d i : Nat), i + d = bf.length →
    Ev (fun k => pso_Sorted.l1 k bf bf.length i a1 a2 a3 a4 ((bf.map st).take i) a5) (a1, a2, a3, a4, bf.map st, a5) := by
  have hbf := F.nbf
  intro d
  induction d with
  | zero =>
    intro i hi
    refine Ev.step (f := fun _ => some (a1, a2, a3, a4, bf.map st, a5)) (fun k => ?_) (Ev.now _)
    simp only [pso_Sorted.l1]
    rw [if_neg (by omega), List.take_of_length_le (by rw [List.length_map]; omega)]
  | succ d ih =>
    intro i hi
    have h1 := bf_at F (i := i) (by omega)
    have h2 := (st_all h1).2.2.2.1
    have h3 : (bf.map st).getD i (st []) = st (bf.getD i []) := by
      rw [List.getD_eq_getElem?_getD, List.getD_eq_getElem?_getD, List.getElem?_map, List.getElem?_eq_getElem (by omega)]
      rfl
    have h4 := take_snoc (bf.map st) (st []) i (by rw [List.length_map]; omega)
    rw [h3] at h4
    refine Ev.step (fun k => ?_) (Ev.bind h2 (f := fun k t => if ((bf.map st).take i).length < 5864062014805 then pso_Sorted.l1 k bf bf.length ((i : Int) + 1) a1 a2 a3 a4 ((bf.map st).take i ++ [t]) a5 else none) (Ev.congr (fun k => ?_) (ih (i + 1) (by omega))))
    · simp only [pso_Sorted.l1, rd_L3, Int.toNat_natCast]
      rw [if_pos (by omega), if_pos (by omega), if_pos (by omega), wrap_small (by omega) (by omega)]
      have : slices_Clone_api_Write_api_Write.f (bf.getD i []) = some (bf.getD i []) := by
        simp only [slices_Clone_api_Write_api_Write.f, Option.bind_some, List.nil_append, List.length_nil, Nat.zero_add]
        rw [if_pos h1]
      rw [this, Option.bind_some]
    · rw [if_pos (by rw [List.length_take, List.length_map]; omega), h4]
      rfl
theorem sort_regs (F : Fits p q rg me bf) (a1 a2 a4 : List Int) (a5 : Int) : ∀ (d i : Nat), i + d = rg.length →
    Ev (fun k => pso_Sorted.l0 k rg rg.length i p q rg me bf c a1 a2 (rg.take i) a4 a5) (a1, a2, rg, a4, bf.map st, a5) := by
  have hrg := F.nrg
  intro d
  induction d with
  | zero =>
    intro i hi
    have h1 := sort_bufs F a1 a2 a4 rg a5 bf.length 0 (by omega)
    refine Ev.step (fun k => ?_) (by simpa using h1)
    simp only [pso_Sorted.l0]
    rw [if_neg (by omega), List.take_of_length_le (by omega)]
  | succ d ih =>
    intro i hi
    have h1 := rg_at F (i := i) (by omega)
    refine Ev.step (fun k => ?_) (ih (i + 1) (by omega))
    simp only [pso_Sorted.l0, rd_L1, Int.toNat_natCast]
    rw [if_pos (by omega), if_pos (by omega), if_pos (by omega)]
    have : slices_Clone_int64_int64.f (rg.getD i []) = some (rg.getD i []) := by
      simp only [slices_Clone_int64_int64.f, Option.bind_some, List.nil_append, List.length_nil, Nat.zero_add]
      rw [if_pos h1]
    rw [this, Option.bind_some, if_pos (by rw [List.length_take]; omega), take_snoc rg [] i (by omega), wrap_small (by omega) (by omega)]
    rfl
theorem pso_ev (F : Fits p q rg me bf) : Ev (fun k => pso_Sorted.f k p q rg me bf c) (p, q, rg, me, bf.map st, c) := by
  have h1 := sort_regs F p q me c (c := c) rg.length 0 (by omega)
  refine Ev.congr (fun k => ?_) (by simpa using h1)
  simp only [pso_Sorted.f, slices_Clone_int_int.f, slices_Clone_int64_int64.f, Option.bind_some, List.nil_append, List.length_nil, Nat.zero_add]
  rw [if_pos F.np, Option.bind_some, if_pos F.nq, Option.bind_some, if_pos F.nme, Option.bind_some]

/-! ### The document's Sorted -/
theorem ref_loop (F : Fits p q rg me bf) : ∀ (d i : Nat), i + d = bf.length →
    Ev (fun k => weirref13_Sorted.l0 k i p q rg me ((bf.take i).map st ++ bf.drop i) c) (p, q, rg, me, bf.map st, c) := by
  have hbf := F.nbf
  intro d
  induction d with
  | zero =>
    intro i hi
    refine Ev.step (f := fun _ => some (p, q, rg, me, bf.map st, c)) (fun k => ?_) (Ev.now _)
    simp only [weirref13_Sorted.l0]
    rw [if_neg (by simp; omega), List.take_of_length_le (by omega), List.drop_of_length_le (by omega), List.append_nil]
  | succ d ih =>
    intro i hi
    have h1 := bf_at F (i := i) (by omega)
    have h2 := (st_all h1).2.2.2.2
    have hd : bf.drop i = bf.getD i [] :: bf.drop (i + 1) := by
      rw [List.getD_eq_getElem?_getD, List.getElem?_eq_getElem (by omega)]
      exact List.drop_eq_getElem_cons (by omega)
    have hl : ((bf.take i).map st).length = i := by rw [List.length_map, List.length_take]; omega
    have hr : ((bf.take i).map st ++ bf.drop i).getD i [] = bf.getD i [] := by
      rw [hd, List.getD_eq_getElem?_getD, List.getElem?_append_right (by omega), hl, Nat.sub_self]
      rfl
    have hs : ((bf.take i).map st ++ bf.drop i).set i (st (bf.getD i [])) = (bf.take (i + 1)).map st ++ bf.drop (i + 1) := by
      rw [hd, List.set_append_right _ _ (by omega), hl, Nat.sub_self, ← take_snoc bf [] i (by omega)]
      simp
    refine Ev.step (fun k => ?_) (Ev.bind h2 (f := fun k t => weirref13_Sorted.l0 k ((i : Int) + 1) p q rg me (((bf.take i).map st ++ bf.drop i).set i t) c) (by rw [hs]; exact ih (i + 1) (by omega)))
    simp only [weirref13_Sorted.l0, rd_L3, Int.toNat_natCast]
    rw [if_pos (by simp; omega), if_pos (by omega), hr, wrap_small (by omega) (by omega)]
theorem ref_ev (F : Fits p q rg me bf) : Ev (fun k => weirref13_Sorted.f k p q rg me bf c) (p, q, rg, me, bf.map st, c) := by
  have h1 := ref_loop F (c := c) bf.length 0 (by omega)
  exact Ev.congr (fun k => rfl) (Ev.bind (copy_ev F (c := c)) (f := fun k (t : List Int × List Int × List (List Int) × List Int × List (List S37) × Int) => weirref13_Sorted.l0 k 0 t.1 t.2.1 t.2.2.1 t.2.2.2.1 t.2.2.2.2.1 t.2.2.2.2.2) (by simpa using h1))

/-! ### One state is the same as itself -/
theorem ints_ev (x : List Int) (hx : x.length < 17592186044416) : Ev (fun k => weirlaw01_SameInts.f k x x) true := by
  have : ∀ (d i : Nat), i + d = x.length → Ev (fun k => weirlaw01_SameInts.l0 k x x i) true := by
    intro d
    induction d with
    | zero =>
      intro i hi
      refine Ev.step (f := fun _ => some true) (fun k => ?_) (Ev.now _)
      simp only [weirlaw01_SameInts.l0]
      rw [if_neg (by omega)]
    | succ d ih =>
      intro i hi
      refine Ev.step (fun k => ?_) (ih (i + 1) (by omega))
      simp only [weirlaw01_SameInts.l0, if_true]
      rw [if_pos (by omega), if_pos (by omega), if_pos (by omega), wrap_small (by omega) (by omega)]
      rfl
  refine Ev.congr (fun k => ?_) (this x.length 0 (by omega))
  simp only [weirlaw01_SameInts.f, if_true]
  rfl
theorem values_ev (x : List Int) (hx : x.length < 17592186044416) : Ev (fun k => weirlaw11_sameValues.f k x x) true := by
  have : ∀ (d i : Nat), i + d = x.length → Ev (fun k => weirlaw11_sameValues.l0 k x x i) true := by
    intro d
    induction d with
    | zero =>
      intro i hi
      refine Ev.step (f := fun _ => some true) (fun k => ?_) (Ev.now _)
      simp only [weirlaw11_sameValues.l0]
      rw [if_neg (by omega)]
    | succ d ih =>
      intro i hi
      refine Ev.step (fun k => ?_) (ih (i + 1) (by omega))
      simp only [weirlaw11_sameValues.l0, if_true]
      rw [if_pos (by omega), if_pos (by omega), if_pos (by omega), wrap_small (by omega) (by omega)]
      rfl
  refine Ev.congr (fun k => ?_) (this x.length 0 (by omega))
  simp only [weirlaw11_sameValues.f, if_true]
  rfl
theorem same_l1 (F : Fits p q rg me bf) : ∀ (d i : Nat), i + d = bf.length → Ev (fun k => weirlaw11_SameStates.l1 k i p q rg me bf c p q rg me bf c) true := by
  have hbf := F.nbf
  intro d
  induction d with
  | zero =>
    intro i hi
    refine Ev.step (f := fun _ => some true) (fun k => ?_) (Ev.now _)
    simp only [weirlaw11_SameStates.l1]
    rw [if_neg (by omega)]
  | succ d ih =>
    intro i hi
    have h1 := bf_at F (i := i) (by omega)
    have hl : (rd_L3 bf (i : Int)).length = (bf.getD i []).length := rfl
    have inner : ∀ (e j : Nat), j + e = (bf.getD i []).length → Ev (fun k => weirlaw11_SameStates.l2 k i j p q rg me bf c p q rg me bf c) true := by
      intro e
      induction e with
      | zero =>
        intro j hj
        refine Ev.step (fun k => ?_) (ih (i + 1) (by omega))
        simp only [weirlaw11_SameStates.l2]
        rw [if_pos (show (0 : Int) ≤ (i : Int) by omega), if_pos (show (i : Int) < (bf.length : Int) by omega), if_neg (show ¬ ((j : Int) < ((rd_L3 bf (i : Int)).length : Int)) by omega), wrap_small (x := (i : Int) + 1) (by omega) (by omega)]
        rfl
      | succ e ihe =>
        intro j hj
        refine Ev.step (fun k => ?_) (ihe (j + 1) (by omega))
        simp only [weirlaw11_SameStates.l2, beq_self_eq_true, Bool.not_true, Bool.or_self, Bool.false_eq_true, if_false]
        rw [if_pos (show (0 : Int) ≤ (i : Int) by omega), if_pos (show (i : Int) < (bf.length : Int) by omega), if_pos (show (j : Int) < ((rd_L3 bf (i : Int)).length : Int) by omega), if_pos (show (0 : Int) ≤ (j : Int) by omega), if_pos (show (i : Int) < (bf.length : Int) by omega), if_pos (show (j : Int) < ((rd_L3 bf (i : Int)).length : Int) by omega), wrap_small (x := (j : Int) + 1) (by omega) (by omega)]
        rfl
    refine Ev.step (fun k => ?_) (inner (bf.getD i []).length 0 (by omega))
    simp only [weirlaw11_SameStates.l1, if_true]
    rw [if_pos (by omega), if_pos (by omega), if_pos (by omega)]
    rfl
theorem same_l0 (F : Fits p q rg me bf) : ∀ (d i : Nat), i + d = rg.length → Ev (fun k => weirlaw11_SameStates.l0 k i p q rg me bf c p q rg me bf c) true := by
  have hrg := F.nrg
  intro d
  induction d with
  | zero =>
    intro i hi
    refine Ev.step (fun k => ?_) (same_l1 F (c := c) bf.length 0 (by omega))
    simp only [weirlaw11_SameStates.l0]
    rw [if_neg (by omega)]
    rfl
  | succ d ih =>
    intro i hi
    have h1 := rg_at F (i := i) (by omega)
    have h2 := values_ev _ h1
    refine Ev.step (fun k => ?_) (Ev.bind h2 (f := fun k t => if t = true then weirlaw11_SameStates.l0 k ((i : Int) + 1) p q rg me bf c p q rg me bf c else some false) (Ev.congr (fun k => if_pos rfl) (ih (i + 1) (by omega))))
    simp only [weirlaw11_SameStates.l0, rd_L1, Int.toNat_natCast]
    rw [if_pos (by omega), if_pos (by omega), if_pos (by omega), wrap_small (by omega) (by omega)]
theorem same_ev (F : Fits p q rg me bf) : Ev (fun k => weirlaw11_SameStates.f k p q rg me bf c p q rg me bf c) true := by
  have h0 := ints_ev p F.np
  have h1 := ints_ev q F.nq
  have h2 := values_ev me F.nme
  have h3 := same_l0 F (c := c) rg.length 0 (by omega)
  have h4 : Ev (fun k => weirlaw11_SameStates.j0 k (c != c) p q rg me bf c p q rg me bf c) true := by
    refine Ev.step (fun k => ?_) (by simpa using h3)
    simp only [weirlaw11_SameStates.j0]
    simp
  refine Ev.congr (fun k => rfl) (Ev.bind h0 (Ev.congr (fun k => if_pos rfl) (Ev.bind h1 (Ev.congr (fun k => (if_pos rfl).trans (if_pos rfl)) (Ev.bind h2 (Ev.congr (fun k => (if_pos rfl).trans (if_pos rfl)) h4))))))

/-! ### The law -/
theorem law_all (F : Fits p q rg me bf) : ∃ k, weirref11_Copy.f k p q rg me bf c = some (p, q, rg, me, bf, c) ∧ pso_Sorted.f k p q rg me bf c = some (p, q, rg, me, bf.map st, c) ∧
    weirref13_Sorted.f k p q rg me bf c = some (p, q, rg, me, bf.map st, c) ∧ weirlaw11_SameStates.f k p q rg me (bf.map st) c p q rg me (bf.map st) c = some true ∧
    weirlaw11_SameStates.f k p q rg me bf c p q rg me bf c = some true ∧ pso_Sorted.f k p q rg me (bf.map st) c = some (p, q, rg, me, bf.map st, c) := by
  have F2 : Fits p q rg me (bf.map st) := ⟨F.np, F.nq, F.nme, F.nrg, by rw [List.length_map]; exact F.nbf, F.rgs, fun x hx => by
    obtain ⟨y, hy, rfl⟩ := List.mem_map.1 hx
    rw [(st_all (F.bfs y hy)).2.2.1]
    exact F.bfs y hy⟩
  have hm : (bf.map st).map st = bf.map st := by
    rw [List.map_map]
    exact List.map_congr_left (fun y hy => st_st (F.bfs y hy))
  have h1 := copy_ev F (c := c)
  have h2 := pso_ev F (c := c)
  have h3 := ref_ev F (c := c)
  have h4 := same_ev F2 (c := c)
  have h5 := same_ev F (c := c)
  have h6 := pso_ev F2 (c := c)
  rw [hm] at h6
  obtain ⟨k1, g1⟩ := h1
  obtain ⟨k2, g2⟩ := h2
  obtain ⟨k3, g3⟩ := h3
  obtain ⟨k4, g4⟩ := h4
  obtain ⟨k5, g5⟩ := h5
  obtain ⟨k6, g6⟩ := h6
  exact ⟨k1 + k2 + k3 + k4 + k5 + k6, g1 _ (by omega), g2 _ (by omega), g3 _ (by omega), g4 _ (by omega), g5 _ (by omega), g6 _ (by omega)⟩
end
end Go.Proofs.Ytgooppfeikijeaa.Pure
