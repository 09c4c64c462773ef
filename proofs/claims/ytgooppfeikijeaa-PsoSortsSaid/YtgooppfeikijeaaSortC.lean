/- The merge in place (SymMerge). -/
import Derived.Test.YtgooppfeikijeaaSortB
namespace Go.Proofs.Ytgooppfeikijeaa.Pure
open Go.RowKit Go.Proofs.Ytgooppfeikijeaa.P Go.Proofs.YtgooppfeikijeaaW.PrintWords Go.Proofs.YtgooppfeikijeaaW.PrintLast

theorem split_at {α : Type} (B : List α) (n : Nat) (h : n < B.length) : ∃ B1 q B2, B = B1 ++ q :: B2 ∧ B1.length = n :=
  ⟨B.take n, B[n], B.drop (n + 1), by rw [← List.drop_eq_getElem_cons h, List.take_append_drop], by rw [List.length_take]; omega⟩

/-! ### One element on the left -/
theorem sm_l1 (R : List S37) (x : S37) (e : Int) : ∀ (V P : List S37) (k0 : Int), (P ++ x :: V ++ R).length < 8796093022208 → k0 = P.length → e = P.length + V.length + 1 →
    Ev (fun k => slices_symMergeCmpFunc__pso_Sorted_1.l1 k (P ++ x :: V ++ R) e k0) (P ++ V ++ x :: R)
  | [], P, k0, hb, hk, he => by
    simp at hb he
    refine Ev.step (f := fun _ => some _) (fun k => ?_) (Ev.now _)
    simp only [slices_symMergeCmpFunc__pso_Sorted_1.l1]
    rw [wrap_small (x := e - 1) (by omega) (by omega), if_neg (by omega)]
    simp
  | v :: V, P, k0, hb, hk, he => by
    simp at hb he
    have hI := sm_l1 R x e V (P ++ [v]) (k0 + 1) (by simp; omega) (by simp; omega) (by simp; omega)
    refine Ev.step (fun k => ?_) (by simpa using hI)
    have e0 : P ++ x :: v :: V ++ R = P ++ x :: (v :: V ++ R) := by simp
    have e1 : P ++ x :: v :: V ++ R = (P ++ [x]) ++ v :: (V ++ R) := by simp
    have r1 : rd_T37 (P ++ x :: v :: V ++ R) (k0 + 1) = v := by rw [e1]; exact rd_at (by simp; omega)
    have r2 : rd_T37 (P ++ x :: v :: V ++ R) k0 = x := by rw [e0]; exact rd_at hk
    simp only [slices_symMergeCmpFunc__pso_Sorted_1.l1]
    rw [wrap_small (x := e - 1) (by omega) (by omega), wrap_small (x := k0 + 1) (by omega) (by omega), if_pos (by omega), if_pos (by omega), if_pos (by simp; omega), if_pos (by omega), if_pos (by simp; omega), r1, r2, eta, eta, e0, set_at hk]
    have e2 : P ++ v :: (v :: V ++ R) = (P ++ [v]) ++ v :: (V ++ R) := by simp
    rw [e2, set_at (by simp; omega)]
    simp

theorem sm_l0 (P Q : List S37) (x : S37) (a : Int) (ha : a = P.length) : ∀ (n : Nat) (A B C : List S37) (i j : Int), B.length ≤ n → (P ++ x :: (A ++ B ++ C) ++ Q).length < 8796093022208 → i = P.length + 1 + A.length → j = i + B.length → Srt (A ++ B ++ C) →
    (∀ q ∈ A, q.f0 < x.f0) → (∀ q ∈ C, x.f0 ≤ q.f0) → ∃ Y1 Y2, A ++ B ++ C = Y1 ++ Y2 ∧ (∀ q ∈ Y1, q.f0 < x.f0) ∧ (∀ q ∈ Y2, x.f0 ≤ q.f0) ∧
      ∀ r, Ev (fun k => slices_symMergeCmpFunc__pso_Sorted_1.l1 k (P ++ x :: (A ++ B ++ C) ++ Q) (P.length + 1 + Y1.length) a) r → Ev (fun k => slices_symMergeCmpFunc__pso_Sorted_1.l0 k (P ++ x :: (A ++ B ++ C) ++ Q) a i j) r := by
  intro n
  induction n with
  | zero =>
    intro A B C i j hn hb hi hj hs hA hC
    obtain rfl : B = [] := List.eq_nil_of_length_eq_zero (by omega)
    refine ⟨A, C, by simp, hA, hC, fun r hr => Ev.step (fun k => ?_) hr⟩
    simp only [slices_symMergeCmpFunc__pso_Sorted_1.l0]
    rw [if_neg (by simp at hj; omega), hi]
  | succ n ih =>
    intro A B C i j hn hb hi hj hs hA hC
    by_cases hB : B.length = 0
    · obtain rfl : B = [] := List.eq_nil_of_length_eq_zero hB
      refine ⟨A, C, by simp, hA, hC, fun r hr => Ev.step (fun k => ?_) hr⟩
      simp only [slices_symMergeCmpFunc__pso_Sorted_1.l0]
      rw [if_neg (by simp at hj; omega), hi]
    · simp only [List.length_append, List.length_cons] at hb
      obtain ⟨B1, q, B2, rfl, hl⟩ := split_at B (((i + j) / 2 - i).toNat) (by omega)
      simp only [List.length_append, List.length_cons] at hb hj hn hB
      have hh : wrap64 (IntKind.u64.wrap (wrap64 (i + j)) / 2) = (i + j) / 2 := half (by omega) (by omega) (by omega)
      have e0 : P ++ x :: (A ++ (B1 ++ q :: B2) ++ C) ++ Q = P ++ x :: (A ++ (B1 ++ q :: B2) ++ C ++ Q) := by simp
      have e1 : P ++ x :: (A ++ (B1 ++ q :: B2) ++ C) ++ Q = (P ++ x :: (A ++ B1)) ++ q :: (B2 ++ C ++ Q) := by simp
      have r0 : rd_T37 (P ++ x :: (A ++ (B1 ++ q :: B2) ++ C) ++ Q) a = x := by rw [e0]; exact rd_at ha
      have r1 : rd_T37 (P ++ x :: (A ++ (B1 ++ q :: B2) ++ C) ++ Q) ((i + j) / 2) = q := by rw [e1]; exact rd_at (by simp; omega)
      obtain ⟨t, ht, htl⟩ := cmp_at q.f0 q.f1 x.f0 x.f1
      have hs' : Srt ((A ++ B1) ++ q :: (B2 ++ C)) := by simpa using hs
      by_cases hlt : q.f0 < x.f0
      · obtain ⟨Y1, Y2, g1, g2, g3, g4⟩ := ih (A ++ B1 ++ [q]) B2 C ((i + j) / 2 + 1) j (by omega) (by simp; omega) (by simp; omega) (by omega) (by simpa using hs) (fun p hp => by
          rcases List.mem_append.1 hp with h | h
          · have := hs'.le h (List.mem_cons_self (a := q)); omega
          · rw [List.mem_singleton.1 h]; exact hlt) hC
        have e2 : A ++ (B1 ++ q :: B2) ++ C = A ++ B1 ++ [q] ++ B2 ++ C := by simp
        refine ⟨Y1, Y2, by rw [e2, g1], g2, g3, fun r hr => ?_⟩
        rw [← e2] at g4
        refine Ev.step (fun k => ?_) (g4 r hr)
        simp only [slices_symMergeCmpFunc__pso_Sorted_1.l0]
        rw [if_pos (by omega), hh, if_pos (by omega), if_pos (by simp; omega), if_pos (by omega), if_pos (by simp; omega), r0, r1, ht, Option.bind_some, if_pos (htl.2 hlt), wrap_small (x := (i + j) / 2 + 1) (by omega) (by omega)]
      · obtain ⟨Y1, Y2, g1, g2, g3, g4⟩ := ih A B1 (q :: B2 ++ C) i ((i + j) / 2) (by omega) (by simp; omega) hi (by omega) (by simpa using hs) hA (fun p hp => by
          have h : p ∈ q :: (B2 ++ C) := by simpa using hp
          rcases List.mem_cons.1 h with rfl | h
          · omega
          · have := (List.pairwise_cons.1 hs'.right).1 p h; omega)
        have e2 : A ++ (B1 ++ q :: B2) ++ C = A ++ B1 ++ (q :: B2 ++ C) := by simp
        refine ⟨Y1, Y2, by rw [e2, g1], g2, g3, fun r hr => ?_⟩
        rw [← e2] at g4
        refine Ev.step (fun k => ?_) (g4 r hr)
        simp only [slices_symMergeCmpFunc__pso_Sorted_1.l0]
        rw [if_pos (by omega), hh, if_pos (by omega), if_pos (by simp; omega), if_pos (by omega), if_pos (by simp; omega), r0, r1, ht, Option.bind_some, if_neg (fun h => hlt (htl.1 h))]

/-! ### One element on the right -/
theorem sm_l3 (P : List S37) (y : S37) (i : Int) (hi : i = P.length) : ∀ (n : Nat) (V R : List S37) (k0 : Int), V.length = n → (P ++ V ++ y :: R).length < 8796093022208 → k0 = P.length + V.length →
    Ev (fun k => slices_symMergeCmpFunc__pso_Sorted_1.l3 k (P ++ V ++ y :: R) i k0) (P ++ y :: V ++ R) := by
  intro n
  induction n with
  | zero =>
    intro V R k0 hn hb hk
    obtain rfl : V = [] := List.eq_nil_of_length_eq_zero hn
    refine Ev.step (f := fun _ => some _) (fun k => ?_) (Ev.now _)
    simp only [slices_symMergeCmpFunc__pso_Sorted_1.l3]
    rw [if_neg (by simp at hk; omega)]
    simp
  | succ n ih =>
    intro V R k0 hn hb hk
    rcases List.eq_nil_or_concat V with rfl | ⟨V, v, rfl⟩
    · cases hn
    · simp only [List.length_append, List.length_cons, List.length_nil, List.concat_eq_append] at hn hb hk
      simp only [List.concat_eq_append]
      have hI := ih V (v :: R) (k0 - 1) (by omega) (by simp; omega) (by omega)
      refine Ev.step (fun k => ?_) (by simpa using hI)
      have e0 : P ++ (V ++ [v]) ++ y :: R = (P ++ V) ++ v :: (y :: R) := by simp
      have e1 : P ++ (V ++ [v]) ++ y :: R = (P ++ V ++ [v]) ++ y :: R := by simp
      have r1 : rd_T37 (P ++ (V ++ [v]) ++ y :: R) (k0 - 1) = v := by rw [e0]; exact rd_at (by simp; omega)
      have r2 : rd_T37 (P ++ (V ++ [v]) ++ y :: R) k0 = y := by rw [e1]; exact rd_at (by simp; omega)
      simp only [slices_symMergeCmpFunc__pso_Sorted_1.l3]
      rw [wrap_small (x := k0 - 1) (by omega) (by omega), if_pos (by omega), if_pos (by omega), if_pos (by simp; omega), if_pos (by omega), if_pos (by simp; omega), r1, r2, eta, eta, e1, set_at (by simp; omega)]
      have e2 : P ++ V ++ [v] ++ v :: R = (P ++ V) ++ v :: (v :: R) := by simp
      rw [e2, set_at (by simp; omega)]
      simp

theorem sm_l2 (P Q : List S37) (y : S37) (m : Int) : ∀ (n : Nat) (A B C : List S37) (i j : Int), B.length ≤ n → (P ++ (A ++ B ++ C) ++ y :: Q).length < 8796093022208 → m = P.length + (A ++ B ++ C).length → i = P.length + A.length → j = i + B.length → Srt (A ++ B ++ C) →
    (∀ q ∈ A, q.f0 ≤ y.f0) → (∀ q ∈ C, y.f0 < q.f0) → ∃ X1 X2, A ++ B ++ C = X1 ++ X2 ∧ (∀ q ∈ X1, q.f0 ≤ y.f0) ∧ (∀ q ∈ X2, y.f0 < q.f0) ∧
      ∀ r, Ev (fun k => slices_symMergeCmpFunc__pso_Sorted_1.l3 k (P ++ (A ++ B ++ C) ++ y :: Q) (P.length + X1.length) m) r → Ev (fun k => slices_symMergeCmpFunc__pso_Sorted_1.l2 k (P ++ (A ++ B ++ C) ++ y :: Q) m i j) r := by
  intro n
  induction n with
  | zero =>
    intro A B C i j hn hb hm hi hj hs hA hC
    obtain rfl : B = [] := List.eq_nil_of_length_eq_zero (by omega)
    refine ⟨A, C, by simp, hA, hC, fun r hr => Ev.step (fun k => ?_) hr⟩
    simp only [slices_symMergeCmpFunc__pso_Sorted_1.l2]
    rw [if_neg (by simp at hj; omega), hi]
  | succ n ih =>
    intro A B C i j hn hb hm hi hj hs hA hC
    by_cases hB : B.length = 0
    · obtain rfl : B = [] := List.eq_nil_of_length_eq_zero hB
      refine ⟨A, C, by simp, hA, hC, fun r hr => Ev.step (fun k => ?_) hr⟩
      simp only [slices_symMergeCmpFunc__pso_Sorted_1.l2]
      rw [if_neg (by simp at hj; omega), hi]
    · simp only [List.length_append, List.length_cons] at hb hm
      obtain ⟨B1, q, B2, rfl, hl⟩ := split_at B (((i + j) / 2 - i).toNat) (by omega)
      simp only [List.length_append, List.length_cons] at hb hj hn hB hm
      have hh : wrap64 (IntKind.u64.wrap (wrap64 (i + j)) / 2) = (i + j) / 2 := half (by omega) (by omega) (by omega)
      have e0 : P ++ (A ++ (B1 ++ q :: B2) ++ C) ++ y :: Q = (P ++ A ++ B1) ++ q :: (B2 ++ C ++ y :: Q) := by simp
      have r0 : rd_T37 (P ++ (A ++ (B1 ++ q :: B2) ++ C) ++ y :: Q) m = y := rd_at (by simp; omega)
      have r1 : rd_T37 (P ++ (A ++ (B1 ++ q :: B2) ++ C) ++ y :: Q) ((i + j) / 2) = q := by rw [e0]; exact rd_at (by simp; omega)
      obtain ⟨t, ht, htl⟩ := cmp_at y.f0 y.f1 q.f0 q.f1
      have hs' : Srt ((A ++ B1) ++ q :: (B2 ++ C)) := by simpa using hs
      by_cases hlt : y.f0 < q.f0
      · obtain ⟨X1, X2, g1, g2, g3, g4⟩ := ih A B1 (q :: B2 ++ C) i ((i + j) / 2) (by omega) (by simp; omega) (by simp; omega) hi (by omega) (by simpa using hs) hA (fun p hp => by
          have h : p ∈ q :: (B2 ++ C) := by simpa using hp
          rcases List.mem_cons.1 h with rfl | h
          · omega
          · have := (List.pairwise_cons.1 hs'.right).1 p h; omega)
        have e2 : A ++ (B1 ++ q :: B2) ++ C = A ++ B1 ++ (q :: B2 ++ C) := by simp
        refine ⟨X1, X2, by rw [e2, g1], g2, g3, fun r hr => ?_⟩
        rw [← e2] at g4
        refine Ev.step (fun k => ?_) (g4 r hr)
        simp only [slices_symMergeCmpFunc__pso_Sorted_1.l2]
        rw [if_pos (by omega), hh, if_pos (by omega), if_pos (by simp; omega), if_pos (by omega), if_pos (by simp; omega), r0, r1, ht, Option.bind_some, if_pos (htl.2 hlt)]
      · obtain ⟨X1, X2, g1, g2, g3, g4⟩ := ih (A ++ B1 ++ [q]) B2 C ((i + j) / 2 + 1) j (by omega) (by simp; omega) (by simp; omega) (by simp; omega) (by omega) (by simpa using hs) (fun p hp => by
          rcases List.mem_append.1 hp with h | h
          · have := hs'.le h (List.mem_cons_self (a := q)); omega
          · rw [List.mem_singleton.1 h]; omega) hC
        have e2 : A ++ (B1 ++ q :: B2) ++ C = A ++ B1 ++ [q] ++ B2 ++ C := by simp
        refine ⟨X1, X2, by rw [e2, g1], g2, g3, fun r hr => ?_⟩
        rw [← e2] at g4
        refine Ev.step (fun k => ?_) (g4 r hr)
        simp only [slices_symMergeCmpFunc__pso_Sorted_1.l2]
        rw [if_pos (by omega), hh, if_pos (by omega), if_pos (by simp; omega), if_pos (by omega), if_pos (by simp; omega), r0, r1, ht, Option.bind_some, if_neg (fun h => hlt (htl.1 h)), wrap_small (x := (i + j) / 2 + 1) (by omega) (by omega)]
end Go.Proofs.Ytgooppfeikijeaa.Pure
