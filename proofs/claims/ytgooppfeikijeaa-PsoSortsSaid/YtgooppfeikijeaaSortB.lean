/- Insertion sort, and the merge in place: each leaves a list in order, each key's own elements in their order. -/
import Derived.Test.YtgooppfeikijeaaSortA
import Derived.Test.YtgooppfeikijeaaP6
import Derived.Test.YtgooppfeikijeaaP7
namespace Go.Proofs.Ytgooppfeikijeaa.Pure
open Go.RowKit Go.Proofs.Ytgooppfeikijeaa.P Go.Proofs.YtgooppfeikijeaaW.PrintWords Go.Proofs.YtgooppfeikijeaaW.PrintLast

theorem cmp_at (a a' b b' : Int) : ∃ t, pso_Sorted_1.f a a' b b' = some t ∧ (t < 0 ↔ a < b) := by
  unfold pso_Sorted_1.f
  by_cases h : a < b
  · exact ⟨-1, by rw [if_pos h], by omega⟩
  · by_cases h2 : a > b
    · exact ⟨1, by rw [if_neg h, if_pos h2], by omega⟩
    · exact ⟨0, by rw [if_neg h, if_neg h2], by omega⟩
theorem half {x y : Int} (hx : 0 ≤ x) (hy : 0 ≤ y) (h : x + y < 4611686018427387904) : wrap64 (IntKind.u64.wrap (wrap64 (x + y)) / 2) = (x + y) / 2 := by
  rw [wrap_small (x := x + y) (by omega) (by omega)]
  have : IntKind.u64.wrap (x + y) = x + y := by
    simp only [IntKind.wrap]
    first | omega | (simp [IntKind.signed, IntKind.bits]; omega) | (simp; omega)
  rw [this, wrap_small (by omega) (by omega)]

theorem srt_nil : Srt [] := List.Pairwise.nil
theorem srt_one (x : S37) : Srt [x] := List.pairwise_singleton _ _
theorem Srt.left {l m : List S37} (h : Srt (l ++ m)) : Srt l := (List.pairwise_append.1 h).1
theorem Srt.right {l m : List S37} (h : Srt (l ++ m)) : Srt m := (List.pairwise_append.1 h).2.1
theorem Srt.le {l m : List S37} (h : Srt (l ++ m)) {a b : S37} (ha : a ∈ l) (hb : b ∈ m) : a.f0 ≤ b.f0 := (List.pairwise_append.1 h).2.2 a ha b hb

/-! ### Insertion sort -/
theorem ins1 (P R : List S37) (a b i : Int) (ha : a = P.length) : ∀ (n : Nat) (Y Z : List S37) (z : S37) (j : Int), Y.length = n → (P ++ Y ++ z :: Z ++ R).length < 8796093022208 → j = P.length + Y.length → Srt (Y ++ Z) → (∀ q ∈ Z, z.f0 < q.f0) →
    ∃ X, Srt X ∧ Sim (Y ++ z :: Z) X ∧ X.length = Y.length + Z.length + 1 ∧ ∀ r, Ev (fun k => slices_insertionSortCmpFunc__pso_Sorted_1.l0 k (P ++ X ++ R) a b (wrap64 (i + 1))) r → Ev (fun k => slices_insertionSortCmpFunc__pso_Sorted_1.l1 k (P ++ Y ++ z :: Z ++ R) a b i j) r := by
  intro n
  induction n with
  | zero =>
    intro Y Z z j hn hb hj hs hz
    obtain rfl : Y = [] := List.eq_nil_of_length_eq_zero hn
    refine ⟨z :: Z, List.pairwise_cons.2 ⟨fun q hq => by have := hz q hq; omega, hs⟩, Sim.refl _, by simp, fun r hr => ?_⟩
    refine Ev.step (fun k => ?_) hr
    simp only [slices_insertionSortCmpFunc__pso_Sorted_1.l1]
    rw [if_neg (by simp at hj; omega)]
    simp
  | succ n ih =>
    intro Y Z z j hn hb hj hs hz
    rcases List.eq_nil_or_concat Y with rfl | ⟨Y, y, rfl⟩
    · cases hn
    · simp only [List.length_append, List.length_cons, List.length_nil, List.concat_eq_append] at hn hb hj
      simp only [List.concat_eq_append] at hs ⊢
      have e0 : P ++ (Y ++ [y]) ++ z :: Z ++ R = (P ++ Y ++ [y]) ++ z :: (Z ++ R) := by simp
      have e1 : P ++ (Y ++ [y]) ++ z :: Z ++ R = (P ++ Y) ++ y :: (z :: Z ++ R) := by simp
      have w1 : wrap64 (j - 1) = ((P ++ Y).length : Int) := by rw [wrap_small (by omega) (by omega)]; simp; omega
      have r1 : rd_T37 (P ++ (Y ++ [y]) ++ z :: Z ++ R) j = z := by rw [e0]; exact rd_at (by simp; omega)
      have r2 : rd_T37 (P ++ (Y ++ [y]) ++ z :: Z ++ R) ((P ++ Y).length : Int) = y := by rw [e1]; exact rd_at rfl
      obtain ⟨t, ht, htl⟩ := cmp_at z.f0 z.f1 y.f0 y.f1
      by_cases hlt : z.f0 < y.f0
      · have hyZ : ∀ q ∈ Z, y.f0 ≤ q.f0 := fun q hq => hs.le (by simp) hq
        obtain ⟨X, hX1, hX2, hX3, hX4⟩ := ih Y (y :: Z) z (j - 1) (by omega) (by simp; omega) (by omega) (by simpa using hs) (fun q hq => by
          rcases List.mem_cons.1 hq with rfl | hq
          · exact hlt
          · exact hz q hq)
        refine ⟨X, hX1, ?_, by rw [hX3]; simp; omega, fun r hr => ?_⟩
        · refine Sim.trans ?_ hX2
          have h1 : Sim ([y] ++ [z]) ([z] ++ [y]) := Sim.swap (fun a ha b hb => by
            rw [List.mem_singleton.1 ha, List.mem_singleton.1 hb]; omega)
          have h2 := (Sim.refl Y).app (h1.app (Sim.refl Z))
          simpa using h2
        · refine Ev.step (fun k => ?_) (hX4 r hr)
          simp only [slices_insertionSortCmpFunc__pso_Sorted_1.l1]
          rw [if_pos (by omega), if_pos (by omega), if_pos (by simp; omega), w1, if_pos (by omega), if_pos (by simp; omega), r1, r2, ht, Option.bind_some, if_pos (htl.2 hlt), eta, eta]
          congr 1
          · rw [e0, set_at (by simp; omega)]
            have e2 : P ++ Y ++ [y] ++ y :: (Z ++ R) = (P ++ Y) ++ y :: (y :: (Z ++ R)) := by simp
            rw [e2, set_at rfl]
            simp
          · simp; omega
      · refine ⟨Y ++ [y] ++ z :: Z, ?_, by simpa using Sim.refl _, by simp; omega, fun r hr => ?_⟩
        · refine hs.left.app (List.pairwise_cons.2 ⟨fun q hq => by have := hz q hq; omega, hs.right⟩) (fun p hp q hq => ?_)
          have hpy : p.f0 ≤ y.f0 := by
            rcases List.mem_append.1 hp with h | h
            · exact hs.left.le h (by simp)
            · rw [List.mem_singleton.1 h]; omega
          rcases List.mem_cons.1 hq with rfl | hq
          · omega
          · exact hs.le hp hq
        · refine Ev.step (fun k => ?_) hr
          simp only [slices_insertionSortCmpFunc__pso_Sorted_1.l1]
          rw [if_pos (by omega), if_pos (by omega), if_pos (by simp; omega), w1, if_pos (by omega), if_pos (by simp; omega), r1, r2, ht, Option.bind_some, if_neg (fun h => hlt (htl.1 h))]
          simp

theorem ins0 (P R : List S37) (a b : Int) (ha : a = P.length) : ∀ (V X : List S37) (i : Int), (P ++ X ++ V ++ R).length < 8796093022208 → i = P.length + X.length → b = i + V.length → Srt X →
    ∃ Z, Srt Z ∧ Sim (X ++ V) Z ∧ Z.length = X.length + V.length ∧ Ev (fun k => slices_insertionSortCmpFunc__pso_Sorted_1.l0 k (P ++ X ++ V ++ R) a b i) (P ++ Z ++ R)
  | [], X, i, hb, hi, hbi, hs => by
    refine ⟨X, hs, by simpa using Sim.refl _, by simp, Ev.step (f := fun _ => some _) (fun k => ?_) (Ev.now _)⟩
    simp only [slices_insertionSortCmpFunc__pso_Sorted_1.l0]
    rw [if_neg (by simp at hbi; omega)]
    simp
  | v :: V, X, i, hb, hi, hbi, hs => by
    simp only [List.length_append, List.length_cons] at hb hbi
    obtain ⟨X', h1, h2, h3, h4⟩ := ins1 P (V ++ R) a b i ha X.length X [] v i rfl (by simp; omega) hi (by simpa using hs) (fun _ h => by cases h)
    have hi1 : wrap64 (i + 1) = i + 1 := wrap_small (by omega) (by omega)
    obtain ⟨Z, g1, g2, g3, g4⟩ := ins0 P R a b ha V X' (i + 1) (by simp; simp at h3; omega) (by simp at h3; omega) (by omega) h1
    refine ⟨Z, g1, ?_, by simp at h3 ⊢; omega, ?_⟩
    · refine Sim.trans ?_ g2
      have := h2.app (Sim.refl V)
      simpa using this
    · rw [hi1] at h4
      refine Ev.step (fun k => ?_) (h4 _ (by simpa using g4))
      simp only [slices_insertionSortCmpFunc__pso_Sorted_1.l0]
      rw [if_pos (by omega)]
      simp

theorem insertion_ev (P X R : List S37) (a b : Int) (hb : (P ++ X ++ R).length < 8796093022208) (ha : a = P.length) (hbx : b = P.length + X.length) :
    ∃ Z, Srt Z ∧ Sim X Z ∧ Z.length = X.length ∧ Ev (fun k => slices_insertionSortCmpFunc__pso_Sorted_1.f k (P ++ X ++ R) a b) (P ++ Z ++ R) := by
  simp only [List.length_append] at hb
  have hw : wrap64 (a + 1) = a + 1 := wrap_small (by omega) (by omega)
  cases X with
  | nil =>
    refine ⟨[], srt_nil, Sim.refl _, rfl, ?_⟩
    refine Ev.congr (f := fun k => slices_insertionSortCmpFunc__pso_Sorted_1.l0 k (P ++ [] ++ R) a b (a + 1)) (fun k => by simp only [slices_insertionSortCmpFunc__pso_Sorted_1.f, hw]) (Ev.step (f := fun _ => some _) (fun k => ?_) (Ev.now _))
    simp only [slices_insertionSortCmpFunc__pso_Sorted_1.l0]
    rw [if_neg (by simp at hbx; omega)]
  | cons x X =>
    simp only [List.length_cons] at hb hbx
    obtain ⟨Z, h1, h2, h3, h4⟩ := ins0 P R a b ha X [x] (a + 1) (by simp; omega) (by simp; omega) (by omega) (srt_one x)
    refine ⟨Z, h1, by simpa using h2, by simpa [Nat.add_comm] using h3, Ev.congr (fun k => ?_) h4⟩
    simp only [slices_insertionSortCmpFunc__pso_Sorted_1.f, hw]
    simp
end Go.Proofs.Ytgooppfeikijeaa.Pure
