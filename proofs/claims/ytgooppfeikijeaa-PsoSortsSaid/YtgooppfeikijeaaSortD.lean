/- The merge in place: the search from both sides, and the whole. -/
import Derived.Test.YtgooppfeikijeaaSortC
namespace Go.Proofs.Ytgooppfeikijeaa.Pure
open Go.RowKit Go.Proofs.Ytgooppfeikijeaa.P Go.Proofs.YtgooppfeikijeaaW.PrintWords Go.Proofs.YtgooppfeikijeaaW.PrintLast

def Low (A A' : List S37) : Prop := A = [] ∨ ∃ A1 u v A2, A = A1 ++ [u] ∧ A' = v :: A2 ∧ u.f0 ≤ v.f0
def High (C C' : List S37) : Prop := C = [] ∨ ∃ u C1 C2 v, C = u :: C1 ∧ C' = C2 ++ [v] ∧ v.f0 < u.f0

theorem sm_l4 (P Q X0 X3 Y0 Y3 : List S37) (a m b mid n p : Int) : ∀ (z : Nat) (A B C A' B' C' : List S37) (s r : Int), B.length ≤ z → A.length = A'.length → B.length = B'.length → C.length = C'.length →
    (P ++ (X0 ++ (A ++ B ++ C) ++ X3) ++ (Y0 ++ (C' ++ B' ++ A') ++ Y3) ++ Q).length < 8796093022208 → m = P.length + (X0 ++ (A ++ B ++ C) ++ X3).length → mid = P.length + X0.length + (A ++ B ++ C).length + Y0.length → n = mid + m → p = n - 1 → s = P.length + X0.length + A.length → r = s + B.length →
    Low A A' → High C C' → ∃ E G E' G', A ++ B ++ C = E ++ G ∧ C' ++ B' ++ A' = G' ++ E' ∧ E.length = E'.length ∧ G.length = G'.length ∧ Low E E' ∧ High G G' ∧
      ∀ o, Ev (fun k => if ((P.length : Int) + X0.length + E.length) < m then slices_symMergeCmpFunc__pso_Sorted_1.j6 k (P ++ (X0 ++ (A ++ B ++ C) ++ X3) ++ (Y0 ++ (C' ++ B' ++ A') ++ Y3) ++ Q) a m b mid (P.length + X0.length + E.length) (n - (P.length + X0.length + E.length)) (decide (m < n - (P.length + X0.length + E.length))) else slices_symMergeCmpFunc__pso_Sorted_1.j6 k (P ++ (X0 ++ (A ++ B ++ C) ++ X3) ++ (Y0 ++ (C' ++ B' ++ A') ++ Y3) ++ Q) a m b mid (P.length + X0.length + E.length) (n - (P.length + X0.length + E.length)) false) o →
        Ev (fun k => slices_symMergeCmpFunc__pso_Sorted_1.l4 k (P ++ (X0 ++ (A ++ B ++ C) ++ X3) ++ (Y0 ++ (C' ++ B' ++ A') ++ Y3) ++ Q) a m b mid n s r p) o := by
  intro z
  induction z with
  | zero =>
    intro A B C A' B' C' s r hz h1 h2 h3 hb hm hmid hn hp hs hr hlo hhi
    obtain rfl : B = [] := List.eq_nil_of_length_eq_zero (by omega)
    obtain rfl : B' = [] := List.eq_nil_of_length_eq_zero h2.symm
    refine ⟨A, C, A', C', by simp, by simp, h1, h3, hlo, hhi, fun o ho => Ev.step (fun k => ?_) ho⟩
    simp at hb hm hmid hr
    simp only [slices_symMergeCmpFunc__pso_Sorted_1.l4]
    rw [if_neg (by omega), hs, wrap_small (x := n - _) (by omega) (by omega)]
  | succ z ih =>
    intro A B C A' B' C' s r hz h1 h2 h3 hb hm hmid hn hp hs hr hlo hhi
    by_cases hB : B.length = 0
    · obtain rfl : B = [] := List.eq_nil_of_length_eq_zero hB
      obtain rfl : B' = [] := List.eq_nil_of_length_eq_zero h2.symm
      refine ⟨A, C, A', C', by simp, by simp, h1, h3, hlo, hhi, fun o ho => Ev.step (fun k => ?_) ho⟩
      simp at hb hm hmid hr
      simp only [slices_symMergeCmpFunc__pso_Sorted_1.l4]
      rw [if_neg (by omega), hs, wrap_small (x := n - _) (by omega) (by omega)]
    · simp only [List.length_append] at hb hm hmid
      obtain ⟨B1, q, B2, rfl, hl⟩ := split_at B (((s + r) / 2 - s).toNat) (by omega)
      simp only [List.length_append, List.length_cons] at hb hm hmid hr hz hB h2
      obtain ⟨D1, q', D2, rfl, hl'⟩ := split_at B' B2.length (by omega)
      simp only [List.length_append, List.length_cons] at hb h2
      have hh : wrap64 (IntKind.u64.wrap (wrap64 (s + r)) / 2) = (s + r) / 2 := half (by omega) (by omega) (by omega)
      have hc : (s + r) / 2 = P.length + X0.length + A.length + B1.length := by omega
      have e0 : P ++ (X0 ++ (A ++ (B1 ++ q :: B2) ++ C) ++ X3) ++ (Y0 ++ (C' ++ (D1 ++ q' :: D2) ++ A') ++ Y3) ++ Q = (P ++ X0 ++ A ++ B1) ++ q :: (B2 ++ C ++ X3 ++ (Y0 ++ (C' ++ (D1 ++ q' :: D2) ++ A') ++ Y3) ++ Q) := by simp
      have e1 : P ++ (X0 ++ (A ++ (B1 ++ q :: B2) ++ C) ++ X3) ++ (Y0 ++ (C' ++ (D1 ++ q' :: D2) ++ A') ++ Y3) ++ Q = (P ++ (X0 ++ (A ++ (B1 ++ q :: B2) ++ C) ++ X3) ++ Y0 ++ C' ++ D1) ++ q' :: (D2 ++ A' ++ Y3 ++ Q) := by simp
      have r0 : rd_T37 (P ++ (X0 ++ (A ++ (B1 ++ q :: B2) ++ C) ++ X3) ++ (Y0 ++ (C' ++ (D1 ++ q' :: D2) ++ A') ++ Y3) ++ Q) ((s + r) / 2) = q := by rw [e0]; exact rd_at (by simp; omega)
      have r1 : rd_T37 (P ++ (X0 ++ (A ++ (B1 ++ q :: B2) ++ C) ++ X3) ++ (Y0 ++ (C' ++ (D1 ++ q' :: D2) ++ A') ++ Y3) ++ Q) (p - (s + r) / 2) = q' := by rw [e1]; exact rd_at (by simp; omega)
      have w0 : wrap64 (p - (s + r) / 2) = p - (s + r) / 2 := wrap_small (by omega) (by omega)
      obtain ⟨t, ht, htl⟩ := cmp_at q'.f0 q'.f1 q.f0 q.f1
      by_cases hlt : q'.f0 < q.f0
      · obtain ⟨E, G, E', G', g1, g2, g3, g4, g5, g6, g7⟩ := ih A B1 (q :: B2 ++ C) A' D2 (C' ++ D1 ++ [q']) s ((s + r) / 2) (by omega) h1 (by omega) (by simp; omega) (by simp; omega) (by simp; omega) (by simp; omega) hn hp hs (by omega) hlo
          (.inr ⟨q, B2 ++ C, C' ++ D1, q', by simp, by simp, hlt⟩)
        have e2 : A ++ (B1 ++ q :: B2) ++ C = A ++ B1 ++ (q :: B2 ++ C) := by simp
        have e3 : C' ++ (D1 ++ q' :: D2) ++ A' = C' ++ D1 ++ [q'] ++ D2 ++ A' := by simp
        rw [← e2, ← e3] at g7
        refine ⟨E, G, E', G', by rw [e2, g1], by rw [e3, g2], g3, g4, g5, g6, fun o ho => Ev.step (fun k => ?_) (g7 o ho)⟩
        simp only [slices_symMergeCmpFunc__pso_Sorted_1.l4]
        rw [if_pos (by omega), hh, w0, if_pos (by omega), if_pos (by simp; omega), if_pos (by omega), if_pos (by simp; omega), r0, r1, ht, Option.bind_some, if_pos (htl.2 hlt)]
      · obtain ⟨E, G, E', G', g1, g2, g3, g4, g5, g6, g7⟩ := ih (A ++ B1 ++ [q]) B2 C (q' :: D2 ++ A') D1 C' ((s + r) / 2 + 1) r (by omega) (by simp; omega) (by omega) h3 (by simp; omega) (by simp; omega) (by simp; omega) hn hp (by simp; omega) (by omega)
          (.inr ⟨A ++ B1, q, q', D2 ++ A', by simp, by simp, by omega⟩) hhi
        have e2 : A ++ (B1 ++ q :: B2) ++ C = A ++ B1 ++ [q] ++ B2 ++ C := by simp
        have e3 : C' ++ (D1 ++ q' :: D2) ++ A' = C' ++ D1 ++ (q' :: D2 ++ A') := by simp
        rw [← e2, ← e3] at g7
        refine ⟨E, G, E', G', by rw [e2, g1], by rw [e3, g2], g3, g4, g5, g6, fun o ho => Ev.step (fun k => ?_) (g7 o ho)⟩
        simp only [slices_symMergeCmpFunc__pso_Sorted_1.l4]
        rw [if_pos (by omega), hh, w0, if_pos (by omega), if_pos (by simp; omega), if_pos (by omega), if_pos (by simp; omega), r0, r1, ht, Option.bind_some, if_neg (fun h => hlt (htl.1 h)), wrap_small (x := (s + r) / 2 + 1) (by omega) (by omega)]

def Merges (n : Nat) : Prop := ∀ (P X Y Q : List S37) (a m b : Int), X.length + Y.length ≤ n → (P ++ X ++ Y ++ Q).length < 8796093022208 → a = P.length → m = P.length + X.length → b = P.length + X.length + Y.length → 0 < X.length → 0 < Y.length → Srt X → Srt Y →
  ∃ Z, Srt Z ∧ Sim (X ++ Y) Z ∧ Z.length = X.length + Y.length ∧ Ev (fun k => slices_symMergeCmpFunc__pso_Sorted_1.f k (P ++ X ++ Y ++ Q) a m b) (P ++ Z ++ Q)

/-- From the split on: the rotation, then both halves. -/
theorem sm_rest {n : Nat} (hM : Merges n) (P X1 X2 Y1 Y2 Q : List S37) (a m b mid s e : Int) (hn : X1.length + Y1.length ≤ n) (hn2 : X2.length + Y2.length ≤ n) (hb : (P ++ X1 ++ X2 ++ Y1 ++ Y2 ++ Q).length < 8796093022208) (ha : a = P.length) (hs : s = P.length + X1.length) (hm : m = P.length + X1.length + X2.length)
    (hmid : mid = P.length + X1.length + Y1.length) (he : e = P.length + X1.length + X2.length + Y1.length) (hbb : b = P.length + X1.length + X2.length + Y1.length + Y2.length) (hX : Srt (X1 ++ X2)) (hY : Srt (Y1 ++ Y2))
    (h12 : ∀ u ∈ X1, ∀ v ∈ Y2, u.f0 ≤ v.f0) (h21 : ∀ u ∈ Y1, ∀ v ∈ X2, u.f0 < v.f0) :
    ∃ Z, Srt Z ∧ Sim (X1 ++ X2 ++ (Y1 ++ Y2)) Z ∧ Z.length = X1.length + X2.length + Y1.length + Y2.length ∧
      Ev (fun k => if s < m then slices_symMergeCmpFunc__pso_Sorted_1.j6 k (P ++ X1 ++ X2 ++ Y1 ++ Y2 ++ Q) a m b mid s e (decide (m < e)) else slices_symMergeCmpFunc__pso_Sorted_1.j6 k (P ++ X1 ++ X2 ++ Y1 ++ Y2 ++ Q) a m b mid s e false) (P ++ Z ++ Q) := by
  simp only [List.length_append] at hb
  -- the halves
  have hz1 : ∃ Z1, Srt Z1 ∧ Sim (X1 ++ Y1) Z1 ∧ Z1.length = X1.length + Y1.length ∧ (X1.length = 0 ∨ Y1.length = 0 → Z1 = X1 ++ Y1) ∧
      (0 < X1.length → 0 < Y1.length → Ev (fun k => slices_symMergeCmpFunc__pso_Sorted_1.f k (P ++ X1 ++ Y1 ++ X2 ++ Y2 ++ Q) a s mid) (P ++ Z1 ++ X2 ++ Y2 ++ Q)) := by
    by_cases h : 0 < X1.length ∧ 0 < Y1.length
    · obtain ⟨Z1, g1, g2, g3, g4⟩ := hM P X1 Y1 (X2 ++ Y2 ++ Q) a s mid hn (by simp; omega) ha hs hmid h.1 h.2 hX.left hY.left
      exact ⟨Z1, g1, g2, g3, fun h' => absurd h' (by omega), fun _ _ => by simpa using g4⟩
    · refine ⟨X1 ++ Y1, ?_, Sim.refl _, by simp, fun _ => rfl, fun h1 h2 => absurd ⟨h1, h2⟩ h⟩
      rcases Nat.eq_zero_or_pos X1.length with h1 | h1
      · rw [List.eq_nil_of_length_eq_zero h1]; simpa using hY.left
      · rw [List.eq_nil_of_length_eq_zero (l := Y1) (by omega)]; simpa using hX.left
  obtain ⟨Z1, a1, a2, a3, a4, a5⟩ := hz1
  have hz2 : ∃ Z2, Srt Z2 ∧ Sim (X2 ++ Y2) Z2 ∧ Z2.length = X2.length + Y2.length ∧ (X2.length = 0 ∨ Y2.length = 0 → Z2 = X2 ++ Y2) ∧
      (0 < X2.length → 0 < Y2.length → Ev (fun k => slices_symMergeCmpFunc__pso_Sorted_1.f k (P ++ Z1 ++ X2 ++ Y2 ++ Q) mid e b) (P ++ Z1 ++ Z2 ++ Q)) := by
    by_cases h : 0 < X2.length ∧ 0 < Y2.length
    · obtain ⟨Z2, g1, g2, g3, g4⟩ := hM (P ++ Z1) X2 Y2 Q mid e b hn2 (by simp; omega) (by simp; omega) (by simp; omega) (by simp; omega) h.1 h.2 hX.right hY.right
      exact ⟨Z2, g1, g2, g3, fun h' => absurd h' (by omega), fun _ _ => by simpa using g4⟩
    · refine ⟨X2 ++ Y2, ?_, Sim.refl _, by simp, fun _ => rfl, fun h1 h2 => absurd ⟨h1, h2⟩ h⟩
      rcases Nat.eq_zero_or_pos X2.length with h1 | h1
      · rw [List.eq_nil_of_length_eq_zero h1]; simpa using hY.right
      · rw [List.eq_nil_of_length_eq_zero (l := Y2) (by omega)]; simpa using hX.right
  obtain ⟨Z2, b1, b2, b3, b4, b5⟩ := hz2
  refine ⟨Z1 ++ Z2, a1.app b1 (fun u hu v hv => ?_), ?_, by simp; omega, ?_⟩
  · have hu' := (a2.mem u).2 hu
    have hv' := (b2.mem v).2 hv
    rcases List.mem_append.1 hu' with h | h <;> rcases List.mem_append.1 hv' with h' | h'
    · exact hX.le h h'
    · exact h12 u h v h'
    · have := h21 u h v h'; omega
    · exact hY.le h h'
  · have h1 : Sim (X2 ++ Y1) (Y1 ++ X2) := Sim.swap (fun u hu v hv => by have := h21 v hv u hu; omega)
    have h2 := ((Sim.refl X1).app h1).app (Sim.refl Y2)
    have h3 := a2.app b2
    refine Sim.trans ?_ h3
    simpa using h2
  · -- the code
    have tail : Ev (fun k => if mid < e then (if e < b then ((slices_symMergeCmpFunc__pso_Sorted_1.f k (P ++ Z1 ++ X2 ++ Y2 ++ Q) mid e b).bind fun t => some t) else some (P ++ Z1 ++ X2 ++ Y2 ++ Q)) else some (P ++ Z1 ++ X2 ++ Y2 ++ Q)) (P ++ (Z1 ++ Z2) ++ Q) := by
      by_cases h : mid < e
      · by_cases h' : e < b
        · refine Ev.congr (fun k => ?_) (Ev.bind (b5 (by omega) (by omega)) (f := fun _ t => some t) (by simpa using Ev.now (P ++ (Z1 ++ Z2) ++ Q)))
          rw [if_pos h, if_pos h']
        · have := b4 (.inr (by omega))
          refine Ev.congr (f := fun _ => some (P ++ (Z1 ++ Z2) ++ Q)) (fun k => ?_) (Ev.now _)
          rw [if_pos h, if_neg h', this]
          simp
      · have := b4 (.inl (by omega))
        refine Ev.congr (f := fun _ => some (P ++ (Z1 ++ Z2) ++ Q)) (fun k => ?_) (Ev.now _)
        rw [if_neg h, this]
        simp
    have e8 : ∀ fl : Bool, (fl = true ↔ a < s ∧ s < mid) → Ev (fun k => slices_symMergeCmpFunc__pso_Sorted_1.j8 k (P ++ X1 ++ Y1 ++ X2 ++ Y2 ++ Q) a b mid s e fl) (P ++ (Z1 ++ Z2) ++ Q) := by
      intro fl hfl
      by_cases h : fl = true
      · have h' := hfl.1 h
        refine Ev.step (fun k => ?_) (Ev.bind (a5 (by omega) (by omega)) (f := fun k t => if mid < e then (if e < b then ((slices_symMergeCmpFunc__pso_Sorted_1.f k t mid e b).bind fun t => some t) else some t) else some t) tail)
        simp only [slices_symMergeCmpFunc__pso_Sorted_1.j8]
        rw [if_pos h]
      · have h0 : Z1 = X1 ++ Y1 := a4 (by
          have : ¬ (a < s ∧ s < mid) := fun hh => h (hfl.2 hh)
          omega)
        have t2 := tail
        rw [h0] at t2
        refine Ev.step (fun k => ?_) (by rw [h0]; simpa using t2)
        simp only [slices_symMergeCmpFunc__pso_Sorted_1.j8]
        rw [if_neg h]
        simp
    have e7 : Ev (fun k => slices_symMergeCmpFunc__pso_Sorted_1.j7 k (P ++ X1 ++ Y1 ++ X2 ++ Y2 ++ Q) a b mid s e) (P ++ (Z1 ++ Z2) ++ Q) := by
      by_cases h : a < s
      · refine Ev.step (fun k => ?_) (e8 (decide (s < mid)) (by simp [h]))
        simp only [slices_symMergeCmpFunc__pso_Sorted_1.j7]
        rw [if_pos h]
      · refine Ev.step (fun k => ?_) (e8 false (by simp [h]))
        simp only [slices_symMergeCmpFunc__pso_Sorted_1.j7]
        rw [if_neg h]
    have e6 : ∀ fl : Bool, (fl = true ↔ s < m ∧ m < e) → Ev (fun k => slices_symMergeCmpFunc__pso_Sorted_1.j6 k (P ++ X1 ++ X2 ++ Y1 ++ Y2 ++ Q) a m b mid s e fl) (P ++ (Z1 ++ Z2) ++ Q) := by
      intro fl hfl
      by_cases h : fl = true
      · have h' := hfl.1 h
        have hr := rotate_ev m (X2.length + Y1.length) (P ++ X1) X2 Y1 (Y2 ++ Q) (m - s) (e - m) (Nat.le_refl _) (by simp; omega) (by omega) (by omega) (by simp; omega) (by omega) (by omega)
        have hr2 : Ev (fun k => slices_rotateCmpFunc__pso_Sorted_1.f k (P ++ X1 ++ X2 ++ Y1 ++ Y2 ++ Q) s m e) (P ++ X1 ++ Y1 ++ X2 ++ Y2 ++ Q) := by
          refine Ev.congr (fun k => ?_) (by simpa using hr)
          simp only [slices_rotateCmpFunc__pso_Sorted_1.f]
          rw [wrap_small (x := m - s) (by omega) (by omega), wrap_small (x := e - m) (by omega) (by omega)]
          simp
        refine Ev.step (fun k => ?_) (Ev.bind hr2 (f := fun k t => slices_symMergeCmpFunc__pso_Sorted_1.j7 k t a b mid s e) e7)
        simp only [slices_symMergeCmpFunc__pso_Sorted_1.j6]
        rw [if_pos h]
      · have h0 : X2.length = 0 ∨ Y1.length = 0 := by
          have : ¬ (s < m ∧ m < e) := fun hh => h (hfl.2 hh)
          omega
        have h1 : P ++ X1 ++ X2 ++ Y1 ++ Y2 ++ Q = P ++ X1 ++ Y1 ++ X2 ++ Y2 ++ Q := by
          rcases h0 with h0 | h0
          · rw [List.eq_nil_of_length_eq_zero h0]; simp
          · rw [List.eq_nil_of_length_eq_zero h0]; simp
        refine Ev.step (fun k => ?_) e7
        simp only [slices_symMergeCmpFunc__pso_Sorted_1.j6]
        rw [if_neg h, h1]
    by_cases h : s < m
    · refine Ev.congr (fun k => ?_) (e6 (decide (m < e)) (by simp [h]))
      rw [if_pos h]
    · refine Ev.congr (fun k => ?_) (e6 false (by simp [h]))
      rw [if_neg h]
end Go.Proofs.Ytgooppfeikijeaa.Pure
