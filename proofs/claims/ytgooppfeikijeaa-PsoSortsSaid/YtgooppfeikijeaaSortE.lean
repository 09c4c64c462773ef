/- The merge in place, whole; the stable sort; the document's merge sort. -/
import Derived.Test.YtgooppfeikijeaaSortD
import Derived.Test.YtgooppfeikijeaaP9
namespace Go.Proofs.Ytgooppfeikijeaa.Pure
open Go.RowKit Go.Proofs.Ytgooppfeikijeaa.P Go.Proofs.YtgooppfeikijeaaW.PrintWords Go.Proofs.YtgooppfeikijeaaW.PrintLast

theorem low_le {X0 E E' Y3 : List S37} (h : Low E E') (hl : E.length = E'.length) (hx : Srt (X0 ++ E)) (hy : Srt (E' ++ Y3)) (h0 : X0 = [] ∨ Y3 = []) : ∀ u ∈ X0 ++ E, ∀ v ∈ E' ++ Y3, u.f0 ≤ v.f0 := by
  intro u hu v hv
  rcases h with rfl | ⟨A1, u0, v0, A2, rfl, rfl, huv⟩
  · obtain rfl : E' = [] := List.eq_nil_of_length_eq_zero hl.symm
    rcases h0 with rfl | rfl
    · cases hu
    · cases hv
  · have h1 : u.f0 ≤ u0.f0 := by
      have h2 : u ∈ (X0 ++ A1) ++ [u0] := by simpa using hu
      have h3 : Srt ((X0 ++ A1) ++ [u0]) := by simpa using hx
      rcases List.mem_append.1 h2 with h | h
      · exact h3.le h (by simp)
      · rw [List.mem_singleton.1 h]; omega
    have h2 : v0.f0 ≤ v.f0 := by
      have h3 : v ∈ v0 :: (A2 ++ Y3) := by simpa using hv
      have h4 : Srt (v0 :: (A2 ++ Y3)) := by simpa using hy
      rcases List.mem_cons.1 h3 with h | h
      · rw [h]; omega
      · exact (List.pairwise_cons.1 h4).1 v h
    omega
theorem high_lt {G X3 Y0 G' : List S37} (h : High G G') (hl : G.length = G'.length) (hx : Srt (G ++ X3)) (hy : Srt (Y0 ++ G')) (h0 : X3 = [] ∨ Y0 = []) : ∀ u ∈ Y0 ++ G', ∀ v ∈ G ++ X3, u.f0 < v.f0 := by
  intro u hu v hv
  rcases h with rfl | ⟨u0, C1, C2, v0, rfl, rfl, huv⟩
  · obtain rfl : G' = [] := List.eq_nil_of_length_eq_zero hl.symm
    rcases h0 with rfl | rfl
    · cases hv
    · cases hu
  · have h1 : u.f0 ≤ v0.f0 := by
      have h2 : u ∈ (Y0 ++ C2) ++ [v0] := by simpa using hu
      have h3 : Srt ((Y0 ++ C2) ++ [v0]) := by simpa using hy
      rcases List.mem_append.1 h2 with h | h
      · exact h3.le h (by simp)
      · rw [List.mem_singleton.1 h]; omega
    have h2 : u0.f0 ≤ v.f0 := by
      have h3 : v ∈ u0 :: (C1 ++ X3) := by simpa using hv
      have h4 : Srt (u0 :: (C1 ++ X3)) := by simpa using hx
      rcases List.mem_cons.1 h3 with h | h
      · rw [h]; omega
      · exact (List.pairwise_cons.1 h4).1 v h
    omega

theorem three {α : Type} (l : List α) (i j : Nat) (h : i + j ≤ l.length) : ∃ A B C, l = A ++ B ++ C ∧ A.length = i ∧ B.length = j :=
  ⟨l.take i, (l.drop i).take j, (l.drop i).drop j, by rw [List.append_assoc, List.take_append_drop, List.take_append_drop], by rw [List.length_take]; omega, by rw [List.length_take, List.length_drop]; omega⟩

theorem merges_all : ∀ n, Merges n := by
  intro n
  induction n with
  | zero => intro P X Y Q a m b h; omega
  | succ n ih =>
    intro P X Y Q a m b hn hb ha hm hbb hX0 hY0 hsx hsy
    simp only [List.length_append] at hb
    by_cases h1 : X.length = 1
    · obtain ⟨x, rfl⟩ := List.length_eq_one_iff.1 h1
      simp only [List.length_cons, List.length_nil] at *
      obtain ⟨Y1, Y2, g1, g2, g3, g4⟩ := sm_l0 P Q x a ha Y.length [] Y [] m b (Nat.le_refl _) (by simp; omega) (by simp; omega) (by omega) (by simpa using hsy) (fun _ h => by cases h) (fun _ h => by cases h)
      simp only [List.nil_append, List.append_nil] at g1 g4
      subst g1
      simp only [List.length_append] at hb hbb hn
      have h5 := sm_l1 (Y2 ++ Q) x (P.length + 1 + Y1.length) Y1 P a (by simp; omega) ha (by omega)
      refine ⟨Y1 ++ x :: Y2, hsy.left.app (List.pairwise_cons.2 ⟨fun q hq => g3 q hq, hsy.right⟩) (fun p hp q hq => ?_), ?_, by simp; omega, ?_⟩
      · rcases List.mem_cons.1 hq with rfl | hq
        · have := g2 p hp; omega
        · exact hsy.le hp hq
      · have h6 : Sim ([x] ++ Y1) (Y1 ++ [x]) := Sim.swap (fun p hp q hq => by rw [List.mem_singleton.1 hp]; have := g2 q hq; omega)
        simpa using h6.app (Sim.refl Y2)
      · have h7 := g4 _ (by simpa using h5)
        refine Ev.step (fun k => ?_) (by simpa using h7)
        simp only [slices_symMergeCmpFunc__pso_Sorted_1.f]
        rw [wrap_small (x := m - a) (by omega) (by omega), if_pos (by omega)]
        simp
    · by_cases h2 : Y.length = 1
      · obtain ⟨y, rfl⟩ := List.length_eq_one_iff.1 h2
        simp only [List.length_cons, List.length_nil] at *
        obtain ⟨X1, X2, g1, g2, g3, g4⟩ := sm_l2 P Q y m X.length [] X [] a m (Nat.le_refl _) (by simp; omega) (by simp; omega) (by simp; omega) (by omega) (by simpa using hsx) (fun _ h => by cases h) (fun _ h => by cases h)
        simp only [List.nil_append, List.append_nil] at g1 g4
        subst g1
        simp only [List.length_append] at hb hbb hn hm h1
        have h5 := sm_l3 (P ++ X1) y (P.length + X1.length) (by simp) X2.length X2 Q m rfl (by simp; omega) (by simp; omega)
        refine ⟨X1 ++ y :: X2, hsx.left.app (List.pairwise_cons.2 ⟨fun q hq => by have := g3 q hq; omega, hsx.right⟩) (fun p hp q hq => ?_), ?_, by simp; omega, ?_⟩
        · rcases List.mem_cons.1 hq with rfl | hq
          · exact g2 p hp
          · exact hsx.le hp hq
        · have h6 : Sim (X2 ++ [y]) ([y] ++ X2) := Sim.swap (fun p hp q hq => by rw [List.mem_singleton.1 hq]; have := g3 p hp; omega)
          simpa using (Sim.refl X1).app h6
        · have h7 := g4 _ (by simpa using h5)
          refine Ev.step (fun k => ?_) (by simpa using h7)
          simp only [slices_symMergeCmpFunc__pso_Sorted_1.f]
          rw [wrap_small (x := m - a) (by omega) (by omega), if_neg (by omega), wrap_small (x := b - m) (by omega) (by omega), if_pos (by omega)]
          simp
      · have hh : wrap64 (IntKind.u64.wrap (wrap64 (a + b)) / 2) = (a + b) / 2 := half (by omega) (by omega) (by omega)
        by_cases h3 : m > (a + b) / 2
        · obtain ⟨X0, XX, X3, rfl, hl0, hl1⟩ := three X ((a + b) / 2 + m - b - a).toNat Y.length (by omega)
          simp only [List.length_append] at hb hn hm hbb h1
          obtain ⟨E, G, E', G', g1, g2, g3, g4, g5, g6, g7⟩ := sm_l4 P Q X0 X3 [] [] a m b ((a + b) / 2) ((a + b) / 2 + m) ((a + b) / 2 + m - 1) XX.length [] XX [] [] Y [] ((a + b) / 2 + m - b) ((a + b) / 2) (Nat.le_refl _) rfl hl1 rfl (by simp; omega) (by simp; omega) (by simp; omega) rfl rfl (by simp; omega) (by omega) (.inl rfl) (.inl rfl)
          simp only [List.nil_append, List.append_nil] at g1 g2 g7
          subst g1 g2
          simp only [List.length_append] at hb hn hm hbb h1 hl1 h2
          obtain ⟨Z, z1, z2, z3, z4⟩ := sm_rest ih P (X0 ++ E) (G ++ X3) G' E' Q a m b ((a + b) / 2) (P.length + X0.length + E.length) ((a + b) / 2 + m - (P.length + X0.length + E.length)) (by simp; omega) (by simp; omega) (by simp; omega) ha (by simp; omega) (by simp; omega) (by simp; omega) (by simp; omega) (by simp; omega) (by simpa using hsx) hsy
            (low_le g5 g3 (by have h : Srt ((X0 ++ E) ++ (G ++ X3)) := by simpa using hsx
                              exact h.left) (by simpa using hsy.right) (.inr rfl) |> fun h => by simpa using h)
            (high_lt g6 g4 (by have h : Srt ((X0 ++ E) ++ (G ++ X3)) := by simpa using hsx
                               exact h.right) (by simpa using hsy.left) (.inr rfl) |> fun h => by simpa using h)
          refine ⟨Z, z1, by simpa using z2, by simp at z3 ⊢; omega, ?_⟩
          have h7 := g7 (P ++ Z ++ Q) (by simpa using z4)
          refine Ev.step (fun k => ?_) (Ev.step (fun k => ?_) h7 : Ev (fun k => slices_symMergeCmpFunc__pso_Sorted_1.j4 k (P ++ (X0 ++ (E ++ G) ++ X3) ++ (G' ++ E') ++ Q) a m b ((a + b) / 2) ((a + b) / 2 + m) ((a + b) / 2 + m - b) ((a + b) / 2)) _)
          · simp only [slices_symMergeCmpFunc__pso_Sorted_1.f]
            rw [wrap_small (x := m - a) (by omega) (by omega), if_neg (by omega), wrap_small (x := b - m) (by omega) (by omega), if_neg (by omega), hh, if_pos h3, wrap_small (x := (a + b) / 2 + m) (by omega) (by omega), wrap_small (x := (a + b) / 2 + m - b) (by omega) (by omega)]
          · simp only [slices_symMergeCmpFunc__pso_Sorted_1.j4]
            rw [wrap_small (x := (a + b) / 2 + m - 1) (by omega) (by omega)]
        · obtain ⟨Y0, YY, Y3, rfl, hl0, hl1⟩ := three Y ((a + b) / 2 - m).toNat X.length (by omega)
          simp only [List.length_append] at hb hn hm hbb h2
          obtain ⟨E, G, E', G', g1, g2, g3, g4, g5, g6, g7⟩ := sm_l4 P Q [] [] Y0 Y3 a m b ((a + b) / 2) ((a + b) / 2 + m) ((a + b) / 2 + m - 1) X.length [] X [] [] YY [] a m (Nat.le_refl _) rfl hl1.symm rfl (by simp; omega) (by simp; omega) (by simp; omega) rfl rfl (by simp; omega) (by omega) (.inl rfl) (.inl rfl)
          simp only [List.nil_append, List.append_nil, List.length_nil] at g1 g2 g7
          subst g1 g2
          simp only [List.length_append] at hb hn hm hbb h1 hl1 h2
          obtain ⟨Z, z1, z2, z3, z4⟩ := sm_rest ih P E G (Y0 ++ G') (E' ++ Y3) Q a m b ((a + b) / 2) (P.length + (0 : Nat) + E.length) ((a + b) / 2 + m - (P.length + (0 : Nat) + E.length)) (by simp; omega) (by simp; omega) (by simp; omega) ha (by simp) (by omega) (by simp; omega) (by simp; omega) (by simp; omega) hsx (by simpa using hsy)
            (low_le (X0 := []) g5 g3 (by simpa using hsx.left) (by have h : Srt ((Y0 ++ G') ++ (E' ++ Y3)) := by simpa using hsy
                                                                   exact h.right) (.inl rfl) |> fun h => by simpa using h)
            (high_lt (X3 := []) g6 g4 (by simpa using hsx.right) (by have h : Srt ((Y0 ++ G') ++ (E' ++ Y3)) := by simpa using hsy
                                                                     exact h.left) (.inl rfl) |> fun h => by simpa using h)
          refine ⟨Z, z1, by simpa using z2, by simp at z3 ⊢; omega, ?_⟩
          have h7 := g7 (P ++ Z ++ Q) (by simpa using z4)
          refine Ev.step (fun k => ?_) (Ev.step (fun k => ?_) h7 : Ev (fun k => slices_symMergeCmpFunc__pso_Sorted_1.j4 k (P ++ (E ++ G) ++ (Y0 ++ (G' ++ E') ++ Y3) ++ Q) a m b ((a + b) / 2) ((a + b) / 2 + m) a m) _)
          · simp only [slices_symMergeCmpFunc__pso_Sorted_1.f]
            rw [wrap_small (x := m - a) (by omega) (by omega), if_neg (by omega), wrap_small (x := b - m) (by omega) (by omega), if_neg (by omega), hh, if_neg h3, wrap_small (x := (a + b) / 2 + m) (by omega) (by omega)]
          · simp only [slices_symMergeCmpFunc__pso_Sorted_1.j4]
            rw [wrap_small (x := (a + b) / 2 + m - 1) (by omega) (by omega)]
theorem symMerge_ev (P X Y Q : List S37) (a m b : Int) (hb : (P ++ X ++ Y ++ Q).length < 8796093022208) (ha : a = P.length) (hm : m = P.length + X.length) (hbb : b = P.length + X.length + Y.length) (hX : 0 < X.length) (hY : 0 < Y.length) (hsx : Srt X) (hsy : Srt Y) :
    ∃ Z, Srt Z ∧ Sim (X ++ Y) Z ∧ Z.length = X.length + Y.length ∧ Ev (fun k => slices_symMergeCmpFunc__pso_Sorted_1.f k (P ++ X ++ Y ++ Q) a m b) (P ++ Z ++ Q) :=
  merges_all _ P X Y Q a m b (Nat.le_refl _) hb ha hm hbb hX hY hsx hsy
end Go.Proofs.Ytgooppfeikijeaa.Pure
