/- The stable sort by passes, and the document's merge sort: one answer. -/
import Derived.Test.YtgooppfeikijeaaSortE
namespace Go.Proofs.Ytgooppfeikijeaa.Pure
open Go.RowKit Go.Proofs.Ytgooppfeikijeaa.P Go.Proofs.YtgooppfeikijeaaW.PrintWords Go.Proofs.YtgooppfeikijeaaW.PrintLast

def Blocks (s : Nat) (D : List (List S37)) : Prop := ∀ X ∈ D, X.length = s ∧ Srt X
theorem Blocks.snoc {s : Nat} {D : List (List S37)} {X : List S37} (h : Blocks s D) (h1 : X.length = s) (h2 : Srt X) : Blocks s (D ++ [X]) := fun Y hY => by
  rcases List.mem_append.1 hY with h3 | h3
  · exact h Y h3
  · rw [List.mem_singleton.1 h3]; exact ⟨h1, h2⟩
theorem blocks_nil (s : Nat) : Blocks s [] := fun _ h => by cases h

/-- The first pass: blocks of 20. -/
theorem pass0 (n : Int) : ∀ (d : Nat) (E : List (List S37)) (R : List S37) (x7 : Int), R.length ≤ d → (E.flatten ++ R).length < 8796093022208 → n = E.flatten.length + R.length → x7 = E.flatten.length → Blocks 20 E →
    ∃ E' Z, Blocks 20 E' ∧ Srt Z ∧ Z.length ≤ 20 ∧ Sim (E.flatten ++ R) (E'.flatten ++ Z) ∧ (E'.flatten ++ Z).length = (E.flatten ++ R).length ∧
      ∀ o, Ev (fun k => slices_stableCmpFunc__pso_Sorted_1.l1 k (E'.flatten ++ Z) n 20) o → Ev (fun k => slices_stableCmpFunc__pso_Sorted_1.l0 k (E.flatten ++ R) n 20 x7 (x7 + 20)) o := by
  intro d
  induction d with
  | zero =>
    intro E R x7 hd hb hn hx hE
    obtain rfl : R = [] := List.eq_nil_of_length_eq_zero (by omega)
    simp only [List.length_append, List.length_nil] at hb hn
    obtain ⟨Z, z1, z2, z3, z4⟩ := insertion_ev E.flatten [] [] x7 n (by simp [-List.length_flatten]; omega) hx (by simp [-List.length_flatten]; omega)
    obtain rfl : Z = [] := List.eq_nil_of_length_eq_zero z3
    refine ⟨E, [], hE, srt_nil, by simp, Sim.refl _, rfl, fun o ho => ?_⟩
    refine Ev.step (fun k => ?_) (Ev.bind z4 (f := fun k t => slices_stableCmpFunc__pso_Sorted_1.l1 k t n 20) (by simpa using ho))
    simp only [slices_stableCmpFunc__pso_Sorted_1.l0]
    rw [if_neg (by omega)]
    simp
  | succ d ih =>
    intro E R x7 hd hb hn hx hE
    simp only [List.length_append] at hb
    by_cases h : x7 + 20 ≤ n
    · obtain ⟨X0, X, R', rfl, hl0, hl1⟩ := three R 0 20 (by omega)
      obtain rfl : X0 = [] := List.eq_nil_of_length_eq_zero hl0
      simp only [List.nil_append, List.length_append] at hb hn hd ⊢
      obtain ⟨Z, z1, z2, z3, z4⟩ := insertion_ev E.flatten X R' x7 (x7 + 20) (by simp [-List.length_flatten]; omega) hx (by omega)
      have hf : (E ++ [Z]).flatten = E.flatten ++ Z := by simp
      obtain ⟨E', Z', g1, g2, g3, g4, g5, g6⟩ := ih (E ++ [Z]) R' (x7 + 20) (by omega) (by rw [hf]; simp [-List.length_flatten]; omega) (by rw [hf]; simp [-List.length_flatten]; omega) (by rw [hf]; simp [-List.length_flatten]; omega) (hE.snoc (by omega) z1)
      rw [hf] at g4 g5 g6
      refine ⟨E', Z', g1, g2, g3, ?_, by simp [-List.length_flatten] at g5 ⊢; omega, fun o ho => ?_⟩
      · refine Sim.trans ?_ g4
        have := ((Sim.refl E.flatten).app z2).app (Sim.refl R')
        simpa using this
      · have hw : wrap64 (x7 + 20 + 20) = x7 + 20 + 20 := wrap_small (by omega) (by omega)
        refine Ev.step (fun k => ?_) (Ev.bind z4 (f := fun k t => slices_stableCmpFunc__pso_Sorted_1.l0 k t n 20 (x7 + 20) (x7 + 20 + 20)) (g6 o ho))
        simp only [slices_stableCmpFunc__pso_Sorted_1.l0]
        rw [if_pos h, hw]
        simp
    · obtain ⟨Z, z1, z2, z3, z4⟩ := insertion_ev E.flatten R [] x7 n (by simp [-List.length_flatten]; omega) hx (by omega)
      refine ⟨E, Z, hE, z1, by omega, (Sim.refl _).app z2, by simp [-List.length_flatten]; omega, fun o ho => ?_⟩
      refine Ev.step (fun k => ?_) (Ev.bind z4 (f := fun k t => slices_stableCmpFunc__pso_Sorted_1.l1 k t n 20) (by simpa using ho))
      simp only [slices_stableCmpFunc__pso_Sorted_1.l0]
      rw [if_neg h]
      simp

/-- One pass that joins blocks of s, two and two. -/
theorem pass1 (n : Int) (s : Nat) (hs : 0 < s) (hsn : (s : Int) < n) : ∀ (d : Nat) (E D : List (List S37)) (Z : List S37) (x7 : Int), D.length ≤ d → (E.flatten ++ D.flatten ++ Z).length < 8796093022208 → n = (E.flatten ++ D.flatten ++ Z).length → x7 = E.flatten.length → Blocks (2 * s) E → Blocks s D → Srt Z → Z.length ≤ s →
    ∃ E' Z', Blocks (2 * s) E' ∧ Srt Z' ∧ Z'.length ≤ 2 * s ∧ Sim (E.flatten ++ D.flatten ++ Z) (E'.flatten ++ Z') ∧ (E'.flatten ++ Z').length = (E.flatten ++ D.flatten ++ Z).length ∧
      ∀ o, Ev (fun k => slices_stableCmpFunc__pso_Sorted_1.l1 k (E'.flatten ++ Z') n (2 * s)) o → Ev (fun k => slices_stableCmpFunc__pso_Sorted_1.l2 k (E.flatten ++ D.flatten ++ Z) n s x7 (x7 + 2 * s)) o := by
  intro d
  have hend : ∀ (E : List (List S37)) (Z : List S37) (x7 : Int), (E.flatten ++ Z).length < 8796093022208 → n = (E.flatten ++ Z).length → x7 = E.flatten.length → Z.length ≤ s →
      ∀ o, Ev (fun k => slices_stableCmpFunc__pso_Sorted_1.l1 k (E.flatten ++ Z) n (2 * s)) o → Ev (fun k => slices_stableCmpFunc__pso_Sorted_1.l2 k (E.flatten ++ Z) n s x7 (x7 + 2 * s)) o := by
    intro E Z x7 hb hn hx hz o ho
    simp only [List.length_append] at hb hn
    refine Ev.step (fun k => ?_) ho
    simp only [slices_stableCmpFunc__pso_Sorted_1.l2]
    rw [if_neg (by omega), wrap_small (x := x7 + s) (by omega) (by omega), if_neg (by omega), wrap_small (x := (s : Int) * 2) (by omega) (by omega), Int.mul_comm]
  induction d with
  | zero =>
    intro E D Z x7 hd hb hn hx hE hD hZ hz
    obtain rfl : D = [] := List.eq_nil_of_length_eq_zero (by omega)
    simp only [List.flatten_nil, List.append_nil] at hb hn ⊢
    exact ⟨E, Z, hE, hZ, by omega, Sim.refl _, rfl, hend E Z x7 hb hn hx hz⟩
  | succ d ih =>
    intro E D Z x7 hd hb hn hx hE hD hZ hz
    match D, hd, hD with
    | [], _, _ =>
      simp only [List.flatten_nil, List.append_nil] at hb hn ⊢
      exact ⟨E, Z, hE, hZ, by omega, Sim.refl _, rfl, hend E Z x7 hb hn hx hz⟩
    | [X], _, hD =>
      obtain ⟨hX1, hX2⟩ := hD X List.mem_cons_self
      have hf : [X].flatten = X := by simp
      rw [hf] at hb hn ⊢
      simp only [List.length_append] at hb hn
      by_cases hz0 : Z.length = 0
      · obtain rfl : Z = [] := List.eq_nil_of_length_eq_zero hz0
        refine ⟨E, X, hE, hX2, by omega, by simpa using Sim.refl _, by simp, fun o ho => ?_⟩
        have h1 := hend E X x7 (by simp [-List.length_flatten]; omega) (by simp [-List.length_flatten]; simp [-List.length_flatten] at hn; omega) hx (by omega) o ho
        simpa using h1
      · obtain ⟨W, w1, w2, w3, w4⟩ := symMerge_ev E.flatten X Z [] x7 (x7 + s) n (by simp [-List.length_flatten]; omega) hx (by omega) (by omega) (by omega) (by omega) hX2 hZ
        by_cases hzs : Z.length = s
        · have hfl : (E ++ [W]).flatten = E.flatten ++ W := by simp
          refine ⟨E ++ [W], [], hE.snoc (by omega) w1, srt_nil, by simp, ?_, by rw [hfl]; simp [-List.length_flatten]; omega, fun o ho => ?_⟩
          · rw [hfl]
            have := (Sim.refl E.flatten).app w2
            simpa using this
          · have h1 := hend (E ++ [W]) [] (x7 + 2 * s) (by rw [hfl]; simp [-List.length_flatten]; omega) (by rw [hfl]; simp [-List.length_flatten]; omega) (by rw [hfl]; simp [-List.length_flatten]; omega) (by simp) o ho
            refine Ev.step (fun k => ?_) (Ev.bind w4 (f := fun k t => slices_stableCmpFunc__pso_Sorted_1.l2 k t n s (x7 + 2 * s) (x7 + 2 * s + 2 * s)) (by simpa using h1))
            simp only [slices_stableCmpFunc__pso_Sorted_1.l2]
            rw [if_pos (by omega), wrap_small (x := x7 + s) (by omega) (by omega), wrap_small (x := 2 * (s : Int)) (by omega) (by omega), wrap_small (x := x7 + 2 * s + 2 * s) (by omega) (by omega), show x7 + 2 * (s : Int) = n by omega]
            simp
        · refine ⟨E, W, hE, w1, by omega, ?_, by simp [-List.length_flatten]; omega, fun o ho => ?_⟩
          · have := (Sim.refl E.flatten).app w2
            simpa using this
          · refine Ev.step (fun k => ?_) (Ev.bind w4 (f := fun k t => slices_stableCmpFunc__pso_Sorted_1.l1 k t n (2 * s)) (by simpa using ho))
            simp only [slices_stableCmpFunc__pso_Sorted_1.l2]
            rw [if_neg (by omega), wrap_small (x := x7 + s) (by omega) (by omega), if_pos (by omega), wrap_small (x := (s : Int) * 2) (by omega) (by omega), Int.mul_comm (s : Int) 2]
            simp
    | X :: Y :: D, hd, hD =>
      obtain ⟨hX1, hX2⟩ := hD X List.mem_cons_self
      obtain ⟨hY1, hY2⟩ := hD Y (List.mem_cons_of_mem _ List.mem_cons_self)
      have hf : (X :: Y :: D).flatten = X ++ Y ++ D.flatten := by simp
      rw [hf] at hb hn ⊢
      simp only [List.length_append] at hb hn
      obtain ⟨W, w1, w2, w3, w4⟩ := symMerge_ev E.flatten X Y (D.flatten ++ Z) x7 (x7 + s) (x7 + 2 * s) (by simp [-List.length_flatten]; omega) hx (by omega) (by omega) (by omega) (by omega) hX2 hY2
      have hfl : (E ++ [W]).flatten = E.flatten ++ W := by simp
      obtain ⟨E', Z', g1, g2, g3, g4, g5, g6⟩ := ih (E ++ [W]) D Z (x7 + 2 * s) (by simp [-List.length_flatten] at hd; omega) (by rw [hfl]; simp [-List.length_flatten]; omega) (by rw [hfl]; simp [-List.length_flatten]; omega) (by rw [hfl]; simp [-List.length_flatten]; omega) (hE.snoc (by omega) w1) (fun V hV => hD V (List.mem_cons_of_mem _ (List.mem_cons_of_mem _ hV))) hZ hz
      rw [hfl] at g4 g5 g6
      refine ⟨E', Z', g1, g2, g3, ?_, by simp [-List.length_flatten] at g5 ⊢; omega, fun o ho => ?_⟩
      · refine Sim.trans ?_ g4
        have := (((Sim.refl E.flatten).app w2).app (Sim.refl D.flatten)).app (Sim.refl Z)
        simpa using this
      · refine Ev.step (fun k => ?_) (Ev.bind w4 (f := fun k t => slices_stableCmpFunc__pso_Sorted_1.l2 k t n s (x7 + 2 * s) (x7 + 2 * s + 2 * s)) (by simpa using g6 o ho))
        simp only [slices_stableCmpFunc__pso_Sorted_1.l2]
        rw [if_pos (by omega), wrap_small (x := x7 + s) (by omega) (by omega), wrap_small (x := 2 * (s : Int)) (by omega) (by omega), wrap_small (x := x7 + 2 * s + 2 * s) (by omega) (by omega)]
        simp

theorem passes (n : Int) : ∀ (d : Nat) (s : Nat) (D : List (List S37)) (Z : List S37), 0 < s → n ≤ s + d → (D.flatten ++ Z).length < 8796093022208 → n = (D.flatten ++ Z).length → Blocks s D → Srt Z → Z.length ≤ s →
    ∃ r, Srt r ∧ Sim (D.flatten ++ Z) r ∧ r.length = (D.flatten ++ Z).length ∧ Ev (fun k => slices_stableCmpFunc__pso_Sorted_1.l1 k (D.flatten ++ Z) n s) r := by
  intro d
  have hdone : ∀ (s : Nat) (D : List (List S37)) (Z : List S37), 0 < s → n ≤ s → n = (D.flatten ++ Z).length → Blocks s D → Srt Z →
      ∃ r, Srt r ∧ Sim (D.flatten ++ Z) r ∧ r.length = (D.flatten ++ Z).length ∧ Ev (fun k => slices_stableCmpFunc__pso_Sorted_1.l1 k (D.flatten ++ Z) n s) r := by
    intro s D Z hs hns hn hD hZ
    refine ⟨D.flatten ++ Z, ?_, Sim.refl _, rfl, Ev.step (f := fun _ => some _) (fun k => ?_) (Ev.now _)⟩
    · match D, hD with
      | [], _ => simpa using hZ
      | X :: D, hD =>
        obtain ⟨h1, h2⟩ := hD X List.mem_cons_self
        have h3 : (X :: D).flatten = X ++ D.flatten := by simp
        rw [h3] at hn ⊢
        simp only [List.length_append] at hn
        rw [List.eq_nil_of_length_eq_zero (l := D.flatten) (by omega), List.eq_nil_of_length_eq_zero (l := Z) (by omega)]
        simpa using h2
    · simp only [slices_stableCmpFunc__pso_Sorted_1.l1]
      rw [if_neg (by omega)]
  induction d with
  | zero =>
    intro s D Z hs hd hb hn hD hZ hz
    exact hdone s D Z hs (by omega) hn hD hZ
  | succ d ih =>
    intro s D Z hs hd hb hn hD hZ hz
    by_cases hsn : (s : Int) < n
    · obtain ⟨E', Z', g1, g2, g3, g4, g5, g6⟩ := pass1 n s hs hsn D.length [] D Z 0 (Nat.le_refl _) (by simpa using hb) (by simpa using hn) (by simp) (blocks_nil _) hD hZ hz
      simp only [List.flatten_nil, List.nil_append] at g4 g5 g6
      obtain ⟨r, r1, r2, r3, r4⟩ := ih (2 * s) E' Z' (by omega) (by omega) (by omega) (by omega) g1 g2 g3
      refine ⟨r, r1, g4.trans r2, by omega, Ev.step (fun k => ?_) (g6 r (by simpa using r4))⟩
      simp only [slices_stableCmpFunc__pso_Sorted_1.l1]
      have : (s : Int) < 8796093022208 := by omega
      rw [if_pos hsn, wrap_small (x := 2 * (s : Int)) (by omega) (by omega)]
      simp
    · exact hdone s D Z hs (by omega) hn hD hZ

theorem stable_ev (l : List S37) (hb : l.length < 8796093022208) : ∃ r, Srt r ∧ Sim l r ∧ r.length = l.length ∧ Ev (fun k => slices_SortStableFunc__pso_Sorted_1.f k l) r := by
  obtain ⟨E, Z, g1, g2, g3, g4, g5, g6⟩ := pass0 l.length l.length [] l 0 (Nat.le_refl _) (by simpa using hb) (by simp) (by simp) (blocks_nil _)
  simp only [List.flatten_nil, List.nil_append] at g4 g5 g6
  obtain ⟨r, r1, r2, r3, r4⟩ := passes l.length l.length 20 E Z (by omega) (by omega) (by omega) (by omega) g1 g2 g3
  have h := g6 r (by simpa using r4)
  refine ⟨r, r1, g4.trans r2, by omega, ?_⟩
  have h' : Ev (fun k => slices_stableCmpFunc__pso_Sorted_1.f k l l.length) r := by simpa [slices_stableCmpFunc__pso_Sorted_1.f] using h
  exact Ev.congr (fun k => rfl) (Ev.bind h' (f := fun _ t => some t) (Ev.now _))

/-! ### The document's merge sort -/
theorem mg_ev : ∀ (n : Nat) (x y acc : List S37), x.length + y.length ≤ n → acc.length + x.length + y.length < 8796093022208 → Srt x → Srt y →
    ∃ m, Srt m ∧ Sim (x ++ y) m ∧ m.length = x.length + y.length ∧ Ev (fun k => weirref13_sorted.l0 k x y acc) (acc ++ m) := by
  intro n
  induction n with
  | zero =>
    intro x y acc hn hb hx hy
    obtain rfl : x = [] := List.eq_nil_of_length_eq_zero (by omega)
    obtain rfl : y = [] := List.eq_nil_of_length_eq_zero (by omega)
    refine ⟨[], srt_nil, Sim.refl _, rfl, Ev.step (f := fun k => weirref13_sorted.j1 k [] [] acc false) (fun k => ?_) (Ev.step (f := fun _ => some acc) (fun k => ?_) (by simpa using Ev.now acc))⟩
    · simp [weirref13_sorted.l0]
    · simp [weirref13_sorted.j1]
  | succ n ih =>
    intro x y acc hn hb hx hy
    have go : 0 < x.length + y.length → ∀ m, Ev (fun k => weirref13_sorted.j1 k x y acc true) m → Ev (fun k => weirref13_sorted.l0 k x y acc) m := by
      intro h m hm
      refine Ev.step (fun k => ?_) hm
      simp only [weirref13_sorted.l0]
      by_cases h1 : (x.length : Int) > 0
      · rw [if_pos h1]
      · rw [if_neg h1, decide_eq_true (by omega)]
    match x, y, hx, hy with
    | [], [], hx, hy =>
      refine ⟨[], srt_nil, Sim.refl _, rfl, Ev.step (f := fun k => weirref13_sorted.j1 k [] [] acc false) (fun k => ?_) (Ev.step (f := fun _ => some acc) (fun k => ?_) (by simpa using Ev.now acc))⟩
      · simp [weirref13_sorted.l0]
      · simp [weirref13_sorted.j1]
    | u :: x, [], hx, hy =>
      simp only [List.length_cons, List.length_nil] at hn hb go
      obtain ⟨m, m1, m2, m3, m4⟩ := ih x [] (acc ++ [u]) (by simp; omega) (by simp; omega) (List.pairwise_cons.1 hx).2 hy
      have hmem : ∀ q ∈ m, u.f0 ≤ q.f0 := fun q hq => (List.pairwise_cons.1 hx).1 q (by simpa using (m2.mem q).2 hq)
      refine ⟨u :: m, List.pairwise_cons.2 ⟨hmem, m1⟩, ?_, by simp; simp at m3; omega, go (by omega) _ (Ev.step (fun k => ?_) (by simpa using m4))⟩
      · simpa using (Sim.refl [u]).app m2
      · simp only [weirref13_sorted.j1, if_true]
        rw [if_pos (by simp), if_pos (by simp only [List.length_cons]; omega), if_pos (by omega), if_pos (by simp only [List.length_cons]; omega)]
        simp [rd_T37]
    | [], v :: y, hx, hy =>
      simp only [List.length_cons, List.length_nil] at hn hb go
      obtain ⟨m, m1, m2, m3, m4⟩ := ih [] y (acc ++ [v]) (by simp; omega) (by simp; omega) hx (List.pairwise_cons.1 hy).2
      have hmem : ∀ q ∈ m, v.f0 ≤ q.f0 := fun q hq => (List.pairwise_cons.1 hy).1 q (by simpa using (m2.mem q).2 hq)
      refine ⟨v :: m, List.pairwise_cons.2 ⟨hmem, m1⟩, ?_, by simp; simp at m3; omega, go (by omega) _ (Ev.step (fun k => ?_) (by simpa using m4))⟩
      · simpa using (Sim.refl [v]).app m2
      · simp only [weirref13_sorted.j1, if_true]
        rw [if_neg (by simp only [List.length_cons]; omega), if_neg (by simp), if_pos (by simp only [List.length_cons]; omega), if_pos (by omega), if_pos (by simp only [List.length_cons]; omega)]
        simp [rd_T37]
    | u :: x, v :: y, hx, hy =>
      simp only [List.length_cons] at hn hb go
      by_cases huv : u.f0 ≤ v.f0
      · obtain ⟨m, m1, m2, m3, m4⟩ := ih x (v :: y) (acc ++ [u]) (by simp; omega) (by simp; omega) (List.pairwise_cons.1 hx).2 hy
        have hmem : ∀ q ∈ m, u.f0 ≤ q.f0 := fun q hq => by
          rcases List.mem_append.1 ((m2.mem q).2 hq) with h | h
          · exact (List.pairwise_cons.1 hx).1 q h
          · rcases List.mem_cons.1 h with rfl | h
            · exact huv
            · have := (List.pairwise_cons.1 hy).1 q h; omega
        refine ⟨u :: m, List.pairwise_cons.2 ⟨hmem, m1⟩, ?_, by simp; simp at m3; omega, go (by omega) _ (Ev.step (fun k => ?_) (by simpa using m4))⟩
        · simpa using (Sim.refl [u]).app m2
        · simp only [weirref13_sorted.j1, if_true]
          rw [if_neg (by simp only [List.length_cons]; omega), if_pos (by simp only [List.length_cons]; omega), if_pos (by simp only [List.length_cons]; omega), if_pos (by simp only [List.length_cons]; omega), if_pos (by simpa [rd_T37] using huv), if_pos (by omega), if_pos (by simp only [List.length_cons]; omega)]
          simp [rd_T37]
      · obtain ⟨m, m1, m2, m3, m4⟩ := ih (u :: x) y (acc ++ [v]) (by simp; omega) (by simp; omega) hx (List.pairwise_cons.1 hy).2
        have hux : ∀ q ∈ u :: x, v.f0 < q.f0 := fun q hq => by
          rcases List.mem_cons.1 hq with rfl | h
          · omega
          · have := (List.pairwise_cons.1 hx).1 q h; omega
        have hmem : ∀ q ∈ m, v.f0 ≤ q.f0 := fun q hq => by
          rcases List.mem_append.1 ((m2.mem q).2 hq) with h | h
          · have := hux q h; omega
          · exact (List.pairwise_cons.1 hy).1 q h
        refine ⟨v :: m, List.pairwise_cons.2 ⟨hmem, m1⟩, ?_, by simp; simp at m3; omega, go (by omega) _ (Ev.step (fun k => ?_) (by simpa using m4))⟩
        · have h1 : Sim ((u :: x) ++ [v]) ([v] ++ (u :: x)) := Sim.swap (fun p hp q hq => by rw [List.mem_singleton.1 hq]; have := hux p hp; omega)
          have h2 := h1.app (Sim.refl y)
          have h3 := (Sim.refl [v]).app m2
          exact Sim.trans (by simpa using h2) (by simpa using h3)
        · simp only [weirref13_sorted.j1, if_true]
          rw [if_neg (by simp only [List.length_cons]; omega), if_pos (by simp only [List.length_cons]; omega), if_pos (by simp only [List.length_cons]; omega), if_pos (by simp only [List.length_cons]; omega), if_neg (by simpa [rd_T37] using huv), if_pos (by omega), if_pos (by simp only [List.length_cons]; omega)]
          simp [rd_T37]

theorem sorted_ev : ∀ (n : Nat) (l : List S37), l.length ≤ n → l.length < 8796093022208 → ∃ r, Srt r ∧ Sim l r ∧ r.length = l.length ∧ Ev (fun k => weirref13_sorted.f k l) r := by
  intro n
  induction n with
  | zero =>
    intro l hn hb
    obtain rfl : l = [] := List.eq_nil_of_length_eq_zero (by omega)
    exact ⟨[], srt_nil, Sim.refl _, rfl, Ev.step (f := fun _ => some []) (fun k => by simp [weirref13_sorted.f]) (Ev.now _)⟩
  | succ n ih =>
    intro l hn hb
    by_cases h2 : (l.length : Int) < 2
    · refine ⟨l, ?_, Sim.refl _, rfl, Ev.step (f := fun _ => some l) (fun k => ?_) (Ev.now _)⟩
      · match l, h2 with
        | [], _ => exact srt_nil
        | [x], _ => exact srt_one x
        | _ :: _ :: _, h => simp at h; omega
      · simp only [weirref13_sorted.f]
        rw [if_pos h2, Option.bind_some, if_pos (by simpa using hb)]
        simp
    · have hw : wrap64 ((l.length : Int) / 2) = (l.length : Int) / 2 := wrap_small (by omega) (by omega)
      have ht : ((l.length : Int) / 2).toNat = l.length / 2 := by omega
      obtain ⟨r1, a1, a2, a3, a4⟩ := ih (l.take (l.length / 2)) (by rw [List.length_take]; omega) (by rw [List.length_take]; omega)
      obtain ⟨r2, b1, b2, b3, b4⟩ := ih (l.drop (l.length / 2)) (by rw [List.length_drop]; omega) (by rw [List.length_drop]; omega)
      rw [List.length_take] at a3
      rw [List.length_drop] at b3
      obtain ⟨m, m1, m2, m3, m4⟩ := mg_ev _ r1 r2 [] (Nat.le_refl _) (by simp; omega) a1 b1
      refine ⟨m, m1, ?_, by omega, ?_⟩
      · refine Sim.trans ?_ m2
        have := a2.app b2
        rwa [List.take_append_drop] at this
      · refine Ev.step (fun k => ?_) (Ev.bind a4 (f := fun k t => (weirref13_sorted.f k (l.drop (l.length / 2))).bind fun t' => weirref13_sorted.l0 k t t' []) (Ev.bind b4 (f := fun k t' => weirref13_sorted.l0 k r1 t' []) (by simpa using m4)))
        simp only [weirref13_sorted.f]
        rw [if_neg h2, hw, if_pos (by omega), if_pos (by omega), ht]

/-- The one answer. -/
theorem one_answer (l : List S37) (hb : l.length < 8796093022208) : ∃ r, Srt r ∧ Sim l r ∧ r.length = l.length ∧ Ev (fun k => slices_SortStableFunc__pso_Sorted_1.f k l) r ∧ Ev (fun k => weirref13_sorted.f k l) r := by
  obtain ⟨r, r1, r2, r3, r4⟩ := stable_ev l hb
  obtain ⟨s, s1, s2, s3, s4⟩ := sorted_ev _ l (Nat.le_refl _) hb
  obtain rfl : r = s := uniq r1 s1 (r2.symm.trans s2)
  exact ⟨r, r1, r2, r3, r4, s4⟩
end Go.Proofs.Ytgooppfeikijeaa.Pure
