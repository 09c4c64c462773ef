/- Stable sorting: what decides the answer (order, and each key's own elements in their order), swaps and rotations. -/
import Derived.Test.YtgooppfeikijeaaP4
namespace Go.Proofs.Ytgooppfeikijeaa.Pure
open Go.RowKit Go.Proofs.Ytgooppfeikijeaa.P Go.Proofs.YtgooppfeikijeaaW.PrintWords Go.Proofs.YtgooppfeikijeaaW.PrintLast

theorem wrap_small {x : Int} (h0 : -9223372036854775808 ≤ x) (h1 : x ≤ 9223372036854775807) : wrap64 x = x := by
  unfold wrap64
  omega



/-! ### Order and sameness -/
def Srt (l : List S37) : Prop := l.Pairwise (fun a b => a.f0 ≤ b.f0)
def Sim (l m : List S37) : Prop := ∀ c : Int, l.filter (fun x => x.f0 == c) = m.filter (fun x => x.f0 == c)
theorem Sim.refl (l : List S37) : Sim l l := fun _ => rfl
theorem Sim.symm {l m : List S37} (h : Sim l m) : Sim m l := fun c => (h c).symm
theorem Sim.trans {l m n : List S37} (h : Sim l m) (k : Sim m n) : Sim l n := fun c => (h c).trans (k c)
theorem Sim.app {l l' m m' : List S37} (h : Sim l l') (k : Sim m m') : Sim (l ++ m) (l' ++ m') := fun c => by
  rw [List.filter_append, List.filter_append, h c, k c]
theorem Sim.swap {l m : List S37} (h : ∀ a ∈ l, ∀ b ∈ m, a.f0 ≠ b.f0) : Sim (l ++ m) (m ++ l) := fun c => by
  rw [List.filter_append, List.filter_append]
  by_cases hc : ∃ a ∈ l, a.f0 = c
  · obtain ⟨a, ha, hac⟩ := hc
    have : m.filter (fun x => x.f0 == c) = [] := List.filter_eq_nil_iff.2 (fun b hb => by
      have := h a ha b hb
      rw [hac] at this
      simpa using fun e => this e.symm)
    rw [this, List.append_nil, List.nil_append]
  · have : l.filter (fun x => x.f0 == c) = [] := List.filter_eq_nil_iff.2 (fun a ha => by
      simpa using fun e => hc ⟨a, ha, e⟩)
    rw [this, List.append_nil, List.nil_append]
theorem Sim.mem {l m : List S37} (h : Sim l m) (a : S37) : a ∈ l ↔ a ∈ m := by
  have h1 := h a.f0
  have h2 : ∀ n : List S37, a ∈ n ↔ a ∈ n.filter (fun x => x.f0 == a.f0) := fun n => by simp
  rw [h2 l, h2 m, h1]
theorem Sim.cons {a : S37} {l m : List S37} (h : Sim (a :: l) (a :: m)) : Sim l m := fun c => by
  have := h c
  rw [List.filter_cons, List.filter_cons] at this
  split at this
  · exact (List.cons.inj this).2
  · exact this
/-- Two lists in order, of the same elements in the same order for each key, are one. -/
theorem uniq : ∀ {l m : List S37}, Srt l → Srt m → Sim l m → l = m
  | [], [], _, _, _ => rfl
  | [], y :: _, _, _, h => by
    have := (h.mem y).2 List.mem_cons_self
    cases this
  | x :: _, [], _, _, h => by
    have := (h.mem x).1 List.mem_cons_self
    cases this
  | x :: l, y :: m, hl, hm, h => by
    have hxy : x.f0 = y.f0 := by
      have h1 := (h.mem x).1 List.mem_cons_self
      have h2 := (h.mem y).2 List.mem_cons_self
      have a1 : y.f0 ≤ x.f0 := by
        rcases List.mem_cons.1 h1 with e | e
        · rw [e]; omega
        · exact (List.pairwise_cons.1 hm).1 x e
      have a2 : x.f0 ≤ y.f0 := by
        rcases List.mem_cons.1 h2 with e | e
        · rw [e]; omega
        · exact (List.pairwise_cons.1 hl).1 y e
      omega
    have h1 := h x.f0
    rw [List.filter_cons, List.filter_cons, if_pos (by simp), if_pos (by simp [hxy])] at h1
    have e := (List.cons.inj h1).1
    subst e
    rw [uniq (List.pairwise_cons.1 hl).2 (List.pairwise_cons.1 hm).2 h.cons]

theorem Srt.app {l m : List S37} (hl : Srt l) (hm : Srt m) (h : ∀ a ∈ l, ∀ b ∈ m, a.f0 ≤ b.f0) : Srt (l ++ m) := List.pairwise_append.2 ⟨hl, hm, h⟩

/-! ### Lists by places -/
theorem rd_at {P R : List S37} {x : S37} {i : Int} (h : i = P.length) : rd_T37 (P ++ x :: R) i = x := by
  unfold rd_T37
  subst h
  rw [Int.toNat_natCast, List.getD_eq_getElem?_getD, List.getElem?_append_right (Nat.le_refl _), Nat.sub_self]
  rfl
theorem set_at {P R : List S37} {x y : S37} {i : Int} (h : i = P.length) : (P ++ x :: R).set i.toNat y = P ++ y :: R := by
  subst h
  rw [Int.toNat_natCast, List.set_append_right _ _ (Nat.le_refl _), Nat.sub_self]
  rfl
theorem eta (x : S37) : (⟨x.f0, x.f1⟩ : S37) = x := rfl

theorem swap_ev (n : Int) (a b : Int) (X : List S37) : ∀ (P M Y Q : List S37) (i : Int), Y.length = X.length → (P ++ X ++ M ++ Y ++ Q).length < 8796093022208 → 0 ≤ i → n = i + X.length → (P.length : Int) = a + i → (P.length : Int) + X.length + M.length = b + i → 0 ≤ a → 0 ≤ b →
    Ev (fun k => slices_swapRangeCmpFunc__pso_Sorted_1.l0 k (P ++ X ++ M ++ Y ++ Q) a b n i) (P ++ Y ++ M ++ X ++ Q) := by
  induction X with
  | nil =>
    intro P M Y Q i hl hb hi hn ha hm h0a h0b
    obtain rfl : Y = [] := List.eq_nil_of_length_eq_zero hl
    refine Ev.step (f := fun _ => some _) (fun k => ?_) (Ev.now _)
    simp only [slices_swapRangeCmpFunc__pso_Sorted_1.l0]
    rw [if_neg (by simp at hn; omega)]
  | cons x X ih =>
    intro P M Y Q i hl hb hi hn ha hm h0a h0b
    cases Y with
    | nil => cases hl
    | cons y Y =>
      simp only [List.length_cons, List.length_append] at *
      have hI := ih (P ++ [y]) (M ++ [x]) Y Q (i + 1) (by omega) (by simp; omega) (by omega) (by omega) (by simp; omega) (by simp; omega) h0a h0b
      have e0 : P ++ x :: X ++ M ++ y :: Y ++ Q = P ++ x :: (X ++ M ++ y :: Y ++ Q) := by simp
      have e1 : P ++ x :: X ++ M ++ y :: Y ++ Q = (P ++ x :: X ++ M) ++ y :: (Y ++ Q) := by simp
      have w1 : wrap64 (b + i) = ((P ++ x :: X ++ M).length : Int) := by rw [wrap_small (by omega) (by omega)]; simp; omega
      have w2 : wrap64 (a + i) = (P.length : Int) := by rw [wrap_small (by omega) (by omega)]; omega
      have w3 : wrap64 (i + 1) = i + 1 := wrap_small (by omega) (by omega)
      refine Ev.step (fun k => ?_) (by simpa using hI)
      simp only [slices_swapRangeCmpFunc__pso_Sorted_1.l0]
      rw [if_pos (by omega), w1, w2, w3, if_pos (by omega), if_pos (by simp; omega), if_pos (by omega), if_pos (by simp; omega)]
      congr 1
      have r1 : rd_T37 (P ++ x :: X ++ M ++ y :: Y ++ Q) ((P ++ x :: X ++ M).length : Int) = y := by rw [e1]; exact rd_at rfl
      have r2 : rd_T37 (P ++ x :: X ++ M ++ y :: Y ++ Q) (P.length : Int) = x := by rw [e0]; exact rd_at rfl
      rw [r1, r2, eta, eta, e0, set_at rfl]
      have e2 : P ++ y :: (X ++ M ++ y :: Y ++ Q) = (P ++ y :: X ++ M) ++ y :: (Y ++ Q) := by simp
      rw [e2, set_at (by simp)]
      simp

theorem swapRange_ev (P X M Y Q : List S37) (a b n : Int) (hl : Y.length = X.length) (hb : (P ++ X ++ M ++ Y ++ Q).length < 8796093022208) (hn : n = X.length) (ha : a = P.length) (hm : b = P.length + X.length + M.length) :
    Ev (fun k => slices_swapRangeCmpFunc__pso_Sorted_1.f k (P ++ X ++ M ++ Y ++ Q) a b n) (P ++ Y ++ M ++ X ++ Q) :=
  Ev.congr (fun _ => rfl) (swap_ev n a b X P M Y Q 0 hl hb (by omega) (by omega) (by omega) (by omega) (by omega) (by omega))

theorem rotate_ev (m : Int) : ∀ (s : Nat) (P X Y Q : List S37) (i j : Int), X.length + Y.length ≤ s → (P ++ X ++ Y ++ Q).length < 8796093022208 → i = X.length → j = Y.length → m = P.length + X.length → 0 < X.length → 0 < Y.length →
    Ev (fun k => slices_rotateCmpFunc__pso_Sorted_1.l0 k (P ++ X ++ Y ++ Q) m i j) (P ++ Y ++ X ++ Q) := by
  intro s
  induction s with
  | zero => intro P X Y Q i j h; omega
  | succ s ih =>
    intro P X Y Q i j hs hb hi hj hm hX hY
    simp only [List.length_append] at hb
    have w0 : wrap64 (m - i) = P.length := by rw [wrap_small (by omega) (by omega)]; omega
    by_cases hij : i = j
    · have h1 := swapRange_ev P X [] Y Q P.length m i (by omega) (by simp; omega) hi rfl (by simp; omega)
      refine Ev.step (fun k => ?_) (Ev.bind (by simpa using h1) (f := fun _ t => some t) (Ev.now _))
      simp only [slices_rotateCmpFunc__pso_Sorted_1.l0]
      rw [if_pos hij, w0]
      simp
    · by_cases hgt : i > j
      · have hsp : X = X.take Y.length ++ X.drop Y.length := (List.take_append_drop _ _).symm
        generalize h1 : X.take Y.length = X1 at hsp
        generalize h2 : X.drop Y.length = X2 at hsp
        have hl1 : X1.length = Y.length := by rw [← h1, List.length_take]; omega
        have hl2 : X2.length = X.length - Y.length := by rw [← h2, List.length_drop]
        subst hsp
        have h3 := swapRange_ev P X1 X2 Y Q P.length m j (by omega) (by simp; simp at hb; omega) (by omega) rfl (by simp at hm; omega)
        have h4 := ih (P ++ Y) X2 X1 Q (i - j) j (by simp at hs; omega) (by simp; simp at hb; omega) (by omega) (by omega) (by simp; simp at hm; omega) (by omega) (by omega)
        refine Ev.step (fun k => ?_) (Ev.bind (by simpa using h3) (f := fun k t => slices_rotateCmpFunc__pso_Sorted_1.l0 k t m (i - j) j) (by simpa using h4))
        simp only [slices_rotateCmpFunc__pso_Sorted_1.l0]
        rw [if_neg hij, if_pos hgt, w0, wrap_small (x := i - j) (by omega) (by omega)]
        simp
      · have hsp : Y = Y.take (Y.length - X.length) ++ Y.drop (Y.length - X.length) := (List.take_append_drop _ _).symm
        generalize h1 : Y.take (Y.length - X.length) = Y1 at hsp
        generalize h2 : Y.drop (Y.length - X.length) = Y2 at hsp
        have hl1 : Y1.length = Y.length - X.length := by rw [← h1, List.length_take]; omega
        have hl2 : Y2.length = X.length := by rw [← h2, List.length_drop]; omega
        subst hsp
        have h3 := swapRange_ev P X Y1 Y2 Q P.length (m + j - i) i (by omega) (by simp; simp at hb; omega) (by omega) rfl (by simp at hj; omega)
        have h4 := ih P Y2 Y1 (X ++ Q) i (j - i) (by simp at hs; omega) (by simp; simp at hb; omega) (by omega) (by simp at hj; omega) (by omega) (by omega) (by omega)
        refine Ev.step (fun k => ?_) (Ev.bind (by simpa using h3) (f := fun k t => slices_rotateCmpFunc__pso_Sorted_1.l0 k t m i (j - i)) (by simpa using h4))
        simp only [slices_rotateCmpFunc__pso_Sorted_1.l0]
        rw [if_neg hij, if_neg hgt, w0, wrap_small (x := m + j) (by simp at hb; omega) (by simp at hb; omega), wrap_small (x := m + j - i) (by simp at hb; omega) (by simp at hb; omega), wrap_small (x := j - i) (by simp at hb; omega) (by simp at hb; omega)]
        simp
end Go.Proofs.Ytgooppfeikijeaa.Pure
