/- Binomials and multinomials: how many lists have each number so often. -/
namespace Go.Proofs.Odo
def ch : Nat → Nat → Nat
  | _, 0 => 1
  | 0, _ + 1 => 0
  | n + 1, k + 1 => ch n k + ch n (k + 1)
theorem ch_zero (n : Nat) : ch n 0 = 1 := by cases n <;> rfl
theorem ch_lt {n k : Nat} (h : n < k) : ch n k = 0 := by
  induction n generalizing k with
  | zero => cases k with
    | zero => omega
    | succ k => rfl
  | succ n ih => cases k with
    | zero => omega
    | succ k => rw [ch, ih (by omega), ih (by omega)]
theorem ch_self (n : Nat) : ch n n = 1 := by
  induction n with
  | zero => rfl
  | succ n ih => rw [ch, ih, ch_lt (by omega)]
theorem ch_mul (n k : Nat) : (k + 1) * ch (n + 1) (k + 1) = (n + 1) * ch n k := by
  induction n generalizing k with
  | zero => cases k with
    | zero => rfl
    | succ k => rw [ch_lt (n := 0 + 1) (k := k + 1 + 1) (by omega), ch_lt (n := 0) (k := k + 1) (by omega), Nat.mul_zero, Nat.mul_zero]
  | succ n ih =>
    cases k with
    | zero =>
      have h0 := ih 0
      have e : ch (n + 1 + 1) (0 + 1) = ch (n + 1) 0 + ch (n + 1) (0 + 1) := rfl
      rw [e, ch_zero]
      rw [ch_zero] at h0
      omega
    | succ k =>
      have h1 := ih k
      have h2 := ih (k + 1)
      rw [ch]
      have h3 : ch (n + 1) (k + 1) = ch n k + ch n (k + 1) := rfl
      generalize ch (n + 1) (k + 1) = a at *
      generalize ch (n + 1) (k + 1 + 1) = b at *
      generalize ch n k = c at *
      generalize ch n (k + 1) = d at *
      subst h3
      have e1 : (k + 1 + 1) * (c + d + b) = (k + 1) * (c + d) + (c + d) + (k + 1 + 1) * b := by rw [Nat.mul_add, Nat.add_mul (k + 1) 1]; omega
      have e2 : (n + 1 + 1) * (c + d) = (n + 1) * c + (n + 1) * d + (c + d) := by rw [Nat.add_mul (n + 1) 1, Nat.mul_add]; omega
      rw [e1, e2, h1, h2]
      omega
theorem ch_pos {n k : Nat} (h : k ≤ n) : 0 < ch n k := by
  induction n generalizing k with
  | zero => cases k with
    | zero => decide
    | succ k => omega
  | succ n ih => cases k with
    | zero => rw [ch_zero]; omega
    | succ k => have := ih (k := k) (by omega); rw [ch]; omega
/-- One step of the count: exact. -/
theorem ch_step (a i : Nat) : (i + 1) * ch (a + (i + 1)) (i + 1) = (a + (i + 1)) * ch (a + i) i := ch_mul (a + i) i
theorem ch_mono (a i : Nat) : ch (a + i) i ≤ ch (a + (i + 1)) (i + 1) := by
  show _ ≤ ch (a + i + 1) (i + 1)
  rw [ch]; omega
/-- The multinomial of lengths behind some that make `all` together. -/
def mcA : Nat → List Nat → Nat
  | _, [] => 1
  | all, l :: ls => ch (all + l) l * mcA (all + l) ls
def mc (w : List Nat) : Nat := mcA 0 w
theorem mcA_pos (all : Nat) (w : List Nat) : 0 < mcA all w := by
  induction w generalizing all with
  | nil => exact Nat.one_pos
  | cons l w ih => exact Nat.mul_pos (ch_pos (by omega)) (ih _)
theorem mc_pos (w : List Nat) : 0 < mc w := mcA_pos 0 w
theorem mcA_append (all : Nat) (u v : List Nat) : mcA all (u ++ v) = mcA all u * mcA (all + u.sum) v := by
  induction u generalizing all with
  | nil => simp [mcA]
  | cons l u ih => rw [List.cons_append, mcA, mcA, ih, List.sum_cons, Nat.mul_assoc, Nat.add_assoc]
theorem mc_snoc (u : List Nat) (l : Nat) : mc (u ++ [l]) = mc u * ch (u.sum + l) l := by
  unfold mc
  rw [mcA_append, mcA, mcA]; simp
/-- One less of a number. -/
def less (w : List Nat) (i : Nat) : List Nat := w.set i (w.getD i 0 - 1)
/-- How many lists begin with a number. -/
def share (w : List Nat) (i : Nat) : Nat := if w.getD i 0 = 0 then 0 else mc (less w i)
def shares (w : List Nat) (n : Nat) : Nat := ((List.range n).map (share w)).sum
theorem shares_succ (w : List Nat) (n : Nat) : shares w (n + 1) = shares w n + share w n := by
  unfold shares; rw [List.range_succ]; simp
theorem less_sum (w : List Nat) (i : Nat) (h : w.getD i 0 ≠ 0) : (less w i).sum + 1 = w.sum := by
  induction w generalizing i with
  | nil => simp at h
  | cons l w ih =>
    cases i with
    | zero => simp [less] at *; omega
    | succ i => have := ih i (by simpa using h); simp [less] at *; omega
theorem less_snoc (u : List Nat) (l i : Nat) (h : i < u.length) : less (u ++ [l]) i = less u i ++ [l] := by
  unfold less
  rw [List.set_append_left _ _ h]
  simp [List.getD_eq_getElem?_getD, List.getElem?_append_left h]
theorem getD_snoc (u : List Nat) (l i : Nat) (h : i < u.length) : (u ++ [l]).getD i 0 = u.getD i 0 := by
  simp [List.getD_eq_getElem?_getD, List.getElem?_append_left h]
theorem shares_snoc (u : List Nat) (l : Nat) (hu : 0 < u.sum + l) (n : Nat) (hn : n ≤ u.length) : shares (u ++ [l]) n = shares u n * ch (u.sum + l - 1) l := by
  induction n with
  | zero => simp [shares]
  | succ n ih =>
    rw [shares_succ, shares_succ, ih (by omega), Nat.add_mul]
    congr 1
    unfold share
    rw [getD_snoc u l n (by omega)]
    split
    · simp
    · rename_i h
      rw [less_snoc u l n (by omega), mc_snoc]
      have := less_sum u n h
      congr 2
      omega
/-- Each list begins with one number. -/
theorem shares_all (w : List Nat) (hw : 0 < w.sum) : shares w w.length = mc w := by
  suffices H : ∀ (n : Nat) (w : List Nat), w.length = n → 0 < w.sum → shares w w.length = mc w from H _ w rfl hw
  intro n
  induction n with
  | zero =>
    intro w h0 h1
    obtain rfl := List.length_eq_zero_iff.1 h0
    simp at h1
  | succ n ih =>
    intro w h0 h1
    have hne : w ≠ [] := by intro h; subst h; simp at h0
    obtain ⟨u, l, rfl⟩ : ∃ u l, w = u ++ [l] := ⟨w.dropLast, w.getLast hne, (List.dropLast_concat_getLast hne).symm⟩
    have hu : u.length = n := by simpa using h0
    have hs : 0 < u.sum + l := by simpa using h1
    rw [List.length_append, List.length_singleton, shares_succ, shares_snoc u l hs _ (Nat.le_refl _), mc_snoc]
    have hl : share (u ++ [l]) u.length = if l = 0 then 0 else mc u * ch (u.sum + (l - 1)) (l - 1) := by
      unfold share
      have e : (u ++ [l]).getD u.length 0 = l := by simp [List.getD_eq_getElem?_getD]
      rw [e]
      split
      · rfl
      · unfold less
        rw [e, List.set_append_right _ _ (Nat.le_refl _)]
        simp only [Nat.sub_self, List.set_cons_zero]
        exact mc_snoc u (l - 1)
    rw [hl]
    rcases Nat.eq_zero_or_pos u.sum with hz | hz
    · have hu0 : shares u u.length * ch (u.sum + l - 1) l = 0 := by
        rw [hz, ch_lt (by omega), Nat.mul_zero]
      rw [hu0, if_neg (by omega), hz]
      obtain ⟨m, rfl⟩ : ∃ m, l = m + 1 := ⟨l - 1, by omega⟩
      simp [ch_self]
    · rw [ih u hu hz]
      by_cases h0 : l = 0
      · subst h0
        simp [ch_zero]
      · rw [if_neg h0]
        obtain ⟨m, rfl⟩ : ∃ m, l = m + 1 := ⟨l - 1, by omega⟩
        rw [← Nat.mul_add]
        congr 1
        have : u.sum + (m + 1) = u.sum + m + 1 := by omega
        rw [this, ch]
        simp only [Nat.add_sub_cancel]
        omega
theorem shares_le (w : List Nat) {i j : Nat} (h : i ≤ j) : shares w i ≤ shares w j := by
  induction j with
  | zero => obtain rfl : i = 0 := by omega
            exact Nat.le_refl _
  | succ j ih =>
    rcases Nat.lt_or_ge j i with hj | hj
    · obtain rfl : i = j + 1 := by omega
      exact Nat.le_refl _
    · rw [shares_succ]; have := ih hj; omega
theorem find_ex (w : List Nat) (n m : Nat) (h : n < shares w m) : ∃ i, i < m ∧ shares w i ≤ n ∧ n < shares w (i + 1) := by
  induction m with
  | zero => simp [shares] at h
  | succ m ih =>
    by_cases hm : n < shares w m
    · obtain ⟨i, h1, h2, h3⟩ := ih hm
      exact ⟨i, by omega, h2, h3⟩
    · exact ⟨m, by omega, by omega, h⟩
theorem find_one (w : List Nat) {n i j : Nat} (hi : shares w i ≤ n) (hi' : n < shares w (i + 1)) (hj : shares w j ≤ n) (hj' : n < shares w (j + 1)) : i = j := by
  rcases Nat.lt_trichotomy i j with h | h | h
  · have := shares_le w (i := i + 1) (j := j) h; omega
  · exact h
  · have := shares_le w (i := j + 1) (j := i) h; omega
theorem find_pos (w : List Nat) {n i : Nat} (hi : shares w i ≤ n) (hi' : n < shares w (i + 1)) : w.getD i 0 ≠ 0 := by
  intro h
  rw [shares_succ] at hi'
  unfold share at hi'
  rw [if_pos h] at hi'
  omega
theorem find_share (w : List Nat) {n i : Nat} (hi : shares w i ≤ n) (hi' : n < shares w (i + 1)) : n - shares w i < mc (less w i) := by
  have hp := find_pos w hi hi'
  rw [shares_succ] at hi'
  unfold share at hi'
  rw [if_neg hp] at hi'
  omega
theorem share_le (w : List Nat) {i : Nat} (hi : i < w.length) (hw : 0 < w.sum) : shares w i + share w i ≤ mc w := by
  rw [← shares_succ, ← shares_all w hw]
  exact shares_le w hi
/-- A list in which each number stands so often. -/
def Is : List Nat → List Nat → Prop
  | w, [] => w.sum = 0
  | w, x :: l => w.getD x 0 ≠ 0 ∧ Is (less w x) l
def rank : List Nat → List Nat → Nat
  | _, [] => 0
  | w, x :: l => shares w x + rank (less w x) l
theorem less_length (w : List Nat) (i : Nat) : (less w i).length = w.length := by simp [less]
theorem getD_lt {w : List Nat} {i : Nat} (h : w.getD i 0 ≠ 0) : i < w.length := by
  rcases Nat.lt_or_ge i w.length with h' | h'
  · exact h'
  · rw [List.getD_eq_getElem?_getD, List.getElem?_eq_none h'] at h; simp at h
theorem sum_pos {w : List Nat} {i : Nat} (h : w.getD i 0 ≠ 0) : 0 < w.sum := by have := less_sum w i h; omega
theorem is_length {w l : List Nat} (h : Is w l) : l.length = w.sum := by
  induction l generalizing w with
  | nil => simpa using h.symm
  | cons x l ih => have := ih h.2; have := less_sum w x h.1; simp; omega
theorem rank_lt {w l : List Nat} (h : Is w l) : rank w l < mc w := by
  induction l generalizing w with
  | nil => exact mc_pos w
  | cons x l ih =>
    have h1 := ih h.2
    have h2 := share_le w (getD_lt h.1) (sum_pos h.1)
    unfold share at h2
    rw [if_neg h.1] at h2
    rw [rank]; omega
theorem rank_first {w l : List Nat} {x : Nat} (h : Is w (x :: l)) : shares w x ≤ rank w (x :: l) ∧ rank w (x :: l) < shares w (x + 1) := by
  have h1 := rank_lt h.2
  rw [rank, shares_succ]
  unfold share
  rw [if_neg h.1]
  omega
theorem mcA_zero {w : List Nat} (h : w.sum = 0) : ∀ a, mcA a w = 1 := by
  induction w with
  | nil => intro a; rfl
  | cons l w ih =>
    intro a
    rw [List.sum_cons] at h
    obtain rfl : l = 0 := by omega
    rw [mcA, ch_zero, ih (by omega)]
/-- Numbers and lists are each other's inverse. -/
theorem list_ex (N : Nat) : ∀ (w : List Nat) (n : Nat), w.sum = N → n < mc w → ∃ l, Is w l ∧ rank w l = n := by
  induction N with
  | zero =>
    intro w n hw hn
    have : mc w = 1 := mcA_zero hw 0
    exact ⟨[], hw, by rw [rank]; omega⟩
  | succ N ih =>
    intro w n hw hn
    rw [← shares_all w (by omega)] at hn
    obtain ⟨i, h1, h2, h3⟩ := find_ex w n _ hn
    have hp := find_pos w h2 h3
    have hs := less_sum w i hp
    obtain ⟨l, hl, hr⟩ := ih (less w i) (n - shares w i) (by omega) (find_share w h2 h3)
    exact ⟨i :: l, ⟨hp, hl⟩, by rw [rank, hr]; omega⟩
theorem rank_inj {w l l' : List Nat} (h : Is w l) (h' : Is w l') (he : rank w l = rank w l') : l = l' := by
  induction l generalizing w l' with
  | nil =>
    have e := is_length h'
    have hw : w.sum = 0 := h
    rw [hw] at e
    exact (List.length_eq_zero_iff.1 e).symm
  | cons x l ih =>
    cases l' with
    | nil =>
      have hw : w.sum = 0 := h'
      have := sum_pos h.1
      omega
    | cons y l' =>
      have h1 := rank_first h
      have h2 := rank_first h'
      rw [he] at h1
      obtain rfl := find_one w h1.1 h1.2 h2.1 h2.2
      rw [rank, rank] at he
      rw [ih h.2 h'.2 (by omega)]
/-- Numbers rise with the lists. -/
theorem rank_lex {w p l l' : List Nat} {x y : Nat} (h : Is w (p ++ x :: l)) (h' : Is w (p ++ y :: l')) (hxy : x < y) : rank w (p ++ x :: l) < rank w (p ++ y :: l') := by
  induction p generalizing w with
  | nil =>
    have h1 := rank_first h
    have h2 := rank_first h'
    have := shares_le w (i := x + 1) (j := y) hxy
    simp only [List.nil_append]
    omega
  | cons z p ih => have := ih h.2 h'.2; simp only [List.cons_append, rank]; omega
end Go.Proofs.Odo
