/- Lists whose numbers are below some sizes, by their numbers. -/
namespace Go.Proofs.Odo
def prod : List Nat → Nat
  | [] => 1
  | p :: ps => p * prod ps
theorem prod_append (u v : List Nat) : prod (u ++ v) = prod u * prod v := by
  induction u with
  | nil => simp [prod]
  | cons p u ih => rw [List.cons_append, prod, prod, ih, Nat.mul_assoc]
theorem prod_zero {p : List Nat} (h : 0 ∈ p) : prod p = 0 := by
  induction p with
  | nil => cases h
  | cons x p ih =>
    rcases List.mem_cons.1 h with h | h
    · rw [prod, ← h, Nat.zero_mul]
    · rw [prod, ih h, Nat.mul_zero]
theorem prod_pos {p : List Nat} (h : ¬ 0 ∈ p) : 0 < prod p := by
  induction p with
  | nil => exact Nat.one_pos
  | cons x p ih =>
    simp only [List.mem_cons, not_or] at h
    exact Nat.mul_pos (by omega) (ih h.2)
/-- Is it a list of the space? -/
def IsP : List Nat → List Nat → Prop
  | [], [] => True
  | p :: ps, x :: l => x < p ∧ IsP ps l
  | _, _ => False
def rankP : List Nat → List Nat → Nat
  | _ :: ps, x :: l => x * prod ps + rankP ps l
  | _, _ => 0
def atP : List Nat → Nat → List Nat
  | [], _ => []
  | _ :: ps, n => n / prod ps :: atP ps (n % prod ps)
theorem isP_length {p l : List Nat} (h : IsP p l) : l.length = p.length := by
  induction p generalizing l with
  | nil => cases l with
    | nil => rfl
    | cons x l => exact h.elim
  | cons a p ih => cases l with
    | nil => exact h.elim
    | cons x l => simp [ih h.2]
theorem rankP_lt {p l : List Nat} (h : IsP p l) : rankP p l < prod p := by
  induction p generalizing l with
  | nil => cases l with
    | nil => exact Nat.one_pos
    | cons x l => exact h.elim
  | cons a p ih => cases l with
    | nil => exact h.elim
    | cons x l =>
      have h1 := ih h.2
      have h2 : (x + 1) * prod p ≤ a * prod p := Nat.mul_le_mul_right _ h.1
      rw [Nat.add_mul, Nat.one_mul] at h2
      rw [rankP, prod]
      omega
theorem atP_is {p : List Nat} {n : Nat} (h : n < prod p) : IsP p (atP p n) := by
  induction p generalizing n with
  | nil => exact trivial
  | cons a p ih =>
    rw [prod] at h
    have hp : 0 < prod p := by
      rcases Nat.eq_zero_or_pos (prod p) with hz | hz
      · rw [hz, Nat.mul_zero] at h; omega
      · exact hz
    exact ⟨(Nat.div_lt_iff_lt_mul hp).2 h, ih (Nat.mod_lt _ hp)⟩
theorem rankP_atP {p : List Nat} {n : Nat} (h : n < prod p) : rankP p (atP p n) = n := by
  induction p generalizing n with
  | nil => rw [prod] at h; show 0 = n; omega
  | cons a p ih =>
    rw [prod] at h
    have hp : 0 < prod p := by
      rcases Nat.eq_zero_or_pos (prod p) with hz | hz
      · rw [hz, Nat.mul_zero] at h; omega
      · exact hz
    rw [atP, rankP, ih (Nat.mod_lt _ hp), Nat.mul_comm]
    exact Nat.div_add_mod _ _
theorem atP_rankP {p l : List Nat} (h : IsP p l) : atP p (rankP p l) = l := by
  induction p generalizing l with
  | nil => cases l with
    | nil => rfl
    | cons x l => exact h.elim
  | cons a p ih => cases l with
    | nil => exact h.elim
    | cons x l =>
      have h1 := rankP_lt h.2
      rw [rankP, atP, Nat.add_comm, Nat.add_mul_div_right _ _ (by omega), Nat.div_eq_of_lt h1, Nat.zero_add, Nat.add_mul_mod_self_right, Nat.mod_eq_of_lt h1, ih h.2]
theorem rankP_lex {p q l l' : List Nat} {x y : Nat} (h : IsP p (q ++ x :: l)) (h' : IsP p (q ++ y :: l')) (hxy : x < y) : rankP p (q ++ x :: l) < rankP p (q ++ y :: l') := by
  induction q generalizing p with
  | nil =>
    cases p with
    | nil => exact h.elim
    | cons a p =>
      have h1 := rankP_lt h.2
      have h2 : (x + 1) * prod p ≤ y * prod p := Nat.mul_le_mul_right _ hxy
      rw [Nat.add_mul, Nat.one_mul] at h2
      simp only [List.nil_append, rankP]
      omega
  | cons z q ih =>
    cases p with
    | nil => exact h.elim
    | cons a p => have := ih h.2 h'.2; simp only [List.cons_append, rankP]; omega
/-- The digits as they come from the last one on. -/
theorem digit (n a q : Nat) : n % (a * q) / q = n / q % a := by
  rw [Nat.mul_comm]; exact Nat.mod_mul_right_div_self n q a
/-- The list whose numbers are n divided by what stands behind, less whole rounds. -/
def digits : List Nat → Nat → List Nat
  | [], _ => []
  | p :: ps, n => n / prod ps % p :: digits ps n
theorem digits_mod {p : List Nat} (n : Nat) : ∀ m, (∀ k, n = m + k * prod p → digits p m = digits p n) := by
  induction p with
  | nil => intro m k _; rfl
  | cons a p ih =>
    intro m k h
    rw [prod] at h
    rw [digits, digits]
    have h1 : digits p m = digits p n := ih m (k * a) (by rw [h, Nat.mul_assoc])
    rw [h1]
    congr 1
    rcases Nat.eq_zero_or_pos (prod p) with hz | hz
    · rw [hz, Nat.div_zero, Nat.div_zero]
    · rw [h, ← Nat.mul_assoc, Nat.add_mul_div_right _ _ hz, Nat.add_mul_mod_self_right]
theorem atP_digits {p : List Nat} {n : Nat} (h : n < prod p) : atP p n = digits p n := by
  induction p generalizing n with
  | nil => rfl
  | cons a p ih =>
    rw [prod] at h
    have hp : 0 < prod p := by
      rcases Nat.eq_zero_or_pos (prod p) with hz | hz
      · rw [hz, Nat.mul_zero] at h; omega
      · exact hz
    rw [atP, digits, ih (Nat.mod_lt _ hp), Nat.mod_eq_of_lt ((Nat.div_lt_iff_lt_mul hp).2 h)]
    congr 1
    exact digits_mod n _ (n / prod p) (by rw [Nat.mul_comm]; exact (Nat.mod_add_div n (prod p)).symm)
end Go.Proofs.Odo
