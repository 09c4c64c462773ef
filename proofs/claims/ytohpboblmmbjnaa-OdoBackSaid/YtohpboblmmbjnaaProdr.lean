/- What odo's products answer: their lists by number, their lists' numbers. -/
import Derived.Test.YtohpboblmmbjnaaProdc
namespace Go.Proofs.Ytohpboblmmbjnaa.P
open Go.RowKit Go.Proofs.YtohpboblmmbjnaaW.PrintWords Go.Proofs.YtohpboblmmbjnaaW.PrintMore Go.Proofs.Odo

theorem getD_mem {p : List Nat} {j : Nat} (h : j < p.length) : p.getD j 0 ∈ p := by
  rw [List.getD_eq_getElem?_getD, List.getElem?_eq_getElem h]
  exact List.getElem_mem h
theorem drop_cons (p : List Nat) {j : Nat} (h : j < p.length) : p.drop j = p.getD j 0 :: p.drop (j + 1) := by
  rw [List.drop_eq_getElem_cons h]
  congr 1
  simp [List.getD_eq_getElem?_getD, List.getElem?_eq_getElem h]
theorem tdivN (a b : Nat) : (a : Int).tdiv (b : Int) = ((a / b : Nat) : Int) := by rw [Int.tdiv_eq_ediv_of_nonneg (Int.natCast_nonneg _)]; rfl
theorem tmodN (a b : Nat) : (a : Int).tmod (b : Int) = ((a % b : Nat) : Int) := by rw [Int.tmod_eq_emod_of_nonneg (Int.natCast_nonneg _)]; rfl

theorem at_list (p : List Nat) (n : Nat) (hn : n < 18446744073709551616) (h0 : ¬ 0 ∈ p) (hp : ∀ x ∈ p, x < 9223372036854775808) (hl : p.length ≤ 9223372036854775806) : ∀ (m : Nat), m ≤ p.length →
    Ev (fun k => odo_product_at.l0 k (ints p) ((n / prod (p.drop m) : Nat) : Int) (List.replicate m 0 ++ ints (digits (p.drop m) n)) ((m : Int) - 1)) (ints (digits p n)) := by
  intro m
  induction m with
  | zero =>
    intro _
    refine Ev.step (fun k => ?_) (Ev.now _)
    simp only [odo_product_at.l0]
    rw [if_neg (by omega)]
    simp
  | succ m ih =>
    intro hm
    have hml : m < p.length := by omega
    have hx := hp _ (getD_mem hml)
    have hx0 : 0 < p.getD m 0 := Nat.pos_of_ne_zero (fun h => h0 (h ▸ getD_mem hml))
    have hd := drop_cons p hml
    have h1 := ih (by omega)
    rw [hd, digits, prod, Nat.mul_comm, ← Nat.div_div_eq_div_mul] at h1
    obtain ⟨q, hq⟩ : ∃ q, n / prod (p.drop (m + 1)) = q := ⟨_, rfl⟩
    have hqn : q ≤ n := by rw [← hq]; exact Nat.div_le_self _ _
    rw [hq] at h1 ⊢
    obtain ⟨x, hxe⟩ : ∃ x, p.getD m 0 = x := ⟨_, rfl⟩
    have hrd := rd_ints p m
    rw [hxe] at h1 hx hx0 hrd
    have hqx : q / x ≤ q := Nat.div_le_self _ _
    have hqm : q % x < x := Nat.mod_lt _ hx0
    refine Ev.step (fun k => ?_) h1
    simp only [odo_product_at.l0]
    have e0 : ((m + 1 : Nat) : Int) - 1 = (m : Int) := by omega
    have e1 : IntKind.u64.wrap (x : Int) = (x : Int) := u64_wrap (by omega) (by omega)
    have hq64 : q / x < 18446744073709551616 := by omega
    have e3 : IntKind.u64.wrap ((q / x : Nat) : Int) = ((q / x : Nat) : Int) := u64_wrap (Int.natCast_nonneg _) (Int.ofNat_lt.2 hq64)
    rw [e0, if_pos (by omega), if_pos (by omega), if_pos (by rw [ints_length]; omega), hrd, e1, if_neg (by omega), if_pos (by rw [List.length_append, List.length_replicate]; omega), tdivN, tmodN,
      e3, w64 (by omega) (by omega), w64 (by omega) (by omega), Int.toNat_natCast]
    congr 1
    rw [List.replicate_succ', List.append_assoc, List.set_append_right _ _ (by simp)]
    simp [ints]
theorem at_is (p : List Nat) (n : Nat) (hn : n < prod p) (hb : prod p < 18446744073709551616) (hp : ∀ x ∈ p, x < 9223372036854775808) (hl : p.length ≤ 35184372088832) :
    Ev (fun k => odo_product_at.f k (ints p) n) (ints (atP p n)) := by
  have h0 : ¬ 0 ∈ p := fun h => by rw [prod_zero h] at hn; omega
  have h := at_list p n (by omega) h0 hp (by omega) p.length (Nat.le_refl _)
  rw [atP_digits hn]
  refine Ev.congr (fun k => ?_) h
  unfold odo_product_at.f
  rw [ints_length, if_pos (by omega), Int.toNat_natCast, if_pos hl, w64 (by omega) (by omega)]
  simp [List.drop_length, prod, digits, ints]

/-- Is a list of the program's one of a product's? -/
def ValidP (p : List Nat) (l : List Int) : Prop := ∃ x, l = ints x ∧ IsP p x
theorem validP_of (p : List Nat) : ∀ (l : List Int), l.length = p.length → (∀ i, i < p.length → 0 ≤ rd l i ∧ rd l i < (p.getD i 0 : Nat)) → ValidP p l := by
  induction p with
  | nil =>
    intro l hl _
    obtain rfl := List.length_eq_zero_iff.1 hl
    exact ⟨[], rfl, trivial⟩
  | cons a p ih =>
    intro l hl h
    cases l with
    | nil => simp at hl
    | cons x l =>
      have h0 := h 0 (by simp)
      have hx0 : 0 ≤ x := h0.1
      have hxa : x < (a : Int) := h0.2
      obtain ⟨y, hy, hi⟩ := ih l (by simpa using hl) (fun i hi => h (i + 1) (by simpa using hi))
      refine ⟨x.toNat :: y, ?_, ?_, hi⟩
      · rw [hy]
        show _ = Int.ofNat x.toNat :: ints y
        congr 1
        show x = ((x.toNat : Nat) : Int)
        omega
      · omega
theorem validP_at {p : List Nat} {l : List Int} (h : ValidP p l) : l.length = p.length ∧ ∀ i, i < p.length → 0 ≤ rd l i ∧ rd l i < (p.getD i 0 : Nat) := by
  obtain ⟨x, rfl, hx⟩ := h
  refine ⟨by rw [ints_length, isP_length hx], fun i hi => ?_⟩
  rw [rd_ints]
  refine ⟨by omega, ?_⟩
  induction p generalizing x i with
  | nil => simp at hi
  | cons a p ih =>
    cases x with
    | nil => exact hx.elim
    | cons y x =>
      cases i with
      | zero => have := hx.1; simp; omega
      | succ i => have := ih x hx.2 i (by simpa using hi); simpa using this

theorem rank_bad (p : List Nat) (l : List Int) (hlen : l.length = p.length) (hl : p.length ≤ 9223372036854775806) (hb : ¬ ValidP p l) : ∀ (d j : Nat), j + d = p.length → (∀ i, i < j → 0 ≤ rd l i ∧ rd l i < (p.getD i 0 : Nat)) → ∀ a : Int,
    Ev (fun k => odo_product_rank.l0 k (ints p) a l (l.length : Int) (j : Int)) (0, false) := by
  intro d
  induction d with
  | zero =>
    intro j hj hv a
    exact absurd (validP_of p l hlen (fun i hi => hv i (by omega))) hb
  | succ d ih =>
    intro j hj hv a
    by_cases h1 : rd l (j : Int) < 0
    · refine Ev.step (fun k => ?_) (Ev.now _)
      simp only [odo_product_rank.l0]
      rw [if_pos (by omega), if_pos (by omega), if_pos (by omega), if_pos h1]
    · by_cases h2 : rd l (j : Int) ≥ (p.getD j 0 : Nat)
      · refine Ev.step (fun k => ?_) (Ev.now _)
        simp only [odo_product_rank.l0]
        rw [if_pos (by omega), if_pos (by omega), if_pos (by omega), if_neg h1, if_pos (by rw [ints_length]; omega), rd_ints, if_pos h2]
      · refine Ev.step (fun k => ?_) (ih (j + 1) (by omega) (fun i hi => by
          rcases Nat.lt_or_ge i j with h | h
          · exact hv i h
          · obtain rfl : i = j := by omega
            omega) (IntKind.u64.wrap ((IntKind.u64.wrap (a * (IntKind.u64.wrap ((p.getD j 0 : Nat) : Int)))) + (IntKind.u64.wrap (rd l j)))))
        simp only [odo_product_rank.l0]
        rw [if_pos (by omega), if_pos (by omega), if_pos (by omega), if_neg h1, if_pos (by rw [ints_length]; omega), rd_ints, if_neg h2, w64 (by omega) (by omega)]
        rfl
theorem rankP_snoc {p x : List Nat} (h : p.length = x.length) (a y : Nat) : rankP (p ++ [a]) (x ++ [y]) = rankP p x * a + y := by
  induction p generalizing x with
  | nil =>
    cases x with
    | nil => simp [rankP, prod]
    | cons z x => simp at h
  | cons b p ih =>
    cases x with
    | nil => simp at h
    | cons z x =>
      simp only [List.cons_append, rankP]
      rw [ih (by simpa using h), prod_append, Nat.add_mul]
      simp only [prod, Nat.mul_one]
      rw [← Nat.mul_assoc]
      omega
theorem isP_take {p x : List Nat} (h : IsP p x) (j : Nat) : IsP (p.take j) (x.take j) := by
  induction p generalizing x j with
  | nil => cases x with
    | nil => simp [IsP]
    | cons z x => exact h.elim
  | cons a p ih => cases x with
    | nil => exact h.elim
    | cons z x => cases j with
      | zero => exact trivial
      | succ j => exact ⟨h.1, ih h.2 j⟩
theorem rank_good (p x : List Nat) (hx : IsP p x) (hb : prod p < 18446744073709551616) (hp : ∀ a ∈ p, a < 9223372036854775808) (hl : p.length ≤ 9223372036854775806) : ∀ (d j : Nat), j + d = p.length →
    Ev (fun k => odo_product_rank.l0 k (ints p) ((rankP (p.take j) (x.take j) : Nat) : Int) (ints x) (p.length : Int) (j : Int)) (((rankP p x : Nat) : Int), true) := by
  have hxl := isP_length hx
  have h0 : ¬ 0 ∈ p := fun h => by have := rankP_lt hx; rw [prod_zero h] at this; omega
  intro d
  induction d with
  | zero =>
    intro j hj
    refine Ev.step (fun k => ?_) (Ev.now _)
    simp only [odo_product_rank.l0]
    rw [if_neg (by omega), List.take_of_length_le (by omega), List.take_of_length_le (by omega)]
  | succ d ih =>
    intro j hj
    have hjl : j < p.length := by omega
    have hv := (validP_at (l := ints x) ⟨x, rfl, hx⟩).2 j hjl
    rw [rd_ints] at hv
    have ha := hp _ (getD_mem hjl)
    have hs : rankP (p.take (j + 1)) (x.take (j + 1)) = rankP (p.take j) (x.take j) * p.getD j 0 + x.getD j 0 := by
      rw [take_snoc_nat p j hjl, take_snoc_nat x j (by omega), rankP_snoc (by simp; omega)]
    have hlt := rankP_lt (isP_take hx (j + 1))
    have hle := prod_take_le p h0 (j + 1)
    rw [hs] at hlt
    have hr := ih (j + 1) (by omega)
    rw [hs] at hr
    obtain ⟨A, hA⟩ : ∃ A, p.getD j 0 = A := ⟨_, rfl⟩
    obtain ⟨Y, hY⟩ : ∃ Y, x.getD j 0 = Y := ⟨_, rfl⟩
    obtain ⟨R, hR⟩ : ∃ R, rankP (p.take j) (x.take j) = R := ⟨_, rfl⟩
    have e1 := rd_ints p j
    have e2 := rd_ints x j
    rw [hA] at hr hv hlt ha e1
    rw [hY] at hr hv hlt e2
    rw [hR] at hr hlt ⊢
    obtain ⟨RA, hRA⟩ : ∃ RA, R * A = RA := ⟨_, rfl⟩
    refine Ev.step (fun k => ?_) hr
    simp only [odo_product_rank.l0]
    rw [if_pos (by omega), if_pos (by omega), if_pos (by rw [ints_length]; omega), e2, if_neg (by omega), if_pos (by rw [ints_length]; omega), e1, if_neg (by omega), w64 (by omega) (by omega),
      u64_wrap (x := (A : Int)) (by omega) (by omega), u64_wrap (x := (Y : Int)) (by omega) (by omega), Mul64.mulN, hRA]
    rw [hRA] at hlt
    rw [u64_wrap (x := (RA : Int)) (by omega) (by omega), u64_wrap (by omega) (by omega)]
    rfl
/-- What rank answers of a product. -/
theorem rankP_is (p : List Nat) (l : List Int) (hb : prod p < 18446744073709551616) (hp : ∀ a ∈ p, a < 9223372036854775808) (hl : p.length ≤ 9223372036854775806) :
    (¬ ValidP p l → Ev (fun k => odo_product_rank.f k (ints p) l) (0, false)) ∧ (∀ x, l = ints x → IsP p x → Ev (fun k => odo_product_rank.f k (ints p) l) (((rankP p x : Nat) : Int), true)) := by
  constructor
  · intro hv
    by_cases hlen : l.length = p.length
    · refine Ev.congr (fun k => ?_) (rank_bad p l hlen hl hv p.length 0 (by omega) (fun i hi => by omega) 0)
      unfold odo_product_rank.f
      rw [ints_length, if_pos (by omega)]
      rfl
    · refine Ev.congr (fun k => ?_) (Ev.now _)
      unfold odo_product_rank.f
      rw [ints_length, if_neg (by omega)]
  · rintro x rfl hx
    refine Ev.congr (fun k => ?_) (rank_good p x hx hb hp hl p.length 0 (by omega))
    have hxl := isP_length hx
    unfold odo_product_rank.f
    rw [ints_length, ints_length, if_pos (by omega), hxl]
    simp [rankP]
end Go.Proofs.Ytohpboblmmbjnaa.P
