/- Lists whose numbers are below some sizes, by their numbers. -/
import Derived.Test.YtohpboblmmbjnaaApp
import Derived.Test.YtohpboblmmbjnaaP6
import Derived.Test.YtohpboblmmbjnaaO5
import Derived.Test.YtohpboblmmbjnaaP0
import Derived.Test.YtohpboblmmbjnaaP1
namespace Go.Proofs.Odo
def prod : List Nat → Nat
  | [] => 1
  | p :: ps => p * prod ps
theorem prod_append (u v : List Nat) : prod (u ++ v) = prod u * prod v := by
  induction u with
  | nil => simp [prod]
  | cons p u ih => rw [List.cons_append, prod, prod, ih, Nat.mul_assoc]
theorem prod_zero {p : List Nat} (h : 0 ∈ p) : prod p = 0 := by
  induction p with
  | nil => cases h
  | cons x p ih =>
    rcases List.mem_cons.1 h with h | h
    · rw [prod, ← h, Nat.zero_mul]
    · rw [prod, ih h, Nat.mul_zero]
theorem prod_pos {p : List Nat} (h : ¬ 0 ∈ p) : 0 < prod p := by
  induction p with
  | nil => exact Nat.one_pos
  | cons x p ih =>
    simp only [List.mem_cons, not_or] at h
    exact Nat.mul_pos (by omega) (ih h.2)
/-- Is it a list of the space? -/
def IsP : List Nat → List Nat → Prop
  | [], [] => True
  | p :: ps, x :: l => x < p ∧ IsP ps l
  | _, _ => False
def rankP : List Nat → List Nat → Nat
  | _ :: ps, x :: l => x * prod ps + rankP ps l
  | _, _ => 0
def atP : List Nat → Nat → List Nat
  | [], _ => []
  | _ :: ps, n => n / prod ps :: atP ps (n % prod ps)
theorem isP_length {p l : List Nat} (h : IsP p l) : l.length = p.length := by
  induction p generalizing l with
  | nil => cases l with
    | nil => rfl
    | cons x l => exact h.elim
  | cons a p ih => cases l with
    | nil => exact h.elim
    | cons x l => simp [ih h.2]
theorem rankP_lt {p l : List Nat} (h : IsP p l) : rankP p l < prod p := by
  induction p generalizing l with
  | nil => cases l with
    | nil => exact Nat.one_pos
    | cons x l => exact h.elim
  | cons a p ih => cases l with
    | nil => exact h.elim
    | cons x l =>
      have h1 := ih h.2
      have h2 : (x + 1) * prod p ≤ a * prod p := Nat.mul_le_mul_right _ h.1
      rw [Nat.add_mul, Nat.one_mul] at h2
      rw [rankP, prod]
      omega
theorem atP_is {p : List Nat} {n : Nat} (h : n < prod p) : IsP p (atP p n) := by
  induction p generalizing n with
  | nil => exact trivial
  | cons a p ih =>
    rw [prod] at h
    have hp : 0 < prod p := by
      rcases Nat.eq_zero_or_pos (prod p) with hz | hz
      · rw [hz, Nat.mul_zero] at h; omega
      · exact hz
    exact ⟨(Nat.div_lt_iff_lt_mul hp).2 h, ih (Nat.mod_lt _ hp)⟩
theorem rankP_atP {p : List Nat} {n : Nat} (h : n < prod p) : rankP p (atP p n) = n := by
  induction p generalizing n with
  | nil => rw [prod] at h; show 0 = n; omega
  | cons a p ih =>
    rw [prod] at h
    have hp : 0 < prod p := by
      rcases Nat.eq_zero_or_pos (prod p) with hz | hz
      · rw [hz, Nat.mul_zero] at h; omega
      · exact hz
    rw [atP, rankP, ih (Nat.mod_lt _ hp), Nat.mul_comm]
    exact Nat.div_add_mod _ _
theorem atP_rankP {p l : List Nat} (h : IsP p l) : atP p (rankP p l) = l := by
  induction p generalizing l with
  | nil => cases l with
    | nil => rfl
    | cons x l => exact h.elim
  | cons a p ih => cases l with
    | nil => exact h.elim
    | cons x l =>
      have h1 := rankP_lt h.2
      rw [rankP, atP, Nat.add_comm, Nat.add_mul_div_right _ _ (by omega), Nat.div_eq_of_lt h1, Nat.zero_add, Nat.add_mul_mod_self_right, Nat.mod_eq_of_lt h1, ih h.2]
theorem rankP_lex {p q l l' : List Nat} {x y : Nat} (h : IsP p (q ++ x :: l)) (h' : IsP p (q ++ y :: l')) (hxy : x < y) : rankP p (q ++ x :: l) < rankP p (q ++ y :: l') := by
  induction q generalizing p with
  | nil =>
    cases p with
    | nil => exact h.elim
    | cons a p =>
      have h1 := rankP_lt h.2
      have h2 : (x + 1) * prod p ≤ y * prod p := Nat.mul_le_mul_right _ hxy
      rw [Nat.add_mul, Nat.one_mul] at h2
      simp only [List.nil_append, rankP]
      omega
  | cons z q ih =>
    cases p with
    | nil => exact h.elim
    | cons a p => have := ih h.2 h'.2; simp only [List.cons_append, rankP]; omega
/-- The list whose numbers are n divided by what stands behind, less whole rounds. -/
def digits : List Nat → Nat → List Nat
  | [], _ => []
  | p :: ps, n => n / prod ps % p :: digits ps n
theorem digits_mod {p : List Nat} (n : Nat) : ∀ m, (∀ k, n = m + k * prod p → digits p m = digits p n) := by
  induction p with
  | nil => intro m k _; rfl
  | cons a p ih =>
    intro m k h
    rw [prod] at h
    rw [digits, digits]
    have h1 : digits p m = digits p n := ih m (k * a) (by rw [h, Nat.mul_assoc])
    rw [h1]
    congr 1
    rcases Nat.eq_zero_or_pos (prod p) with hz | hz
    · rw [hz, Nat.div_zero, Nat.div_zero]
    · rw [h, ← Nat.mul_assoc, Nat.add_mul_div_right _ _ hz, Nat.add_mul_mod_self_right]
theorem atP_digits {p : List Nat} {n : Nat} (h : n < prod p) : atP p n = digits p n := by
  induction p generalizing n with
  | nil => rfl
  | cons a p ih =>
    rw [prod] at h
    have hp : 0 < prod p := by
      rcases Nat.eq_zero_or_pos (prod p) with hz | hz
      · rw [hz, Nat.mul_zero] at h; omega
      · exact hz
    rw [atP, digits, ih (Nat.mod_lt _ hp), Nat.mod_eq_of_lt ((Nat.div_lt_iff_lt_mul hp).2 h)]
    congr 1
    exact digits_mod n _ (n / prod p) (by rw [Nat.mul_comm]; exact (Nat.mod_add_div n (prod p)).symm)
end Go.Proofs.Odo
/- What odo's products answer: their count, their lists by number, their lists' numbers. -/
namespace Go.Proofs.Ytohpboblmmbjnaa.P
open Go.RowKit Go.Proofs.YtohpboblmmbjnaaW.PrintWords Go.Proofs.YtohpboblmmbjnaaW.PrintMore Go.Proofs.Odo

theorem index_list (l : List Int) (v : Int) (hl : l.length ≤ 9223372036854775806) : ∀ (d j : Nat), j + d = l.length →
    ∃ r : Int, Ev (fun k => slices_Index_odo_product_int.l0 k l v (l.length : Int) (j : Int)) r ∧ (0 ≤ r ↔ v ∈ l.drop j) := by
  intro d
  induction d with
  | zero =>
    intro j hj
    refine ⟨-1, Ev.step (fun k => ?_) (Ev.now _), ?_⟩
    · simp only [slices_Index_odo_product_int.l0]
      rw [if_neg (by omega)]
    · rw [List.drop_of_length_le (by omega)]; simp
  | succ d ih =>
    intro j hj
    have hjl : j < l.length := by omega
    have hd : l.drop j = rd l j :: l.drop (j + 1) := by
      rw [List.drop_eq_getElem_cons hjl]
      congr 1
      simp [rd, List.getD_eq_getElem?_getD, List.getElem?_eq_getElem hjl]
    by_cases hv : v = rd l j
    · refine ⟨j, Ev.step (fun k => ?_) (Ev.now _), ?_⟩
      · simp only [slices_Index_odo_product_int.l0]
        rw [if_pos (by omega), if_pos (by omega), if_pos (by omega), if_pos hv]
      · rw [hd, ← hv]; simp
    · obtain ⟨r, h1, h2⟩ := ih (j + 1) (by omega)
      refine ⟨r, Ev.step (fun k => ?_) h1, ?_⟩
      · simp only [slices_Index_odo_product_int.l0]
        rw [if_pos (by omega), if_pos (by omega), if_pos (by omega), if_neg hv, w64 (by omega) (by omega)]
        rfl
      · rw [hd, h2]; simp [hv]
theorem contains_is (l : List Int) (v : Int) (hl : l.length ≤ 9223372036854775806) : Ev (fun k => slices_Contains_odo_product_int.f k l v) (decide (v ∈ l)) := by
  obtain ⟨r, h1, h2⟩ := index_list l v hl l.length 0 (by omega)
  have e : decide (v ∈ l) = decide (r ≥ 0) := by
    rw [List.drop_zero] at h2
    exact decide_eq_decide.2 h2.symm
  rw [e]
  refine Ev.congr (fun k => ?_) (Ev.bind (f := fun _ t => some (decide (t ≥ 0))) h1 (Ev.now _))
  rfl

/-- What count answers of a product. -/
def prodRes (p : List Nat) : Int × Bool := if prod p < 18446744073709551616 then (((prod p : Nat) : Int), true) else (0, false)
theorem prod_take_le (p : List Nat) (h0 : ¬ 0 ∈ p) (j : Nat) : prod (p.take j) ≤ prod p := by
  have h := prod_append (p.take j) (p.drop j)
  rw [List.take_append_drop] at h
  rw [h]
  exact Nat.le_mul_of_pos_right _ (prod_pos (fun hm => h0 (List.mem_of_mem_drop hm)))
theorem prod_list (p : List Nat) (h0 : ¬ 0 ∈ p) (hp : ∀ x ∈ p, x < 18446744073709551616) (hl : p.length ≤ 9223372036854775806) : ∀ (d j : Nat), j + d = p.length → prod (p.take j) < 18446744073709551616 →
    Ev (fun k => odo_product_count.l0 k ((prod (p.take j) : Nat) : Int) (ints p) (p.length : Int) (j : Int)) (prodRes p) := by
  intro d
  induction d with
  | zero =>
    intro j hj hb
    have ht : p.take j = p := List.take_of_length_le (by omega)
    rw [ht] at hb ⊢
    refine Ev.step (fun k => ?_) (Ev.now _)
    simp only [odo_product_count.l0]
    rw [if_neg (by omega)]
    unfold prodRes
    rw [if_pos hb]
  | succ d ih =>
    intro j hj hb
    have hjl : j < p.length := by omega
    have hts := take_snoc_nat p j hjl
    have hx : p.getD j 0 < 18446744073709551616 := by
      rw [List.getD_eq_getElem?_getD, List.getElem?_eq_getElem hjl]
      exact hp _ (List.getElem_mem hjl)
    have hpr : prod (p.take (j + 1)) = prod (p.take j) * p.getD j 0 := by rw [hts, prod_append]; simp [prod]
    have hm := mul64_is (prod (p.take j)) (p.getD j 0) hb hx
    rw [← hpr] at hm
    have hdm := Nat.div_add_mod (prod (p.take (j + 1))) 18446744073709551616
    have e1 : IntKind.u64.wrap ((p.getD j 0 : Nat) : Int) = ((p.getD j 0 : Nat) : Int) := u64_wrap (by omega) (by omega)
    by_cases hov : 0 < prod (p.take (j + 1)) / 18446744073709551616
    · have hr : prodRes p = (0, false) := by
        unfold prodRes
        rw [if_neg (by have := prod_take_le p h0 (j + 1); omega)]
      rw [hr]
      refine Ev.step (fun k => ?_) (Ev.now _)
      simp only [odo_product_count.l0]
      rw [if_pos (by omega), if_pos (by omega), if_pos (by rw [ints_length]; omega), rd_ints, e1, hm]
      simp only [Option.bind_some]
      exact if_pos (Int.ofNat_lt.2 hov)
    · refine Ev.step (fun k => ?_) (ih (j + 1) (by omega) (by omega))
      simp only [odo_product_count.l0]
      rw [if_pos (by omega), if_pos (by omega), if_pos (by rw [ints_length]; omega), rd_ints, e1, hm]
      simp only [Option.bind_some]
      refine (if_neg (fun h => hov (Int.ofNat_lt.1 h))).trans ?_
      rw [w64 (by omega) (by omega), Nat.mod_eq_of_lt (by omega)]
      rfl
theorem prod_is (p : List Nat) (hp : ∀ x ∈ p, x < 18446744073709551616) (hl : p.length ≤ 9223372036854775806) : Ev (fun k => odo_product_count.f k (ints p)) (prodRes p) := by
  have hc := contains_is (ints p) 0 (by rw [ints_length]; exact hl)
  by_cases h0 : 0 ∈ p
  · have hm : (0 : Int) ∈ ints p := List.mem_map.2 ⟨0, h0, rfl⟩
    have hr : prodRes p = (0, true) := by unfold prodRes; rw [prod_zero h0]; rfl
    rw [decide_eq_true hm] at hc
    rw [hr]
    exact Ev.congr (fun k => rfl) (Ev.bind hc (Ev.congr (fun k => if_pos rfl) (Ev.now _)))
  · have hm : ¬ (0 : Int) ∈ ints p := by
      intro h
      obtain ⟨x, hx, he⟩ := List.mem_map.1 h
      have : x = 0 := by have : (x : Int) = 0 := he; omega
      exact h0 (this ▸ hx)
    rw [decide_eq_false hm] at hc
    have h := prod_list p h0 hp hl p.length 0 (by omega) (by simp [prod])
    refine Ev.congr (fun k => rfl) (Ev.bind hc (Ev.congr (fun k => (if_neg (by decide)).trans ?_) h))
    rw [ints_length]
    simp [prod]
end Go.Proofs.Ytohpboblmmbjnaa.P
/- What odo's products answer: their lists by number, their lists' numbers. -/
namespace Go.Proofs.Ytohpboblmmbjnaa.P
open Go.RowKit Go.Proofs.YtohpboblmmbjnaaW.PrintWords Go.Proofs.YtohpboblmmbjnaaW.PrintMore Go.Proofs.Odo

theorem getD_mem {p : List Nat} {j : Nat} (h : j < p.length) : p.getD j 0 ∈ p := by
  rw [List.getD_eq_getElem?_getD, List.getElem?_eq_getElem h]
  exact List.getElem_mem h
theorem drop_cons (p : List Nat) {j : Nat} (h : j < p.length) : p.drop j = p.getD j 0 :: p.drop (j + 1) := by
  rw [List.drop_eq_getElem_cons h]
  congr 1
  simp [List.getD_eq_getElem?_getD, List.getElem?_eq_getElem h]
theorem tdivN (a b : Nat) : (a : Int).tdiv (b : Int) = ((a / b : Nat) : Int) := by rw [Int.tdiv_eq_ediv_of_nonneg (Int.natCast_nonneg _)]; rfl
theorem tmodN (a b : Nat) : (a : Int).tmod (b : Int) = ((a % b : Nat) : Int) := by rw [Int.tmod_eq_emod_of_nonneg (Int.natCast_nonneg _)]; rfl

theorem at_list (p : List Nat) (n : Nat) (hn : n < 18446744073709551616) (h0 : ¬ 0 ∈ p) (hp : ∀ x ∈ p, x < 9223372036854775808) (hl : p.length ≤ 9223372036854775806) : ∀ (m : Nat), m ≤ p.length →
    Ev (fun k => odo_product_at.l0 k (ints p) ((n / prod (p.drop m) : Nat) : Int) (List.replicate m 0 ++ ints (digits (p.drop m) n)) ((m : Int) - 1)) (ints (digits p n)) := by
  intro m
  induction m with
  | zero =>
    intro _
    refine Ev.step (fun k => ?_) (Ev.now _)
    simp only [odo_product_at.l0]
    rw [if_neg (by omega)]
    simp
  | succ m ih =>
    intro hm
    have hml : m < p.length := by omega
    have hx := hp _ (getD_mem hml)
    have hx0 : 0 < p.getD m 0 := Nat.pos_of_ne_zero (fun h => h0 (h ▸ getD_mem hml))
    have hd := drop_cons p hml
    have h1 := ih (by omega)
    rw [hd, digits, prod, Nat.mul_comm, ← Nat.div_div_eq_div_mul] at h1
    obtain ⟨q, hq⟩ : ∃ q, n / prod (p.drop (m + 1)) = q := ⟨_, rfl⟩
    have hqn : q ≤ n := by rw [← hq]; exact Nat.div_le_self _ _
    rw [hq] at h1 ⊢
    obtain ⟨x, hxe⟩ : ∃ x, p.getD m 0 = x := ⟨_, rfl⟩
    have hrd := rd_ints p m
    rw [hxe] at h1 hx hx0 hrd
    have hqx : q / x ≤ q := Nat.div_le_self _ _
    have hqm : q % x < x := Nat.mod_lt _ hx0
    refine Ev.step (fun k => ?_) h1
    simp only [odo_product_at.l0]
    have e0 : ((m + 1 : Nat) : Int) - 1 = (m : Int) := by omega
    have e1 : IntKind.u64.wrap (x : Int) = (x : Int) := u64_wrap (by omega) (by omega)
    have hq64 : q / x < 18446744073709551616 := by omega
    have e3 : IntKind.u64.wrap ((q / x : Nat) : Int) = ((q / x : Nat) : Int) := u64_wrap (Int.natCast_nonneg _) (Int.ofNat_lt.2 hq64)
    rw [e0, if_pos (by omega), if_pos (by omega), if_pos (by rw [ints_length]; omega), hrd, e1, if_neg (by omega), if_pos (by rw [List.length_append, List.length_replicate]; omega), tdivN, tmodN,
      e3, w64 (by omega) (by omega), w64 (by omega) (by omega), Int.toNat_natCast]
    congr 1
    rw [List.replicate_succ', List.append_assoc, List.set_append_right _ _ (by simp)]
    simp [ints]
theorem at_is (p : List Nat) (n : Nat) (hn : n < prod p) (hb : prod p < 18446744073709551616) (hp : ∀ x ∈ p, x < 9223372036854775808) (hl : p.length ≤ 35184372088832) :
    Ev (fun k => odo_product_at.f k (ints p) n) (ints (atP p n)) := by
  have h0 : ¬ 0 ∈ p := fun h => by rw [prod_zero h] at hn; omega
  have h := at_list p n (by omega) h0 hp (by omega) p.length (Nat.le_refl _)
  rw [atP_digits hn]
  refine Ev.congr (fun k => ?_) h
  unfold odo_product_at.f
  rw [ints_length, if_pos (by omega), Int.toNat_natCast, if_pos hl, w64 (by omega) (by omega)]
  simp [List.drop_length, prod, digits, ints]

/-- Is a list of the program's one of a product's? -/
def ValidP (p : List Nat) (l : List Int) : Prop := ∃ x, l = ints x ∧ IsP p x
theorem validP_of (p : List Nat) : ∀ (l : List Int), l.length = p.length → (∀ i, i < p.length → 0 ≤ rd l i ∧ rd l i < (p.getD i 0 : Nat)) → ValidP p l := by
  induction p with
  | nil =>
    intro l hl _
    obtain rfl := List.length_eq_zero_iff.1 hl
    exact ⟨[], rfl, trivial⟩
  | cons a p ih =>
    intro l hl h
    cases l with
    | nil => simp at hl
    | cons x l =>
      have h0 := h 0 (by simp)
      have hx0 : 0 ≤ x := h0.1
      have hxa : x < (a : Int) := h0.2
      obtain ⟨y, hy, hi⟩ := ih l (by simpa using hl) (fun i hi => h (i + 1) (by simpa using hi))
      refine ⟨x.toNat :: y, ?_, ?_, hi⟩
      · rw [hy]
        show _ = Int.ofNat x.toNat :: ints y
        congr 1
        show x = ((x.toNat : Nat) : Int)
        omega
      · omega
theorem validP_at {p : List Nat} {l : List Int} (h : ValidP p l) : l.length = p.length ∧ ∀ i, i < p.length → 0 ≤ rd l i ∧ rd l i < (p.getD i 0 : Nat) := by
  obtain ⟨x, rfl, hx⟩ := h
  refine ⟨by rw [ints_length, isP_length hx], fun i hi => ?_⟩
  rw [rd_ints]
  refine ⟨by omega, ?_⟩
  induction p generalizing x i with
  | nil => simp at hi
  | cons a p ih =>
    cases x with
    | nil => exact hx.elim
    | cons y x =>
      cases i with
      | zero => have := hx.1; simp; omega
      | succ i => have := ih x hx.2 i (by simpa using hi); simpa using this

theorem rank_bad (p : List Nat) (l : List Int) (hlen : l.length = p.length) (hl : p.length ≤ 9223372036854775806) (hb : ¬ ValidP p l) : ∀ (d j : Nat), j + d = p.length → (∀ i, i < j → 0 ≤ rd l i ∧ rd l i < (p.getD i 0 : Nat)) → ∀ a : Int,
    Ev (fun k => odo_product_rank.l0 k (ints p) a l (l.length : Int) (j : Int)) (0, false) := by
  intro d
  induction d with
  | zero =>
    intro j hj hv a
    exact absurd (validP_of p l hlen (fun i hi => hv i (by omega))) hb
  | succ d ih =>
    intro j hj hv a
    by_cases h1 : rd l (j : Int) < 0
    · refine Ev.step (fun k => ?_) (Ev.now _)
      simp only [odo_product_rank.l0]
      rw [if_pos (by omega), if_pos (by omega), if_pos (by omega), if_pos h1]
    · by_cases h2 : rd l (j : Int) ≥ (p.getD j 0 : Nat)
      · refine Ev.step (fun k => ?_) (Ev.now _)
        simp only [odo_product_rank.l0]
        rw [if_pos (by omega), if_pos (by omega), if_pos (by omega), if_neg h1, if_pos (by rw [ints_length]; omega), rd_ints, if_pos h2]
      · refine Ev.step (fun k => ?_) (ih (j + 1) (by omega) (fun i hi => by
          rcases Nat.lt_or_ge i j with h | h
          · exact hv i h
          · obtain rfl : i = j := by omega
            omega) (IntKind.u64.wrap ((IntKind.u64.wrap (a * (IntKind.u64.wrap ((p.getD j 0 : Nat) : Int)))) + (IntKind.u64.wrap (rd l j)))))
        simp only [odo_product_rank.l0]
        rw [if_pos (by omega), if_pos (by omega), if_pos (by omega), if_neg h1, if_pos (by rw [ints_length]; omega), rd_ints, if_neg h2, w64 (by omega) (by omega)]
        rfl
theorem rankP_snoc {p x : List Nat} (h : p.length = x.length) (a y : Nat) : rankP (p ++ [a]) (x ++ [y]) = rankP p x * a + y := by
  induction p generalizing x with
  | nil =>
    cases x with
    | nil => simp [rankP, prod]
    | cons z x => simp at h
  | cons b p ih =>
    cases x with
    | nil => simp at h
    | cons z x =>
      simp only [List.cons_append, rankP]
      rw [ih (by simpa using h), prod_append, Nat.add_mul]
      simp only [prod, Nat.mul_one]
      rw [← Nat.mul_assoc]
      omega
theorem isP_take {p x : List Nat} (h : IsP p x) (j : Nat) : IsP (p.take j) (x.take j) := by
  induction p generalizing x j with
  | nil => cases x with
    | nil => simp [IsP]
    | cons z x => exact h.elim
  | cons a p ih => cases x with
    | nil => exact h.elim
    | cons z x => cases j with
      | zero => exact trivial
      | succ j => exact ⟨h.1, ih h.2 j⟩
theorem rank_good (p x : List Nat) (hx : IsP p x) (hb : prod p < 18446744073709551616) (hp : ∀ a ∈ p, a < 9223372036854775808) (hl : p.length ≤ 9223372036854775806) : ∀ (d j : Nat), j + d = p.length →
    Ev (fun k => odo_product_rank.l0 k (ints p) ((rankP (p.take j) (x.take j) : Nat) : Int) (ints x) (p.length : Int) (j : Int)) (((rankP p x : Nat) : Int), true) := by
  have hxl := isP_length hx
  have h0 : ¬ 0 ∈ p := fun h => by have := rankP_lt hx; rw [prod_zero h] at this; omega
  intro d
  induction d with
  | zero =>
    intro j hj
    refine Ev.step (fun k => ?_) (Ev.now _)
    simp only [odo_product_rank.l0]
    rw [if_neg (by omega), List.take_of_length_le (by omega), List.take_of_length_le (by omega)]
  | succ d ih =>
    intro j hj
    have hjl : j < p.length := by omega
    have hv := (validP_at (l := ints x) ⟨x, rfl, hx⟩).2 j hjl
    rw [rd_ints] at hv
    have ha := hp _ (getD_mem hjl)
    have hs : rankP (p.take (j + 1)) (x.take (j + 1)) = rankP (p.take j) (x.take j) * p.getD j 0 + x.getD j 0 := by
      rw [take_snoc_nat p j hjl, take_snoc_nat x j (by omega), rankP_snoc (by simp; omega)]
    have hlt := rankP_lt (isP_take hx (j + 1))
    have hle := prod_take_le p h0 (j + 1)
    rw [hs] at hlt
    have hr := ih (j + 1) (by omega)
    rw [hs] at hr
    obtain ⟨A, hA⟩ : ∃ A, p.getD j 0 = A := ⟨_, rfl⟩
    obtain ⟨Y, hY⟩ : ∃ Y, x.getD j 0 = Y := ⟨_, rfl⟩
    obtain ⟨R, hR⟩ : ∃ R, rankP (p.take j) (x.take j) = R := ⟨_, rfl⟩
    have e1 := rd_ints p j
    have e2 := rd_ints x j
    rw [hA] at hr hv hlt ha e1
    rw [hY] at hr hv hlt e2
    rw [hR] at hr hlt ⊢
    obtain ⟨RA, hRA⟩ : ∃ RA, R * A = RA := ⟨_, rfl⟩
    refine Ev.step (fun k => ?_) hr
    simp only [odo_product_rank.l0]
    rw [if_pos (by omega), if_pos (by omega), if_pos (by rw [ints_length]; omega), e2, if_neg (by omega), if_pos (by rw [ints_length]; omega), e1, if_neg (by omega), w64 (by omega) (by omega),
      u64_wrap (x := (A : Int)) (by omega) (by omega), u64_wrap (x := (Y : Int)) (by omega) (by omega), Mul64.mulN, hRA]
    rw [hRA] at hlt
    rw [u64_wrap (x := (RA : Int)) (by omega) (by omega), u64_wrap (by omega) (by omega)]
    rfl
/-- What rank answers of a product. -/
theorem rankP_is (p : List Nat) (l : List Int) (hb : prod p < 18446744073709551616) (hp : ∀ a ∈ p, a < 9223372036854775808) (hl : p.length ≤ 9223372036854775806) :
    (¬ ValidP p l → Ev (fun k => odo_product_rank.f k (ints p) l) (0, false)) ∧ (∀ x, l = ints x → IsP p x → Ev (fun k => odo_product_rank.f k (ints p) l) (((rankP p x : Nat) : Int), true)) := by
  constructor
  · intro hv
    by_cases hlen : l.length = p.length
    · refine Ev.congr (fun k => ?_) (rank_bad p l hlen hl hv p.length 0 (by omega) (fun i hi => by omega) 0)
      unfold odo_product_rank.f
      rw [ints_length, if_pos (by omega)]
      rfl
    · refine Ev.congr (fun k => ?_) (Ev.now _)
      unfold odo_product_rank.f
      rw [ints_length, if_neg (by omega)]
  · rintro x rfl hx
    refine Ev.congr (fun k => ?_) (rank_good p x hx hb hp hl p.length 0 (by omega))
    have hxl := isP_length hx
    unfold odo_product_rank.f
    rw [ints_length, ints_length, if_pos (by omega), hxl]
    simp [rankP]
end Go.Proofs.Ytohpboblmmbjnaa.P
/- What a countable space of odo answers, whatever its kind. -/
namespace Go.Proofs.Ytohpboblmmbjnaa.P
open Go Go.RowKit Go.Proofs.YtohpboblmmbjnaaW.PrintWords Go.Proofs.YtohpboblmmbjnaaW.PrintLast Go.Proofs.YtohpboblmmbjnaaW.PrintMore Go.Proofs.Odo

structure Serves (T : Nat) (l : List Int) (all : Nat) (ok : Bool) (IsL : List Nat → Prop) (num : List Nat → Nat) : Prop where
  len : ∀ w v, SpAt T w v l → Calls Try.prog 9 #[v] w fun e w' => e = .returned (.tuple #[.int .u64 (if ok = true then (all : Int) else 0), .int .i64 (if ok = true then 0 else 30)]) ∧ Drawn0 w w'
  at_ : ok = true → ∀ n, n < all → ∃ x, IsL x ∧ num x = n ∧ ∀ w v, SpAt T w v l → Calls Try.prog 11 #[v, .int .u64 (n : Int)] w fun e w' => ∃ v1, e = .returned (.tuple #[v1, .int .i64 0]) ∧ Kd.R (Kd.int .i64) 3 w' w.heap.size (fun _ => True) v1 (ints x) ∧ Below w.heap.size w w'
  rank : ok = true → ∀ xs : List Int, xs.length < 9223372036854775807 → ∃ q r : Int, ((∃ x, xs = ints x ∧ IsL x ∧ q = ((num x : Nat) : Int) ∧ r = 0) ∨ ((∀ x, xs = ints x → ¬ IsL x) ∧ q = 0 ∧ r = 3)) ∧
    ∀ w v A c, SpAt T w v l → Kd.C (Kd.int .i64) w A xs.length xs → xs.length ≤ c → Calls Try.prog 14 #[v, .slice A xs.length c] w fun e w' => e = .returned (.tuple #[.int .u64 q, .int .i64 r]) ∧ Below w.heap.size w w'
  big : ok = true → all < 18446744073709551616
  lt : ∀ x, IsL x → num x < all
  inj : ∀ x y, IsL x → IsL y → num x = num y → x = y
  same : ∀ x y, IsL x → IsL y → x.length = y.length
  small : ∀ x, IsL x → x.length ≤ 64 ∧ ∀ a ∈ x, a < 9223372036854775808
  lex : ∀ p a b x y, IsL (p ++ a :: x) → IsL (p ++ b :: y) → a < b → num (p ++ a :: x) < num (p ++ b :: y)

theorem isP_lt {p x : List Nat} (h : IsP p x) (hp : ∀ a ∈ p, a < 9223372036854775808) : ∀ a ∈ x, a < 9223372036854775808 := by
  induction p generalizing x with
  | nil => cases x with
    | nil => intro a h; cases h
    | cons y x => exact h.elim
  | cons b p ih => cases x with
    | nil => intro a h; cases h
    | cons y x =>
      intro a ha
      rcases List.mem_cons.1 ha with rfl | ha
      · exact Nat.lt_trans h.1 (hp b (by simp))
      · exact ih h.2 (fun c hc => hp c (by simp [hc])) a ha
theorem serves_product (p : List Nat) (hp : ∀ a ∈ p, a < 9223372036854775808) (hl : p.length ≤ 64) : Serves 80 (ints p) (prod p) (prodRes p).2 (IsP p) (rankP p) := by
  have hcount := prod_is p (fun a ha => Nat.lt_trans (hp a ha) (by decide)) (by omega)
  have hok : (prodRes p).2 = true → prod p < 18446744073709551616 := fun h => by
    unfold prodRes at h
    split at h
    · assumption
    · cases h
  have hres : (prodRes p).2 = true → prodRes p = (((prod p : Nat) : Int), true) := fun h => by
    unfold prodRes
    rw [if_pos (hok h)]
  obtain ⟨kc, hkc⟩ := hcount.rounds
  have hkc' : odo_product_count.f kc (ints p) = some ((prodRes p).1, (prodRes p).2) := hkc
  refine ⟨fun w v hs => ?_, fun ho n hn => ?_, fun ho xs hxs => ?_, hok, fun x h => rankP_lt h, fun x y hx hy e => ?_, fun x y hx hy => ?_, fun x h => ?_, fun q a b x y hx hy hab => rankP_lex hx hy hab⟩
  · refine (odo_Len_product.calls kc (ints p) _ _ v w hs hkc').mono ?_
    rintro e w' ⟨rfl, hd⟩
    refine ⟨?_, hd⟩
    by_cases ho : (prodRes p).2 = true
    · rw [if_pos ho, if_pos ho, hres ho]; rfl
    · rw [if_neg ho, if_neg ho, if_neg ho]
  · obtain ⟨ka, hka⟩ := at_is p n hn (hok ho) hp (by omega)
    obtain ⟨K, hK⟩ := hcount
    refine ⟨atP p n, atP_is hn, rankP_atP hn, fun w v hs => ?_⟩
    have hc : odo_product_count.f (max K ka) (ints p) = some (((prod p : Nat) : Int), true) := by rw [← hres ho]; exact hK _ (Nat.le_max_left _ _)
    refine (odo_At_product.calls (max K ka) (ints p) _ _ n (ints (atP p n)) v w hs hc (fun _ _ => hka _ (Nat.le_max_right _ _))).mono ?_
    rintro e w' ⟨v1, rfl, hR, hB⟩
    have hr : atRes ((prod p : Nat) : Int) true n (ints (atP p n)) = (ints (atP p n), 0) := by unfold atRes; rw [if_pos rfl, if_neg (by omega)]
    rw [hr] at hR ⊢
    exact ⟨v1, rfl, hR, hB⟩
  · obtain ⟨h1, h2⟩ := rankP_is p xs (hok ho) hp (by omega)
    obtain ⟨K, hK⟩ := hcount
    by_cases hv : ValidP p xs
    · obtain ⟨x, rfl, hx⟩ := hv
      obtain ⟨kr, hkr⟩ := h2 x rfl hx
      refine ⟨_, 0, .inl ⟨x, rfl, hx, rfl, rfl⟩, fun w v A c hs hC hc => ?_⟩
      have hcn : odo_product_count.f (max K kr) (ints p) = some (((prod p : Nat) : Int), true) := by rw [← hres ho]; exact hK _ (Nat.le_max_left _ _)
      exact (odo_Rank_product.calls (max K kr) (ints p) _ _ A c (ints x) _ true v w hs hcn hC hc (fun _ => hkr _ (Nat.le_max_right _ _)))
    · obtain ⟨kr, hkr⟩ := h1 hv
      refine ⟨0, 3, .inr ⟨fun x e hx => hv ⟨x, e, hx⟩, rfl, rfl⟩, fun w v A c hs hC hc => ?_⟩
      have hcn : odo_product_count.f (max K kr) (ints p) = some (((prod p : Nat) : Int), true) := by rw [← hres ho]; exact hK _ (Nat.le_max_left _ _)
      exact (odo_Rank_product.calls (max K kr) (ints p) _ _ A c xs 0 false v w hs hcn hC hc (fun _ => hkr _ (Nat.le_max_right _ _)))
  · rw [← atP_rankP hx, ← atP_rankP hy, e]
  · rw [isP_length hx, isP_length hy]
  · exact ⟨by rw [isP_length h]; exact hl, isP_lt h hp⟩

theorem rankW_good (v L : List Nat) (a : Nat) (h : Is v L) : rankW v (ints L) a = (a + rank v L, true) := by
  induction L generalizing v a with
  | nil =>
    have hv : v.sum = 0 := h
    show (a, decide (v.sum = 0)) = _
    rw [decide_eq_true hv]; rfl
  | cons x L ih =>
    have hx := getD_lt h.1
    show rankW v ((x : Int) :: ints L) a = _
    rw [rankW, if_pos ⟨by omega, by omega, by rw [Int.toNat_natCast]; exact h.1⟩, Int.toNat_natCast, ih _ _ h.2]
    show (a + shares v x + rank (less v x) L, true) = (a + (shares v x + rank (less v x) L), true)
    rw [Nat.add_assoc]
theorem rankW_true (v : List Nat) (l : List Int) (a : Nat) (h : (rankW v l a).2 = true) : ∃ L, l = ints L ∧ Is v L := by
  induction l generalizing v a with
  | nil => exact ⟨[], rfl, (of_decide_eq_true h : v.sum = 0)⟩
  | cons x l ih =>
    rw [rankW] at h
    split at h
    · rename_i hc
      obtain ⟨L, e, hL⟩ := ih _ _ h
      obtain ⟨i, rfl⟩ : ∃ i : Nat, x = i := ⟨x.toNat, by omega⟩
      rw [Int.toNat_natCast] at hL hc
      exact ⟨i :: L, by rw [e]; rfl, hc.2.2, hL⟩
    · cases h
theorem is_lt {v L : List Nat} (h : Is v L) : ∀ a ∈ L, a < v.length := by
  induction L generalizing v with
  | nil => intro a h; cases h
  | cons x L ih =>
    intro a ha
    rcases List.mem_cons.1 ha with rfl | ha
    · exact getD_lt h.1
    · have := ih h.2 a ha; rwa [less_length] at this
theorem serves_weaves (p : List Nat) (hs : p.sum ≤ 64) (hl : p.length ≤ 64) : Serves 82 (ints p) (mc p) (countRes p).2 (Is p) (rank p) := by
  have hcount := count_is p hs (by omega)
  have hok : (countRes p).2 = true → mc p < 18446744073709551616 := fun h => by
    unfold countRes at h
    split at h
    · assumption
    · cases h
  have hres : (countRes p).2 = true → countRes p = (((mc p : Nat) : Int), true) := fun h => by
    unfold countRes
    rw [if_pos (hok h)]
  obtain ⟨kc, hkc⟩ := hcount.rounds
  have hkc' : odo_weaves_count.f kc (ints p) = some ((countRes p).1, (countRes p).2) := hkc
  refine ⟨fun w v hs => ?_, fun ho n hn => ?_, fun ho xs hxs => ?_, hok, fun x h => rank_lt h, fun x y hx hy e => rank_inj hx hy e, fun x y hx hy => ?_, fun x h => ?_, fun q a b x y hx hy hab => rank_lex hx hy hab⟩
  · refine (odo_Len_weaves.calls kc (ints p) _ _ v w hs hkc').mono ?_
    rintro e w' ⟨rfl, hd⟩
    refine ⟨?_, hd⟩
    by_cases ho : (countRes p).2 = true
    · rw [if_pos ho, if_pos ho, hres ho]; rfl
    · rw [if_neg ho, if_neg ho, if_neg ho]
  · obtain ⟨x, hx, hr⟩ := list_ex _ p n rfl hn
    rw [hres ho] at hkc
    refine ⟨x, hx, hr, fun w v hsp => ?_⟩
    refine (odo_At_weaves.calls kc p x hs hl _ _ n v w hsp hkc (fun _ _ => ⟨hok ho, hx, by rw [hr]⟩)).mono ?_
    rintro e w' ⟨v1, rfl, hR, hB⟩
    have hr : atRes ((mc p : Nat) : Int) true n (ints x) = (ints x, 0) := by unfold atRes; rw [if_pos rfl, if_neg (by omega)]
    rw [hr] at hR ⊢
    exact ⟨v1, rfl, hR, hB⟩
  · rw [hres ho] at hkc
    by_cases hv : (rankW p xs 0).2 = true
    · obtain ⟨x, rfl, hx⟩ := rankW_true p xs 0 hv
      have hg := rankW_good p x 0 hx
      rw [Nat.zero_add] at hg
      refine ⟨_, 0, .inl ⟨x, rfl, hx, rfl, rfl⟩, fun w v A c hsp hC hc => ?_⟩
      exact (odo_Rank_weaves.calls kc p hs hl _ _ A c (ints x) hxs _ true v w hsp hkc hC hc (fun _ => ⟨hok ho, by rw [hg], by rw [hg]⟩))
    · refine ⟨0, 3, .inr ⟨fun x e hx => hv (by rw [e, rankW_good p x 0 hx]), rfl, rfl⟩, fun w v A c hsp hC hc => ?_⟩
      exact (odo_Rank_weaves.calls kc p hs hl _ _ A c xs hxs _ false v w hsp hkc hC hc (fun _ => ⟨hok ho, rfl, (Bool.eq_false_iff.2 hv).symm⟩))
  · rw [is_length hx, is_length hy]
  · exact ⟨by rw [is_length h]; exact hs, fun a ha => by have := is_lt h a ha; omega⟩
end Go.Proofs.Ytohpboblmmbjnaa.P
-- Printed by xprint.py, a program of this session over the kit's printer.
namespace Go.Proofs.Ytohpboblmmbjnaa.P
open Go.RowKit Go.Proofs.YtohpboblmmbjnaaW.PrintWords Go.Proofs.YtohpboblmmbjnaaW.PrintLast Go.Proofs.YtohpboblmmbjnaaW.PrintMore
attribute [local go_sem] max2_int min2_int max_two min_two max_three min_three max_four min_four   -- for this text's walks alone

/-! ### weirref03_times: function 38 -/
mutual
def weirref03_times.l0 : Nat → List Int → Int → List Int → Int → Int → Option (List Int)
 | 0, _, _, _, _, _ => none
 | k + 1, x0, x1, x5, x6, x7 => if x7 < (x0.length : Int) then (if 0 ≤ x7 then (if x5.length < 17592186044416 then (weirref03_times.l0 k x0 x1 (x5 ++ [Go.bits .and .u64 (IntKind.u64.wrap ((IntKind.u64.wrap ((rd x0 x7) * x1)) + x6)) 4294967295]) ((IntKind.u64.wrap ((IntKind.u64.wrap ((rd x0 x7) * x1)) + x6)) / 4294967296) (wrap64 (x7 + 1))) else (none)) else (none)) else (weirref03_times.l1 k x5 x6)
def weirref03_times.l1 : Nat → List Int → Int → Option (List Int)
 | 0, _, _ => none
 | k + 1, x5, x6 => if x6 > 0 then (if x5.length < 17592186044416 then (weirref03_times.l1 k (x5 ++ [Go.bits .and .u64 x6 4294967295]) (x6 / 4294967296)) else (none)) else (some x5)
end
def weirref03_times.f (k : Nat) (l0 : List Int) (a1 : Int) : Option (List Int) := weirref03_times.l0 k l0 a1 ([] : List Int) 0 0
theorem weirref03_times.mono_l : ∀ k, (∀ y0 y1 y2 y3 y4, LeO (weirref03_times.l0 k y0 y1 y2 y3 y4) (weirref03_times.l0 (k + 1) y0 y1 y2 y3 y4)) ∧ (∀ y0 y1, LeO (weirref03_times.l1 k y0 y1) (weirref03_times.l1 (k + 1) y0 y1))
 | 0 => ⟨fun _ _ _ _ _ r h => by simp [weirref03_times.l0] at h, fun _ _ r h => by simp [weirref03_times.l1] at h⟩
 | k + 1 => by
  obtain ⟨ih0, ih1⟩ := weirref03_times.mono_l k; refine ⟨?_, ?_⟩; intro y0 y1 y2 y3 y4; unfold weirref03_times.l0; rotate_left; intro y0 y1; unfold weirref03_times.l1; rotate_left
  all_goals (repeat' first
   | (with_reducible exact ih0 _ _ _ _ _)
   | (with_reducible exact ih1 _ _)
   | (with_reducible exact LeO.refl _)
   | (with_reducible exact LeO.none _)
   | (with_reducible refine LeO.ite ?_ ?_)
   | (with_reducible refine LeO.bind ?_ (fun _ => ?_))
   | exact ih0 _ _ _ _ _
   | exact ih1 _ _
   | exact LeO.none _
   | refine LeO.ite ?_ ?_
   | refine LeO.bind ?_ (fun _ => ?_))
theorem weirref03_times.mono : ∀ a0 a1 k, LeO (weirref03_times.f k a0 a1) (weirref03_times.f (k + 1) a0 a1) := by
 intro a0 a1 k; obtain ⟨ih0, ih1⟩ := weirref03_times.mono_l k; unfold weirref03_times.f
 repeat' first
   | (with_reducible exact ih0 _ _ _ _ _)
   | (with_reducible exact ih1 _ _)
   | (with_reducible exact LeO.refl _)
   | (with_reducible exact LeO.none _)
   | (with_reducible refine LeO.ite ?_ ?_)
   | (with_reducible refine LeO.bind ?_ (fun _ => ?_))
   | exact ih0 _ _ _ _ _
   | exact ih1 _ _
   | exact LeO.none _
   | refine LeO.ite ?_ ?_
   | refine LeO.bind ?_ (fun _ => ?_)
set_option maxHeartbeats 8000000 in
set_option maxRecDepth 100000 in
theorem weirref03_times.calls (k : Nat) (A0 : Option Addr) (c0 : Nat) (l0 : List Int) (a1 : Int) (r : List Int) (w : World) (hr0 : Kd.C (Kd.int .u64) w A0 l0.length l0) (hc0 : l0.length ≤ c0) (h : weirref03_times.f k l0 a1 = some r) :
  Calls Try.prog 38 #[.slice A0 l0.length c0, .int .u64 a1] w fun e w' => ∃ v0_ : Value, e = .returned (v0_) ∧ Kd.R (Kd.int .u64) 25 w' w.heap.size (fun _ => True) v0_ r ∧ Below w.heap.size w w' := by
 have HR0 := Aside0.mk hr0; have HC0 := Aside0.mk hc0; clear hr0 hc0; have HB := Aside0.mk (Below.refl w.heap.size w); have H : (weirref03_times.l0 k l0 a1 ([] : List Int) 0 0) = some r := h; clear h; have H' := Aside0.mk H; clear H; go_enter Try.func38, Try.ntmps38; go_wp2
 go_loopg [5, 6, 7] k (fun kq v5 v6 v7 w' => ∃ (x5_1 : List Int) (x6_1 : Int) (x7_1 : Int), v6 = .int .u64 x6_1 ∧ v7 = .int .i64 x7_1 ∧ Aside0 (weirref03_times.l0 kq l0 a1 x5_1 x6_1 x7_1 = some r) ∧ Aside0 (kq ≤ k) ∧ Aside0 (Kd.R (Kd.int .u64) 25 w' w.heap.size (fun _ => True) v5 x5_1) ∧ Aside0 (Below w.heap.size w w'))
 case atStart => exact ⟨(([] : List Int)), (0), (0), ff_, ff_, H', ⟨Nat.le_refl _⟩, ⟨by first | exact Kd.R_nil _ _ _ _ _ | exact Kd.N_nil _ _ _ _ _ | exact Kd.V_nil _ _ _ _ _ | exact Kd.Q_nil _ _ _ _ _ | exact Kd.S_nil _ _ _ _ _⟩, ⟨bel_⟩⟩
 case round =>
  clear H'; obtain ⟨x5_1, x6_1, x7_1, rfl, rfl, HA, HK1, HO_5, HB⟩ := hrel
  cases gk with
  | zero => exact absurd HA.out (by simp [weirref03_times.l0])
  | succ k1 =>
   have H := HA.out; clear HA; simp only [weirref03_times.l0] at H
   by_cases c3 : x7_1 < (l0.length : Int)
   ·
    rw [if_pos c3] at H; have c3b0 : decide (x7_1 < (l0.length : Int)) = true := decide_eq_true c3; clear c3
    by_cases c4 : 0 ≤ x7_1
    ·
     rw [if_pos c4] at H; have c4b0 : decide (0 ≤ x7_1) = true := decide_eq_true c4; clear c4
     by_cases c5 : x5_1.length < 17592186044416
     ·
      rw [if_pos c5] at H; have LMc5 := Aside0.mk c5; clear c5; obtain ⟨y134, hy134⟩ : ∃ y_ : List Int, y_ = (x5_1 ++ [Go.bits .and .u64 (IntKind.u64.wrap ((IntKind.u64.wrap ((rd l0 x7_1) * a1)) + x6_1)) 4294967295]) := ⟨_, rfl⟩; replace H : (weirref03_times.l0 k1 l0 a1 y134 ((IntKind.u64.wrap ((IntKind.u64.wrap ((rd l0 x7_1) * a1)) + x6_1)) / 4294967296) (wrap64 (x7_1 + 1))) = some r := by first | (rw [hy134]; with_reducible exact H) | (have H2_ := (Option.bind_some _ _).symm.trans H; rw [hy134]; with_reducible exact H2_) | (have H2_ := (Option.bind_some _ _).symm.trans H; with_reducible exact H2_) | with_reducible exact H | (rw [hy134]; exact H) | exact H
      have Ny134 := Aside0.mk hy134; clear hy134; have H' := Aside0.mk H; clear H; have p133 : 0 ≤ (x7_1 : Int) := dt_; have q133 : x7_1 < (l0.length : Int) := dt_; obtain ⟨ad133, e133, hx133_0⟩ := Kd.at_int HR0.out x7_1 p133 q133; cases e133; replace hx133_0 := hx_ HB hx133_0; replace p133 := eq_true p133; replace q133 := eq_true q133
      go_wp2_with (first | ((with_reducible refine gate_builtin (b := .append) (xs := #[.tmp 23, .tmp 26]) rfl ?_); at_builtin; refine Kd.R_append (Kd.int .u64) (w0 := w) w.heap.size rfl (.tmp 23) (.tmp 26) 71 25 (.int .u64 0) 8 rfl Try.underlying71 info25 rfl (by decide) (by omega) u5 x5_1 (Go.bits .and .u64 (IntKind.u64.wrap ((IntKind.u64.wrap ((rd l0 x7_1) * a1)) + x6_1)) 4294967295) [.int .u64 (Go.bits .and .u64 (IntKind.u64.wrap ((IntKind.u64.wrap ((rd l0 x7_1) * a1)) + x6_1)) 4294967295)] (fun _ => True) (fun _ => False) rfl rfl ?aP (fun _ hk => hk.elim) ?aF ?aO ?aB ?aS ?aL ?_; (case aP => exact rfl); (case aB => exact bel_); (case aF => exact (fun _ _ => trivial)); (case aO => exact (rs_ HO_5)); (case aS => exact (below_size bel_)); (case aL => have := LMc5.out; omega); intro v135 w6 ho hb hg hat; rw [← Ny134.out] at ho; have n0_ := Aside0.mk (hb); have n1_ := Aside0.mk (ho); clear HB; clear HO_5; have HB := n0_; have HO136 := n1_; clear n0_ n1_; clear ho hb hg hat))
      go_roundg k1
      case measure => have := HK1.out; omega
      case rel => exact ⟨(y134), ((IntKind.u64.wrap ((IntKind.u64.wrap ((rd l0 x7_1) * a1)) + x6_1)) / 4294967296), (wrap64 (x7_1 + 1)), ff_, ff_, H', ⟨by have := HK1.out; omega⟩, ⟨rs_ HO136⟩, ⟨bel_⟩⟩
     ·
      rw [if_neg c5] at H; exact absurd H (by simp)
    ·
     rw [if_neg c4] at H; exact absurd H (by simp)
   ·
    rw [if_neg c3] at H; have c3b0 : decide (x7_1 < (l0.length : Int)) = false := decide_eq_false c3; clear c3; have H' := Aside0.mk H; clear H; go_wp2
    go_loopg [5, 6] k1 (fun kq v5 v6 w' => ∃ (x5_2 : List Int) (x6_2 : Int), v6 = .int .u64 x6_2 ∧ Aside0 (weirref03_times.l1 kq x5_2 x6_2 = some r) ∧ Aside0 (kq ≤ k1) ∧ Aside0 (Kd.R (Kd.int .u64) 25 w' w.heap.size (fun _ => True) v5 x5_2) ∧ Aside0 (Below w.heap.size w w'))
    case atStart => exact ⟨(x5_1), (x6_1), ff_, H', ⟨Nat.le_refl _⟩, ⟨rs_ HO_5⟩, ⟨bel_⟩⟩
    case round =>
     clear H'; (try clear c3b0); obtain ⟨x5_2, x6_2, rfl, HA, HK2, HO_5, HB⟩ := hrel
     cases gk with
     | zero => exact absurd HA.out (by simp [weirref03_times.l1])
     | succ k2 =>
      have H := HA.out; clear HA; simp only [weirref03_times.l1] at H
      by_cases c7 : x6_2 > 0
      ·
       rw [if_pos c7] at H; have c7b0 : decide (0 < x6_2) = true := decide_eq_true c7; clear c7
       by_cases c8 : x5_2.length < 17592186044416
       ·
        rw [if_pos c8] at H; have LMc8 := Aside0.mk c8; clear c8; obtain ⟨y137, hy137⟩ : ∃ y_ : List Int, y_ = (x5_2 ++ [Go.bits .and .u64 x6_2 4294967295]) := ⟨_, rfl⟩; replace H : (weirref03_times.l1 k2 y137 (x6_2 / 4294967296)) = some r := by first | (rw [hy137]; with_reducible exact H) | (have H2_ := (Option.bind_some _ _).symm.trans H; rw [hy137]; with_reducible exact H2_) | (have H2_ := (Option.bind_some _ _).symm.trans H; with_reducible exact H2_) | with_reducible exact H | (rw [hy137]; exact H) | exact H
        have Ny137 := Aside0.mk hy137; clear hy137; have H' := Aside0.mk H; clear H
        go_wp2_with (first | ((with_reducible refine gate_builtin (b := .append) (xs := #[.tmp 32, .tmp 35]) rfl ?_); at_builtin; refine Kd.R_append (Kd.int .u64) (w0 := w) w.heap.size rfl (.tmp 32) (.tmp 35) 71 25 (.int .u64 0) 8 rfl Try.underlying71 info25 rfl (by decide) (by omega) u5 x5_2 (Go.bits .and .u64 x6_2 4294967295) [.int .u64 (Go.bits .and .u64 x6_2 4294967295)] (fun _ => True) (fun _ => False) rfl rfl ?aP (fun _ hk => hk.elim) ?aF ?aO ?aB ?aS ?aL ?_; (case aP => exact rfl); (case aB => exact bel_); (case aF => exact (fun _ _ => trivial)); (case aO => exact (rs_ HO_5)); (case aS => exact (below_size bel_)); (case aL => have := LMc8.out; omega); intro v138 w9 ho hb hg hat; rw [← Ny137.out] at ho; have n0_ := Aside0.mk (hb); have n1_ := Aside0.mk (ho); clear HB; clear HO_5; have HB := n0_; have HO139 := n1_; clear n0_ n1_; clear ho hb hg hat))
        go_roundg k2
        case measure => have := HK1.out; have := HK2.out; omega
        case rel => exact ⟨(y137), (x6_2 / 4294967296), ff_, H', ⟨by have := HK1.out; have := HK2.out; omega⟩, ⟨rs_ HO139⟩, ⟨bel_⟩⟩
       ·
        rw [if_neg c8] at H; exact absurd H (by simp)
      ·
       rw [if_neg c7] at H; have c7b0 : decide (0 < x6_2) = false := decide_eq_false c7; clear c7; obtain rfl := Option.some.inj H; go_wp2
       go_ret
       exact ⟨_, ee_, rs_ HO_5, bel_⟩

/-! ### weirref03_over: function 39 -/
def weirref03_over.l0 : Nat → List Int → Int → List Int → Int → Int → Option (List Int)
 | 0, _, _, _, _, _ => none
 | k + 1, x0, x1, x5, x6, x7 => if x7 ≥ 0 then (if 0 ≤ x7 then (if x7 < (x0.length : Int) then (if x1 = 0 then (none) else (if x7 < (x5.length : Int) then (weirref03_over.l0 k x0 x1 (x5.set (x7 : Int).toNat (IntKind.u64.wrap (Int.tdiv (Go.bits .or .u64 (IntKind.u64.wrap (x6 * 4294967296)) (rd x0 x7)) x1))) (Int.tmod (Go.bits .or .u64 (IntKind.u64.wrap (x6 * 4294967296)) (rd x0 x7)) x1) (wrap64 (x7 - 1))) else (none))) else (none)) else (none)) else (some x5)
def weirref03_over.f (k : Nat) (l0 : List Int) (a1 : Int) : Option (List Int) := if 0 ≤ (l0.length : Int) then (if ((l0.length : Int) : Int).toNat ≤ 35184372088832 then (weirref03_over.l0 k l0 a1 (List.replicate ((l0.length : Int) : Int).toNat 0) 0 (wrap64 ((l0.length : Int) - 1))) else (none)) else (none)
theorem weirref03_over.mono_l : ∀ k, (∀ y0 y1 y2 y3 y4, LeO (weirref03_over.l0 k y0 y1 y2 y3 y4) (weirref03_over.l0 (k + 1) y0 y1 y2 y3 y4))
 | 0 => fun _ _ _ _ _ r h => by simp [weirref03_over.l0] at h
 | k + 1 => by
  have ih0 := weirref03_over.mono_l k
  ·
   intro y0 y1 y2 y3 y4; unfold weirref03_over.l0
   repeat' first
   | (with_reducible exact ih0 _ _ _ _ _)
   | (with_reducible exact LeO.refl _)
   | (with_reducible exact LeO.none _)
   | (with_reducible refine LeO.ite ?_ ?_)
   | (with_reducible refine LeO.bind ?_ (fun _ => ?_))
   | exact ih0 _ _ _ _ _
   | exact LeO.none _
   | refine LeO.ite ?_ ?_
   | refine LeO.bind ?_ (fun _ => ?_)
theorem weirref03_over.mono : ∀ a0 a1 k, LeO (weirref03_over.f k a0 a1) (weirref03_over.f (k + 1) a0 a1) := by
 intro a0 a1 k; have ih0 := weirref03_over.mono_l k; unfold weirref03_over.f
 repeat' first
   | (with_reducible exact ih0 _ _ _ _ _)
   | (with_reducible exact LeO.refl _)
   | (with_reducible exact LeO.none _)
   | (with_reducible refine LeO.ite ?_ ?_)
   | (with_reducible refine LeO.bind ?_ (fun _ => ?_))
   | exact ih0 _ _ _ _ _
   | exact LeO.none _
   | refine LeO.ite ?_ ?_
   | refine LeO.bind ?_ (fun _ => ?_)
set_option maxHeartbeats 8000000 in
set_option maxRecDepth 100000 in
theorem weirref03_over.calls (k : Nat) (A0 : Option Addr) (c0 : Nat) (l0 : List Int) (a1 : Int) (r : List Int) (w : World) (hr0 : Kd.C (Kd.int .u64) w A0 l0.length l0) (hc0 : l0.length ≤ c0) (h : weirref03_over.f k l0 a1 = some r) :
  Calls Try.prog 39 #[.slice A0 l0.length c0, .int .u64 a1] w fun e w' => ∃ v0_ : Value, e = .returned (v0_) ∧ Kd.R (Kd.int .u64) 25 w' w.heap.size (fun _ => True) v0_ r ∧ Below w.heap.size w w' := by
 have HR0 := Aside0.mk hr0; have HC0 := Aside0.mk hc0; clear hr0 hc0; have HB := Aside0.mk (Below.refl w.heap.size w); have H : (if 0 ≤ (l0.length : Int) then (if ((l0.length : Int) : Int).toNat ≤ 35184372088832 then (weirref03_over.l0 k l0 a1 (List.replicate ((l0.length : Int) : Int).toNat 0) 0 (wrap64 ((l0.length : Int) - 1))) else (none)) else (none)) = some r := h; clear h
 by_cases c3 : 0 ≤ (l0.length : Int)
 ·
  rw [if_pos c3] at H; have c3b0 := eq_true c3; have c3b1 : decide (0 ≤ (l0.length : Int)) = true := decide_eq_true c3; clear c3
  by_cases c4 : ((l0.length : Int) : Int).toNat ≤ 35184372088832
  ·
   rw [if_pos c4] at H; have c4b0 := eq_true c4; have c4b1 : decide (((l0.length : Int) : Int).toNat ≤ 35184372088832) = true := decide_eq_true c4; clear c4; obtain ⟨y140, hy140⟩ : ∃ y_ : List Int, y_ = (List.replicate ((l0.length : Int) : Int).toNat 0) := ⟨_, rfl⟩; replace H : (weirref03_over.l0 k l0 a1 y140 0 (wrap64 ((l0.length : Int) - 1))) = some r := by first | (rw [hy140]; with_reducible exact H) | (have H2_ := (Option.bind_some _ _).symm.trans H; rw [hy140]; with_reducible exact H2_) | (have H2_ := (Option.bind_some _ _).symm.trans H; with_reducible exact H2_) | with_reducible exact H | (rw [hy140]; exact H) | exact H
   have Ny140 := Aside0.mk hy140; clear hy140; have H' := Aside0.mk H; clear H; go_enter Try.func39, Try.ntmps39
   go_wp2_with (first | ((with_reducible refine gate_dst (N := 11) rfl ?_); refine Kd.R_make (Kd.int .u64) _ 25 rfl (N := 11) rfl 71 _ _ rfl (l0.length : Int) rfl rfl Try.underlying71 (.int .u64 0) 8 info25 rfl (by decide) (by omega) 0 (ok := fun _ => True) (okp := fun _ => True) rfl (fun _ hk => hk) trivial (dt_) (Nat.le_trans (Nat.mul_le_mul_right _ (dt_ : (l0.length : Int).toNat ≤ 35184372088832)) (by omega)) (Below.refl _ _) (Nat.le_refl _) ?_; intro v141 w5 ho6 hb hg_ hnew_; clear hg_ hnew_; (first | rw [← Ny140.out] at ho6 | (simp only [Int.reduceToNat] at ho6; rw [← Ny140.out] at ho6)); have HO142 := Aside0.mk (Kd.R_lower ho6 (below_size bel_)); replace HB := bs_ w hb; clear hb ho6))
   go_loopg [6, 7] k (fun kq v6 v7 w' => ∃ (x5_1 : List Int) (x6_1 : Int) (x7_1 : Int), v6 = .int .u64 x6_1 ∧ v7 = .int .i64 x7_1 ∧ Aside0 (weirref03_over.l0 kq l0 a1 x5_1 x6_1 x7_1 = some r) ∧ Aside0 (kq ≤ k) ∧ Aside0 (Kd.R (Kd.int .u64) 25 w' w.heap.size (fun _ => True) v141 x5_1) ∧ Aside0 (Below w.heap.size w w'))
   case atStart => exact ⟨(y140), (0), (wrap64 ((l0.length : Int) - 1)), ff_, ff_, H', ⟨Nat.le_refl _⟩, ⟨rs_ HO142⟩, ⟨bel_⟩⟩
   case round =>
    clear H'; (try clear c3b0); (try clear c3b1); (try clear c4b0); (try clear c4b1); obtain ⟨x5_1, x6_1, x7_1, rfl, rfl, HA, HK1, HO_5, HB⟩ := hrel
    cases gk with
    | zero => exact absurd HA.out (by simp [weirref03_over.l0])
    | succ k1 =>
     have H := HA.out; clear HA; simp only [weirref03_over.l0] at H
     by_cases c7 : x7_1 ≥ 0
     ·
      rw [if_pos c7] at H; have c7b0 : decide (0 ≤ x7_1) = true := decide_eq_true c7; clear c7
      by_cases c8 : 0 ≤ x7_1
      ·
       rw [if_pos c8] at H; have c8b0 : decide (0 ≤ x7_1) = true := decide_eq_true c8; clear c8
       by_cases c9 : x7_1 < (l0.length : Int)
       ·
        rw [if_pos c9] at H; have c9b0 : decide (x7_1 < (l0.length : Int)) = true := decide_eq_true c9; clear c9
        by_cases c10 : a1 = 0
        ·
         rw [if_pos c10] at H; exact absurd H (by simp)
        ·
         rw [if_neg c10] at H; have c10b0 : (a1 == 0) = false := beq_eq_false_iff_ne.mpr c10; have c10b1 : (a1 != 0) = true := bne_iff_ne.mpr c10
         by_cases c11 : x7_1 < (x5_1.length : Int)
         ·
          rw [if_pos c11] at H; have c11b0 : decide (x7_1 < (x5_1.length : Int)) = true := decide_eq_true c11; clear c11; obtain ⟨y144, hy144⟩ : ∃ y_ : List Int, y_ = (x5_1.set (x7_1 : Int).toNat (IntKind.u64.wrap (Int.tdiv (Go.bits .or .u64 (IntKind.u64.wrap (x6_1 * 4294967296)) (rd l0 x7_1)) a1))) := ⟨_, rfl⟩; replace H : (weirref03_over.l0 k1 l0 a1 y144 (Int.tmod (Go.bits .or .u64 (IntKind.u64.wrap (x6_1 * 4294967296)) (rd l0 x7_1)) a1) (wrap64 (x7_1 - 1))) = some r := by first | (rw [hy144]; with_reducible exact H) | (have H2_ := (Option.bind_some _ _).symm.trans H; rw [hy144]; with_reducible exact H2_) | (have H2_ := (Option.bind_some _ _).symm.trans H; with_reducible exact H2_) | with_reducible exact H | (rw [hy144]; exact H) | exact H
          have Ny144 := Aside0.mk hy144; clear hy144; have H' := Aside0.mk H; clear H; have p143 : 0 ≤ (x7_1 : Int) := dt_; have q143 : x7_1 < (l0.length : Int) := dt_; obtain ⟨ad143, e143, hx143_0⟩ := Kd.at_int HR0.out x7_1 p143 q143; cases e143; replace hx143_0 := hx_ HB hx143_0; replace p143 := eq_true p143; replace q143 := eq_true q143; have p12 : 0 ≤ (x7_1 : Int) := dt_; have q12 : (x7_1 : Int) < ((x5_1.length : Int) : Int) := dt_; obtain ⟨go12, co12, eo12, gb12, gl12, cl12, HG12⟩ := Kd.R_form HO_5.out (by omega)
          (first | cases eo12 | (injection eo12 with ea_ en_ ec_; (first | subst ea_ | (injection ea_ with ea_; subst ea_)); subst ec_; clear en_))
          have GB12 := Aside0.mk gb12; have GG12 := Aside0.mk HG12; clear gb12 gl12 HG12; obtain ⟨hx12_0, hf12_0⟩ := Kd.R_celln 0 HO_5.out (x7_1 : Int) p12 q12; replace p12 := eq_true p12; replace q12 := eq_true q12; have HP13 := Kd.R_putg HO_5.out (x7_1 : Int) (IntKind.u64.wrap (Int.tdiv (Go.bits .or .u64 (IntKind.u64.wrap (x6_1 * 4294967296)) (rd l0 x7_1)) a1))
          go_wp2_with (first | ((with_reducible refine gate_store (t := 25) (p := 31) rfl ?_); refine st_ (t := 25) (p := 31) (w1 := (wr.setCell ⟨go12, (x7_1 : Int).toNat, none⟩ (.int .u64 (IntKind.u64.wrap (Int.tdiv (Go.bits .or .u64 (IntKind.u64.wrap (x6_1 * 4294967296)) (rd l0 x7_1)) a1))))) ?_; intro w14 hw; have hg : wr.grownBy w14 (some go12) := (by rw [hw]; exact HP13.2); have hp_ : Kd.R (Kd.int .u64) 25 w14 w.heap.size (fun _ => True) (.slice (some ⟨go12, 0, none⟩) x5_1.length co12) y144 := (by rw [hw, Ny144.out]; exact HP13.1); clear HP13; replace HO_5 := Aside0.mk (hp_); replace HB := Aside0.mk ((by rw [hw]; exact below_set (HB.out) GB12.out : Below w.heap.size w w14)); clear hg hw hp_))
          go_roundg k1
          case measure => have := HK1.out; omega
          case rel => exact ⟨(y144), (Int.tmod (Go.bits .or .u64 (IntKind.u64.wrap (x6_1 * 4294967296)) (rd l0 x7_1)) a1), (wrap64 (x7_1 - 1)), ff_, ff_, H', ⟨by have := HK1.out; omega⟩, ⟨rs_ HO_5⟩, ⟨bel_⟩⟩
         ·
          rw [if_neg c11] at H; exact absurd H (by simp)
       ·
        rw [if_neg c9] at H; exact absurd H (by simp)
      ·
       rw [if_neg c8] at H; exact absurd H (by simp)
     ·
      rw [if_neg c7] at H; have c7b0 : decide (0 ≤ x7_1) = false := decide_eq_false c7; clear c7; obtain rfl := Option.some.inj H; go_wp2
      go_ret
      exact ⟨_, ee_, rs_ HO_5, bel_⟩
  ·
   rw [if_neg c4] at H; exact absurd H (by simp)
 ·
  rw [if_neg c3] at H; exact absurd H (by simp)

/-! ### weirref03_Space_count: function 28 -/
-- NOT PRINTED: function 10 (weirref03_Space_Len)

-- NOT PRINTED: function 11 (odo_Space_At)

end Go.Proofs.Ytohpboblmmbjnaa.P
