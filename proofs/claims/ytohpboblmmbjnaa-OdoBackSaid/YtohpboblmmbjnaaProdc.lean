/- What odo's products answer: their count, their lists by number, their lists' numbers. -/
import Derived.Test.YtohpboblmmbjnaaCount
import Derived.Test.YtohpboblmmbjnaaProdm
import Derived.Test.YtohpboblmmbjnaaP6
namespace Go.Proofs.Ytohpboblmmbjnaa.P
open Go.RowKit Go.Proofs.YtohpboblmmbjnaaW.PrintWords Go.Proofs.YtohpboblmmbjnaaW.PrintMore Go.Proofs.Odo

theorem index_list (l : List Int) (v : Int) (hl : l.length ≤ 9223372036854775806) : ∀ (d j : Nat), j + d = l.length →
    ∃ r : Int, Ev (fun k => slices_Index_odo_product_int.l0 k l v (l.length : Int) (j : Int)) r ∧ (0 ≤ r ↔ v ∈ l.drop j) := by
  intro d
  induction d with
  | zero =>
    intro j hj
    refine ⟨-1, Ev.step (fun k => ?_) (Ev.now _), ?_⟩
    · simp only [slices_Index_odo_product_int.l0]
      rw [if_neg (by omega)]
    · rw [List.drop_of_length_le (by omega)]; simp
  | succ d ih =>
    intro j hj
    have hjl : j < l.length := by omega
    have hd : l.drop j = rd l j :: l.drop (j + 1) := by
      rw [List.drop_eq_getElem_cons hjl]
      congr 1
      simp [rd, List.getD_eq_getElem?_getD, List.getElem?_eq_getElem hjl]
    by_cases hv : v = rd l j
    · refine ⟨j, Ev.step (fun k => ?_) (Ev.now _), ?_⟩
      · simp only [slices_Index_odo_product_int.l0]
        rw [if_pos (by omega), if_pos (by omega), if_pos (by omega), if_pos hv]
      · rw [hd, ← hv]; simp
    · obtain ⟨r, h1, h2⟩ := ih (j + 1) (by omega)
      refine ⟨r, Ev.step (fun k => ?_) h1, ?_⟩
      · simp only [slices_Index_odo_product_int.l0]
        rw [if_pos (by omega), if_pos (by omega), if_pos (by omega), if_neg hv, w64 (by omega) (by omega)]
        rfl
      · rw [hd, h2]; simp [hv]
theorem contains_is (l : List Int) (v : Int) (hl : l.length ≤ 9223372036854775806) : Ev (fun k => slices_Contains_odo_product_int.f k l v) (decide (v ∈ l)) := by
  obtain ⟨r, h1, h2⟩ := index_list l v hl l.length 0 (by omega)
  have e : decide (v ∈ l) = decide (r ≥ 0) := by
    rw [List.drop_zero] at h2
    exact decide_eq_decide.2 h2.symm
  rw [e]
  refine Ev.congr (fun k => ?_) (Ev.bind (f := fun _ t => some (decide (t ≥ 0))) h1 (Ev.now _))
  rfl

/-- What count answers of a product. -/
def prodRes (p : List Nat) : Int × Bool := if prod p < 18446744073709551616 then (((prod p : Nat) : Int), true) else (0, false)
theorem prod_take_le (p : List Nat) (h0 : ¬ 0 ∈ p) (j : Nat) : prod (p.take j) ≤ prod p := by
  have h := prod_append (p.take j) (p.drop j)
  rw [List.take_append_drop] at h
  rw [h]
  exact Nat.le_mul_of_pos_right _ (prod_pos (fun hm => h0 (List.mem_of_mem_drop hm)))
theorem prod_list (p : List Nat) (h0 : ¬ 0 ∈ p) (hp : ∀ x ∈ p, x < 18446744073709551616) (hl : p.length ≤ 9223372036854775806) : ∀ (d j : Nat), j + d = p.length → prod (p.take j) < 18446744073709551616 →
    Ev (fun k => odo_product_count.l0 k ((prod (p.take j) : Nat) : Int) (ints p) (p.length : Int) (j : Int)) (prodRes p) := by
  intro d
  induction d with
  | zero =>
    intro j hj hb
    have ht : p.take j = p := List.take_of_length_le (by omega)
    rw [ht] at hb ⊢
    refine Ev.step (fun k => ?_) (Ev.now _)
    simp only [odo_product_count.l0]
    rw [if_neg (by omega)]
    unfold prodRes
    rw [if_pos hb]
  | succ d ih =>
    intro j hj hb
    have hjl : j < p.length := by omega
    have hts := take_snoc_nat p j hjl
    have hx : p.getD j 0 < 18446744073709551616 := by
      rw [List.getD_eq_getElem?_getD, List.getElem?_eq_getElem hjl]
      exact hp _ (List.getElem_mem hjl)
    have hpr : prod (p.take (j + 1)) = prod (p.take j) * p.getD j 0 := by rw [hts, prod_append]; simp [prod]
    have hm := mul64_is (prod (p.take j)) (p.getD j 0) hb hx
    rw [← hpr] at hm
    have hdm := Nat.div_add_mod (prod (p.take (j + 1))) 18446744073709551616
    have e1 : IntKind.u64.wrap ((p.getD j 0 : Nat) : Int) = ((p.getD j 0 : Nat) : Int) := u64_wrap (by omega) (by omega)
    by_cases hov : 0 < prod (p.take (j + 1)) / 18446744073709551616
    · have hr : prodRes p = (0, false) := by
        unfold prodRes
        rw [if_neg (by have := prod_take_le p h0 (j + 1); omega)]
      rw [hr]
      refine Ev.step (fun k => ?_) (Ev.now _)
      simp only [odo_product_count.l0]
      rw [if_pos (by omega), if_pos (by omega), if_pos (by rw [ints_length]; omega), rd_ints, e1, hm]
      simp only [Option.bind_some]
      exact if_pos (Int.ofNat_lt.2 hov)
    · refine Ev.step (fun k => ?_) (ih (j + 1) (by omega) (by omega))
      simp only [odo_product_count.l0]
      rw [if_pos (by omega), if_pos (by omega), if_pos (by rw [ints_length]; omega), rd_ints, e1, hm]
      simp only [Option.bind_some]
      refine (if_neg (fun h => hov (Int.ofNat_lt.1 h))).trans ?_
      rw [w64 (by omega) (by omega), Nat.mod_eq_of_lt (by omega)]
      rfl
theorem prod_is (p : List Nat) (hp : ∀ x ∈ p, x < 18446744073709551616) (hl : p.length ≤ 9223372036854775806) : Ev (fun k => odo_product_count.f k (ints p)) (prodRes p) := by
  have hc := contains_is (ints p) 0 (by rw [ints_length]; exact hl)
  by_cases h0 : 0 ∈ p
  · have hm : (0 : Int) ∈ ints p := List.mem_map.2 ⟨0, h0, rfl⟩
    have hr : prodRes p = (0, true) := by unfold prodRes; rw [prod_zero h0]; rfl
    rw [decide_eq_true hm] at hc
    rw [hr]
    exact Ev.congr (fun k => rfl) (Ev.bind hc (Ev.congr (fun k => if_pos rfl) (Ev.now _)))
  · have hm : ¬ (0 : Int) ∈ ints p := by
      intro h
      obtain ⟨x, hx, he⟩ := List.mem_map.1 h
      have : x = 0 := by have : (x : Int) = 0 := he; omega
      exact h0 (this ▸ hx)
    rw [decide_eq_false hm] at hc
    have h := prod_list p h0 hp hl p.length 0 (by omega) (by simp [prod])
    refine Ev.congr (fun k => rfl) (Ev.bind hc (Ev.congr (fun k => (if_neg (by decide)).trans ?_) h))
    rw [ints_length]
    simp [prod]
end Go.Proofs.Ytohpboblmmbjnaa.P
