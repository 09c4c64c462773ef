/- What a countable space of odo answers, whatever its kind. -/
import Derived.Test.YtohpboblmmbjnaaO5
import Derived.Test.YtohpboblmmbjnaaProdr
namespace Go.Proofs.Ytohpboblmmbjnaa.P
open Go Go.RowKit Go.Proofs.YtohpboblmmbjnaaW.PrintWords Go.Proofs.YtohpboblmmbjnaaW.PrintLast Go.Proofs.YtohpboblmmbjnaaW.PrintMore Go.Proofs.Odo

structure Serves (T : Nat) (l : List Int) (all : Nat) (ok : Bool) (IsL : List Nat → Prop) (num : List Nat → Nat) : Prop where
  len : ∀ w v, SpAt T w v l → Calls Try.prog 9 #[v] w fun e w' => e = .returned (.tuple #[.int .u64 (if ok = true then (all : Int) else 0), .int .i64 (if ok = true then 0 else 30)]) ∧ Drawn0 w w'
  at_ : ok = true → ∀ n, n < all → ∃ x, IsL x ∧ num x = n ∧ ∀ w v, SpAt T w v l → Calls Try.prog 11 #[v, .int .u64 (n : Int)] w fun e w' => ∃ v1, e = .returned (.tuple #[v1, .int .i64 0]) ∧ Kd.R (Kd.int .i64) 3 w' w.heap.size (fun _ => True) v1 (ints x) ∧ Below w.heap.size w w'
  rank : ok = true → ∀ xs : List Int, xs.length < 9223372036854775807 → ∃ q r : Int, ((∃ x, xs = ints x ∧ IsL x ∧ q = ((num x : Nat) : Int) ∧ r = 0) ∨ ((∀ x, xs = ints x → ¬ IsL x) ∧ q = 0 ∧ r = 3)) ∧
    ∀ w v A c, SpAt T w v l → Kd.C (Kd.int .i64) w A xs.length xs → xs.length ≤ c → Calls Try.prog 14 #[v, .slice A xs.length c] w fun e w' => e = .returned (.tuple #[.int .u64 q, .int .i64 r]) ∧ Below w.heap.size w w'
  big : ok = true → all < 18446744073709551616
  lt : ∀ x, IsL x → num x < all
  inj : ∀ x y, IsL x → IsL y → num x = num y → x = y
  same : ∀ x y, IsL x → IsL y → x.length = y.length
  small : ∀ x, IsL x → x.length ≤ 64 ∧ ∀ a ∈ x, a < 9223372036854775808
  lex : ∀ p a b x y, IsL (p ++ a :: x) → IsL (p ++ b :: y) → a < b → num (p ++ a :: x) < num (p ++ b :: y)

theorem isP_lt {p x : List Nat} (h : IsP p x) (hp : ∀ a ∈ p, a < 9223372036854775808) : ∀ a ∈ x, a < 9223372036854775808 := by
  induction p generalizing x with
  | nil => cases x with
    | nil => intro a h; cases h
    | cons y x => exact h.elim
  | cons b p ih => cases x with
    | nil => intro a h; cases h
    | cons y x =>
      intro a ha
      rcases List.mem_cons.1 ha with rfl | ha
      · exact Nat.lt_trans h.1 (hp b (by simp))
      · exact ih h.2 (fun c hc => hp c (by simp [hc])) a ha
theorem serves_product (p : List Nat) (hp : ∀ a ∈ p, a < 9223372036854775808) (hl : p.length ≤ 64) : Serves 80 (ints p) (prod p) (prodRes p).2 (IsP p) (rankP p) := by
  have hcount := prod_is p (fun a ha => Nat.lt_trans (hp a ha) (by decide)) (by omega)
  have hok : (prodRes p).2 = true → prod p < 18446744073709551616 := fun h => by
    unfold prodRes at h
    split at h
    · assumption
    · cases h
  have hres : (prodRes p).2 = true → prodRes p = (((prod p : Nat) : Int), true) := fun h => by
    unfold prodRes
    rw [if_pos (hok h)]
  obtain ⟨kc, hkc⟩ := hcount.rounds
  have hkc' : odo_product_count.f kc (ints p) = some ((prodRes p).1, (prodRes p).2) := hkc
  refine ⟨fun w v hs => ?_, fun ho n hn => ?_, fun ho xs hxs => ?_, hok, fun x h => rankP_lt h, fun x y hx hy e => ?_, fun x y hx hy => ?_, fun x h => ?_, fun q a b x y hx hy hab => rankP_lex hx hy hab⟩
  · refine (odo_Len_product.calls kc (ints p) _ _ v w hs hkc').mono ?_
    rintro e w' ⟨rfl, hd⟩
    refine ⟨?_, hd⟩
    by_cases ho : (prodRes p).2 = true
    · rw [if_pos ho, if_pos ho, hres ho]; rfl
    · rw [if_neg ho, if_neg ho, if_neg ho]
  · obtain ⟨ka, hka⟩ := at_is p n hn (hok ho) hp (by omega)
    obtain ⟨K, hK⟩ := hcount
    refine ⟨atP p n, atP_is hn, rankP_atP hn, fun w v hs => ?_⟩
    have hc : odo_product_count.f (max K ka) (ints p) = some (((prod p : Nat) : Int), true) := by rw [← hres ho]; exact hK _ (Nat.le_max_left _ _)
    refine (odo_At_product.calls (max K ka) (ints p) _ _ n (ints (atP p n)) v w hs hc (fun _ _ => hka _ (Nat.le_max_right _ _))).mono ?_
    rintro e w' ⟨v1, rfl, hR, hB⟩
    have hr : atRes ((prod p : Nat) : Int) true n (ints (atP p n)) = (ints (atP p n), 0) := by unfold atRes; rw [if_pos rfl, if_neg (by omega)]
    rw [hr] at hR ⊢
    exact ⟨v1, rfl, hR, hB⟩
  · obtain ⟨h1, h2⟩ := rankP_is p xs (hok ho) hp (by omega)
    obtain ⟨K, hK⟩ := hcount
    by_cases hv : ValidP p xs
    · obtain ⟨x, rfl, hx⟩ := hv
      obtain ⟨kr, hkr⟩ := h2 x rfl hx
      refine ⟨_, 0, .inl ⟨x, rfl, hx, rfl, rfl⟩, fun w v A c hs hC hc => ?_⟩
      have hcn : odo_product_count.f (max K kr) (ints p) = some (((prod p : Nat) : Int), true) := by rw [← hres ho]; exact hK _ (Nat.le_max_left _ _)
      exact (odo_Rank_product.calls (max K kr) (ints p) _ _ A c (ints x) _ true v w hs hcn hC hc (fun _ => hkr _ (Nat.le_max_right _ _)))
    · obtain ⟨kr, hkr⟩ := h1 hv
      refine ⟨0, 3, .inr ⟨fun x e hx => hv ⟨x, e, hx⟩, rfl, rfl⟩, fun w v A c hs hC hc => ?_⟩
      have hcn : odo_product_count.f (max K kr) (ints p) = some (((prod p : Nat) : Int), true) := by rw [← hres ho]; exact hK _ (Nat.le_max_left _ _)
      exact (odo_Rank_product.calls (max K kr) (ints p) _ _ A c xs 0 false v w hs hcn hC hc (fun _ => hkr _ (Nat.le_max_right _ _)))
  · rw [← atP_rankP hx, ← atP_rankP hy, e]
  · rw [isP_length hx, isP_length hy]
  · exact ⟨by rw [isP_length h]; exact hl, isP_lt h hp⟩

theorem rankW_good (v L : List Nat) (a : Nat) (h : Is v L) : rankW v (ints L) a = (a + rank v L, true) := by
  induction L generalizing v a with
  | nil =>
    have hv : v.sum = 0 := h
    show (a, decide (v.sum = 0)) = _
    rw [decide_eq_true hv]; rfl
  | cons x L ih =>
    have hx := getD_lt h.1
    show rankW v ((x : Int) :: ints L) a = _
    rw [rankW, if_pos ⟨by omega, by omega, by rw [Int.toNat_natCast]; exact h.1⟩, Int.toNat_natCast, ih _ _ h.2]
    show (a + shares v x + rank (less v x) L, true) = (a + (shares v x + rank (less v x) L), true)
    rw [Nat.add_assoc]
theorem rankW_true (v : List Nat) (l : List Int) (a : Nat) (h : (rankW v l a).2 = true) : ∃ L, l = ints L ∧ Is v L := by
  induction l generalizing v a with
  | nil => exact ⟨[], rfl, (of_decide_eq_true h : v.sum = 0)⟩
  | cons x l ih =>
    rw [rankW] at h
    split at h
    · rename_i hc
      obtain ⟨L, e, hL⟩ := ih _ _ h
      obtain ⟨i, rfl⟩ : ∃ i : Nat, x = i := ⟨x.toNat, by omega⟩
      rw [Int.toNat_natCast] at hL hc
      exact ⟨i :: L, by rw [e]; rfl, hc.2.2, hL⟩
    · cases h
theorem is_lt {v L : List Nat} (h : Is v L) : ∀ a ∈ L, a < v.length := by
  induction L generalizing v with
  | nil => intro a h; cases h
  | cons x L ih =>
    intro a ha
    rcases List.mem_cons.1 ha with rfl | ha
    · exact getD_lt h.1
    · have := ih h.2 a ha; rwa [less_length] at this
theorem serves_weaves (p : List Nat) (hs : p.sum ≤ 64) (hl : p.length ≤ 64) : Serves 82 (ints p) (mc p) (countRes p).2 (Is p) (rank p) := by
  have hcount := count_is p hs (by omega)
  have hok : (countRes p).2 = true → mc p < 18446744073709551616 := fun h => by
    unfold countRes at h
    split at h
    · assumption
    · cases h
  have hres : (countRes p).2 = true → countRes p = (((mc p : Nat) : Int), true) := fun h => by
    unfold countRes
    rw [if_pos (hok h)]
  obtain ⟨kc, hkc⟩ := hcount.rounds
  have hkc' : odo_weaves_count.f kc (ints p) = some ((countRes p).1, (countRes p).2) := hkc
  refine ⟨fun w v hs => ?_, fun ho n hn => ?_, fun ho xs hxs => ?_, hok, fun x h => rank_lt h, fun x y hx hy e => rank_inj hx hy e, fun x y hx hy => ?_, fun x h => ?_, fun q a b x y hx hy hab => rank_lex hx hy hab⟩
  · refine (odo_Len_weaves.calls kc (ints p) _ _ v w hs hkc').mono ?_
    rintro e w' ⟨rfl, hd⟩
    refine ⟨?_, hd⟩
    by_cases ho : (countRes p).2 = true
    · rw [if_pos ho, if_pos ho, hres ho]; rfl
    · rw [if_neg ho, if_neg ho, if_neg ho]
  · obtain ⟨x, hx, hr⟩ := list_ex _ p n rfl hn
    rw [hres ho] at hkc
    refine ⟨x, hx, hr, fun w v hsp => ?_⟩
    refine (odo_At_weaves.calls kc p x hs hl _ _ n v w hsp hkc (fun _ _ => ⟨hok ho, hx, by rw [hr]⟩)).mono ?_
    rintro e w' ⟨v1, rfl, hR, hB⟩
    have hr : atRes ((mc p : Nat) : Int) true n (ints x) = (ints x, 0) := by unfold atRes; rw [if_pos rfl, if_neg (by omega)]
    rw [hr] at hR ⊢
    exact ⟨v1, rfl, hR, hB⟩
  · rw [hres ho] at hkc
    by_cases hv : (rankW p xs 0).2 = true
    · obtain ⟨x, rfl, hx⟩ := rankW_true p xs 0 hv
      have hg := rankW_good p x 0 hx
      rw [Nat.zero_add] at hg
      refine ⟨_, 0, .inl ⟨x, rfl, hx, rfl, rfl⟩, fun w v A c hsp hC hc => ?_⟩
      exact (odo_Rank_weaves.calls kc p hs hl _ _ A c (ints x) hxs _ true v w hsp hkc hC hc (fun _ => ⟨hok ho, by rw [hg], by rw [hg]⟩))
    · refine ⟨0, 3, .inr ⟨fun x e hx => hv (by rw [e, rankW_good p x 0 hx]), rfl, rfl⟩, fun w v A c hsp hC hc => ?_⟩
      exact (odo_Rank_weaves.calls kc p hs hl _ _ A c xs hxs _ false v w hsp hkc hC hc (fun _ => ⟨hok ho, rfl, (Bool.eq_false_iff.2 hv).symm⟩))
  · rw [is_length hx, is_length hy]
  · exact ⟨by rw [is_length h]; exact hs, fun a ha => by have := is_lt h a ha; omega⟩
end Go.Proofs.Ytohpboblmmbjnaa.P
