/- OdoWholes' plain law: what the spaces' counts answer, part by part. -/
import Derived.Test.YtohpboblmmbjnaaHwh
import Derived.Test.YtohpboblmmbjnaaProdr
namespace Go.Proofs.Ytohpboblmmbjnaa.P
open Go.RowKit Go.Proofs.YtohpboblmmbjnaaW.PrintWords Go.Proofs.YtohpboblmmbjnaaW.PrintMore Go.Proofs.Odo

theorem ints_append (u v : List Nat) : ints (u ++ v) = ints u ++ ints v := by simp [ints]
/-- A list without negative numbers is one of natural numbers. -/
theorem ints_of {l : List Int} (h : anyNeg l = false) : ∃ p : List Nat, l = ints p := by
  induction l with
  | nil => exact ⟨[], rfl⟩
  | cons x l ih =>
    unfold anyNeg at h ih
    rw [List.any_cons, Bool.or_eq_false_iff] at h
    obtain ⟨p, rfl⟩ := ih h.2
    have hx := of_decide_eq_false h.1
    refine ⟨x.toNat :: p, ?_⟩
    show _ = Int.ofNat x.toNat :: ints p
    congr 1
    show x = ((x.toNat : Nat) : Int)
    omega
theorem ints_nonneg (p : List Nat) : anyNeg (ints p) = false := by
  unfold anyNeg ints
  rw [List.any_map]
  refine Bool.eq_false_iff.2 (fun h => ?_)
  obtain ⟨x, _, hx⟩ := List.any_eq_true.1 h
  have hx' : decide ((x : Int) < 0) = true := hx
  have := of_decide_eq_true hx'
  omega
theorem ints_sum (p : List Nat) : (ints p).sum = (p.sum : Nat) := by
  induction p with
  | nil => rfl
  | cons x p ih =>
    show (Int.ofNat x :: ints p).sum = _
    rw [List.sum_cons, List.sum_cons, ih]
    show (x : Int) + _ = _
    omega
theorem anyNeg_append (u v : List Int) : anyNeg (u ++ v) = (anyNeg u || anyNeg v) := by unfold anyNeg; rw [List.any_append]

theorem part1 {l : List Int} {size : Int} (hr : ∀ x ∈ l, x < 9223372036854775808) (h0 : l.length < 64) (h1 : 0 ≤ size) (h2 : size < 1048576) : Part1 l size := by
  have hs : anyNeg [size] = false := by
    show (decide (size < 0) || false) = false
    rw [decide_eq_false (by omega)]; rfl
  cases hn : anyNeg l with
  | true =>
    refine .inl ⟨4, ?_, ?_⟩
    · unfold odo_Product.f; rw [if_neg (by omega), if_pos hn]
    · unfold odo_Product.f; rw [if_neg (by simp; omega), if_pos (by rw [anyNeg_append, hn]; rfl)]
  | false =>
    refine .inr ⟨?_, ?_, ?_⟩
    · unfold odo_Product.f; rw [if_neg (by omega), if_neg (by rw [hn]; decide)]
    · unfold odo_Product.f; rw [if_neg (by simp; omega), if_neg (by rw [anyNeg_append, hn, hs]; decide)]
    · obtain ⟨p, rfl⟩ := ints_of hn
      obtain ⟨m, rfl⟩ := Int.eq_ofNat_of_zero_le h1
      have hp : ∀ x ∈ p, x < 18446744073709551616 := fun x hx => by
        have := hr (x : Int) (List.mem_map.2 ⟨x, hx, rfl⟩)
        omega
      rw [ints_length] at h0
      have e1 := prod_is p hp (by omega)
      have e2 := prod_is (p ++ [m]) (fun x hx => by
        rcases List.mem_append.1 hx with h | h
        · exact hp x h
        · rw [List.mem_singleton.1 h]; omega) (by simp; omega)
      rw [ints_append] at e2
      obtain ⟨k1, g1⟩ := e1
      obtain ⟨k2, g2⟩ := e2
      have hpr : prod (p ++ [m]) = prod p * m := by rw [prod_append]; simp [prod]
      refine ⟨k1 + k2, (prodRes p).1, (prodRes p).2, (prodRes (p ++ [m])).1, (prodRes (p ++ [m])).2, g1 _ (by omega), g2 _ (by omega), fun a1 a2 => ?_, fun a1 a2 => ?_⟩
      · unfold prodRes at a1 a2 ⊢
        split at a1
        · split at a2
          · rename_i c1 c2
            rw [if_pos c1, if_pos c2]
            rw [hpr] at c2 ⊢
            show ((prod p * m : Nat) : Int) = IntKind.u64.wrap (((prod p : Nat) : Int) * IntKind.u64.wrap (m : Int))
            rw [u64_wrap (x := (m : Int)) (by omega) (by omega), Mul64.mulN, Mul64.wrapN _ c2]
          · cases a2
        · cases a1
      · unfold prodRes at a1 a2 ⊢
        split at a1
        · rename_i c1
          rw [if_pos c1] at a2
          have c3 : prod p < 1099511627776 := Int.ofNat_lt.1 a2
          have c4 : prod p * m ≤ 1099511627776 * 1048576 := Nat.mul_le_mul (by omega) (by omega)
          rw [if_pos (by rw [hpr]; omega)]
        · cases a1

theorem ch_one (n : Nat) : ch (n + 1) 1 = n + 1 := by
  have h := ch_mul n 0
  rw [ch_zero, Nat.mul_one, Nat.zero_add, Nat.one_mul] at h
  exact h
theorem mc_ones (m : Nat) : mc (List.replicate (m + 1) 1) = mc (List.replicate m 1) * (m + 1) := by
  rw [List.replicate_succ', mc_snoc]
  have hs : (List.replicate m 1).sum = m := by
    induction m with
    | zero => rfl
    | succ m ih => rw [List.replicate_succ, List.sum_cons, ih]; omega
  rw [hs, ch_one]
theorem sum_ones (m : Nat) : (List.replicate m 1).sum = m := by
  induction m with
  | zero => rfl
  | succ m ih => rw [List.replicate_succ, List.sum_cons, ih]; omega
theorem ones_small : ∀ m : Fin 21, mc (List.replicate m.val 1) < 18446744073709551616 := by decide +kernel
theorem ints_ones (m : Nat) : ints (List.replicate m 1) = List.replicate m 1 := by simp [ints]
theorem part2 {n : Int} (h0 : 0 ≤ n) (h1 : n < 20) : Part2 n := by
  obtain ⟨m, rfl⟩ := Int.eq_ofNat_of_zero_le h0
  have e : ((m : Int) + 1).toNat = m + 1 := by omega
  rw [show Part2 (m : Int) = Part2 (m : Int) from rfl]
  unfold Part2
  rw [e, Int.toNat_natCast]
  refine ⟨?_, ?_, ?_⟩
  · unfold odo_Orders.f; rw [if_pos (by omega)]; rfl
  · unfold odo_Orders.f; rw [if_pos (by omega), e]
  · have e1 := count_is (List.replicate m 1) (by rw [sum_ones]; omega) (by simp; omega)
    have e2 := count_is (List.replicate (m + 1) 1) (by rw [sum_ones]; omega) (by simp; omega)
    rw [ints_ones] at e1 e2
    have s1 := ones_small ⟨m, by omega⟩
    have s2 := ones_small ⟨m + 1, by omega⟩
    simp only at s1 s2
    unfold countRes at e1 e2
    rw [if_pos s1] at e1
    rw [if_pos s2, mc_ones] at e2
    rw [mc_ones] at s2
    obtain ⟨k1, g1⟩ := e1
    obtain ⟨k2, g2⟩ := e2
    refine ⟨k1 + k2, ((mc (List.replicate m 1) : Nat) : Int), g1 _ (by omega), ?_⟩
    have hw : IntKind.u64.wrap ((m : Int) + 1) = ((m + 1 : Nat) : Int) := u64_wrap (by omega) (by omega)
    rw [hw, Mul64.mulN, Mul64.wrapN _ s2]
    exact g2 _ (by omega)

theorem ch_le_pow (n k : Nat) : ch n k ≤ 2 ^ n := by
  induction n generalizing k with
  | zero => cases k with
    | zero => exact Nat.le_refl _
    | succ k => exact Nat.zero_le _
  | succ n ih => cases k with
    | zero => rw [ch_zero]; exact Nat.one_le_two_pow
    | succ k =>
      rw [ch, Nat.pow_succ]
      have := ih k
      have := ih (k + 1)
      omega
theorem mc_two (a b : Nat) : mc [a, b] = ch (a + b) b := by
  unfold mc
  simp only [mcA, Nat.zero_add, ch_self, Nat.one_mul, Nat.mul_one]
theorem count_two (a b : Nat) (h : a + b ≤ 60) : odo_Weaves.f [(a : Int), (b : Int)] = (some [(a : Int), (b : Int)], 0) ∧ Ev (fun k => odo_weaves_count.f k [(a : Int), (b : Int)]) (((ch (a + b) b : Nat) : Int), true) ∧ ch (a + b) b < 18446744073709551616 := by
  have hlt : ch (a + b) b < 18446744073709551616 := by
    have h1 := ch_le_pow (a + b) b
    have h2 : (2 : Nat) ^ (a + b) ≤ 2 ^ 60 := Nat.pow_le_pow_right (by decide) h
    have h3 : (2 : Nat) ^ 60 < 18446744073709551616 := by decide
    omega
  refine ⟨?_, ?_, hlt⟩
  · have hn := ints_nonneg [a, b]
    have hs := ints_sum [a, b]
    have e : ints [a, b] = [(a : Int), (b : Int)] := rfl
    rw [e] at hn hs
    unfold odo_Weaves.f
    rw [if_neg (by simp), if_neg (by rw [hn]; decide), if_neg (by rw [hs]; simp; omega)]
  · have e := count_is [a, b] (by simp; omega) (by simp)
    unfold countRes at e
    rw [mc_two, if_pos hlt] at e
    exact e
theorem part3 {a b : Int} (h0 : 1 ≤ a) (h1 : 1 ≤ b) (h2 : a ≤ 30) (h3 : b ≤ 30) : Part3 a b := by
  obtain ⟨m, hm⟩ := Int.eq_ofNat_of_zero_le (show 0 ≤ a - 1 by omega)
  obtain ⟨n, hn⟩ := Int.eq_ofNat_of_zero_le (show 0 ≤ b - 1 by omega)
  obtain rfl : a = ((m + 1 : Nat) : Int) := by omega
  obtain rfl : b = ((n + 1 : Nat) : Int) := by omega
  unfold Part3
  rw [hm, hn]
  obtain ⟨a1, a2, a3⟩ := count_two (m + 1) (n + 1) (by omega)
  obtain ⟨b1, b2, b3⟩ := count_two m (n + 1) (by omega)
  obtain ⟨c1, c2, c3⟩ := count_two (m + 1) n (by omega)
  obtain ⟨d1, d2, d3⟩ := count_two (m + 1) 0 (by omega)
  obtain ⟨k1, g1⟩ := a2
  obtain ⟨k2, g2⟩ := b2
  obtain ⟨k3, g3⟩ := c2
  obtain ⟨k4, g4⟩ := d2
  rw [ch_zero] at g4
  have hp : ch (m + 1 + (n + 1)) (n + 1) = ch (m + (n + 1)) (n + 1) + ch (m + 1 + n) n := by
    rw [show m + 1 + (n + 1) = (m + 1 + n) + 1 by omega, ch, show m + 1 + n = m + (n + 1) by omega]
    omega
  rw [hp] at g1 a3
  refine ⟨a1, b1, c1, d1, k1 + k2 + k3 + k4, ((ch (m + (n + 1)) (n + 1) : Nat) : Int), ((ch (m + 1 + n) n : Nat) : Int), ?_, g2 _ (by omega), g3 _ (by omega), g4 _ (by omega)⟩
  rw [Mul64.addN, Mul64.wrapN _ a3]
  exact g1 _ (by omega)
end Go.Proofs.Ytohpboblmmbjnaa.P
