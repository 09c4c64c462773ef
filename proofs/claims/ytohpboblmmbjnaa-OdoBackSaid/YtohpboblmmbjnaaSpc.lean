/- The contract of the statements' space. -/
import Derived.Test.YtohpboblmmbjnaaServe
import Derived.Test.YtohpboblmmbjnaaO4
namespace Go.Proofs.Ytohpboblmmbjnaa.P
open Go Go.RowKit Go.Proofs.YtohpboblmmbjnaaW.PrintWords Go.Proofs.YtohpboblmmbjnaaW.PrintLast Go.Proofs.YtohpboblmmbjnaaW.PrintMore Go.Proofs.Odo

/-- What a maker of spaces hands over. -/
def SpRes (w : World) (v : Value) (r : Int) : Prop :=
  (r ≠ 0 ∧ v = .pointer none) ∨ (r = 0 ∧ ∃ T l all ok IsL num, Serves T l all ok IsL num ∧ SpAt T w v l)
theorem ints_of {l : List Int} (h : anyNeg l = false) : ∃ p : List Nat, l = ints p := by
  induction l with
  | nil => exact ⟨[], rfl⟩
  | cons x l ih =>
    unfold anyNeg at h
    rw [List.any_cons, Bool.or_eq_false_iff] at h
    obtain ⟨p, rfl⟩ := ih h.2
    have := of_decide_eq_false h.1
    exact ⟨x.toNat :: p, by show x :: ints p = ((x.toNat : Nat) : Int) :: ints p; rw [Int.toNat_of_nonneg (by omega)]⟩

theorem ints_sum (p : List Nat) : (ints p).sum = ((p.sum : Nat) : Int) := by
  induction p with
  | nil => rfl
  | cons x p ih => show (x : Int) + (ints p).sum = _; rw [ih, List.sum_cons]; omega
theorem spres_product {w : World} {v : Value} {l : List Int} (hl : ∀ x ∈ l, x < 9223372036854775808) (h : SpO 80 w v (odo_Product.f l).1) : SpRes w v (odo_Product.f l).2 := by
  unfold odo_Product.f at h ⊢
  split at h
  · rename_i h1; rw [if_pos h1]; exact .inl ⟨by decide, h⟩
  · rename_i h1
    rw [if_neg h1]
    split at h
    · rename_i h2; rw [if_pos h2]; exact .inl ⟨by decide, h⟩
    · rename_i h2
      rw [if_neg h2]
      obtain ⟨p, rfl⟩ := ints_of (Bool.eq_false_iff.2 h2)
      rw [ints_length] at h1
      refine .inr ⟨rfl, _, _, _, _, _, _, serves_product p (fun a ha => ?_) (by omega), h⟩
      have := hl (a : Int) (List.mem_map.2 ⟨a, ha, rfl⟩)
      omega
theorem spres_weaves {w : World} {v : Value} {l : List Int} (h : SpO 82 w v (odo_Weaves.f l).1) : SpRes w v (odo_Weaves.f l).2 := by
  unfold odo_Weaves.f at h ⊢
  split at h
  · rename_i h1; rw [if_pos h1]; exact .inl ⟨by decide, h⟩
  · rename_i h1
    rw [if_neg h1]
    split at h
    · rename_i h2; rw [if_pos h2]; exact .inl ⟨by decide, h⟩
    · rename_i h2
      rw [if_neg h2]
      split at h
      · rename_i h3; rw [if_pos h3]; exact .inl ⟨by decide, h⟩
      · rename_i h3
        rw [if_neg h3]
        obtain ⟨p, rfl⟩ := ints_of (Bool.eq_false_iff.2 h2)
        rw [ints_length] at h1
        rw [ints_sum] at h3
        exact .inr ⟨rfl, _, _, _, _, _, _, serves_weaves p (by omega) (by omega), h⟩
theorem ints_ones (n : Nat) : List.replicate n (1 : Int) = ints (List.replicate n 1) := by simp [ints]
theorem spres_orders {w : World} {v : Value} {n : Int} (h : SpO 82 w v (odo_Orders.f n).1) : SpRes w v (odo_Orders.f n).2 := by
  unfold odo_Orders.f at h ⊢
  split at h
  · rename_i h1
    rw [if_pos h1]
    rw [ints_ones] at h
    exact .inr ⟨rfl, _, _, _, _, _, _, serves_weaves (List.replicate n.toNat 1) (by simp; omega) (by simp; omega), h⟩
  · rename_i h1; rw [if_neg h1]; exact .inl ⟨by decide, h⟩

set_option maxHeartbeats 1000000 in
set_option maxRecDepth 100000 in
theorem space.calls (K N : Int) (A0 : Option Addr) (c0 : Nat) (l : List Int) (w : World) (hr0 : Kd.C (Kd.int .i64) w A0 l.length l) (hc0 : l.length ≤ c0) (hent : ∀ x ∈ l, x < 9223372036854775808) :
    Calls Try.prog 17 #[.agg #[.int .i64 K, .slice A0 l.length c0, .int .i64 N]] w fun e w' => ∃ v r, e = .returned (.tuple #[v, .int .i64 r]) ∧ SpRes w' v r ∧ Below w.heap.size w w' := by
  have HR0 := Aside0.mk (Kd.C_below hr0 (below_alloc (Below.refl _ _) (.cells #[.int .i64 K, .slice A0 l.length c0, .int .i64 N] 24)))
  have HC0 := Aside0.mk hc0
  have HE := Aside0.mk hent
  clear hr0 hc0 hent
  obtain ⟨z, hz⟩ : ∃ z, (IntKind.u64.wrap K).tmod 3 = z := ⟨_, rfl⟩
  by_cases h0 : (z == 0) = true
  · go_enter Try.func17, Try.ntmps17
    go_wp2_with (go_at_call 18; refine (odo_Product.calls A0 c0 l _ HR0.out HC0.out).mono ?_; rintro e w1 ⟨v1, rfl, hS, hB⟩; replace hS := Aside0.mk hS; replace hB := Aside0.mk hB)
    go_ret2
    exact ⟨_, _, rfl, spres_product HE.out hS.out, below_then (below_alloc (Below.refl _ _) _) (by simp) hB.out⟩
  · have h0' : (z == 0) = false := Bool.eq_false_iff.2 h0
    clear h0
    by_cases h1 : (z == 1) = true
    · go_enter Try.func17, Try.ntmps17
      go_wp2_with (go_at_call 19; refine (odo_Orders.calls N _).mono ?_; rintro e w1 ⟨v1, rfl, hS, hB⟩; replace hS := Aside0.mk hS; replace hB := Aside0.mk hB)
      go_ret2
      exact ⟨_, _, rfl, spres_orders hS.out, below_then (below_alloc (Below.refl _ _) _) (by simp) hB.out⟩
    · have h1' : (z == 1) = false := Bool.eq_false_iff.2 h1
      clear h1
      go_enter Try.func17, Try.ntmps17
      go_wp2_with (go_at_call 26; refine (odo_Weaves.calls A0 c0 l _ HR0.out HC0.out).mono ?_; rintro e w1 ⟨v1, rfl, hS, hB⟩; replace hS := Aside0.mk hS; replace hB := Aside0.mk hB)
      go_ret2
      exact ⟨_, _, rfl, spres_weaves hS.out, below_then (below_alloc (Below.refl _ _) _) (by simp) hB.out⟩
end Go.Proofs.Ytohpboblmmbjnaa.P
