/- How many lists odo's count tells: the multinomial, if it has no more than 64 bits. -/
import Derived.Test.YtohpboblmmbjnaaMath
import Derived.Test.YtohpboblmmbjnaaMulti
namespace Go.Proofs.Ytohpboblmmbjnaa.P
open Go.RowKit Go.Proofs.YtohpboblmmbjnaaW.PrintWords Go.Proofs.YtohpboblmmbjnaaW.PrintMore Go.Proofs.Odo

/-- Natural numbers as the program's. -/
def ints (w : List Nat) : List Int := w.map Int.ofNat
theorem ints_length (w : List Nat) : (ints w).length = w.length := by simp [ints]
theorem rd_ints (w : List Nat) (i : Nat) : rd (ints w) i = (w.getD i 0 : Nat) := by
  unfold rd ints
  rw [Int.toNat_natCast, List.getD_eq_getElem?_getD, List.getElem?_map, List.getD_eq_getElem?_getD]
  cases w[i]? <;> rfl
theorem w64 {x : Int} (h0 : -9223372036854775808 ≤ x) (h1 : x < 9223372036854775808) : wrap64 x = x := by unfold wrap64; omega
theorem ch_mono_le (a : Nat) {i j : Nat} (h : i ≤ j) : ch (a + i) i ≤ ch (a + j) j := by
  induction j with
  | zero => obtain rfl : i = 0 := by omega
            exact Nat.le_refl _
  | succ j ih =>
    rcases Nat.lt_or_ge j i with hj | hj
    · obtain rfl : i = j + 1 := by omega
      exact Nat.le_refl _
    · exact Nat.le_trans (ih hj) (ch_mono a j)

theorem count_row (B a L : Nat) (w : List Int) (len j : Int) (haL : a + L ≤ 64) (r : Int × Bool)
    (hgo : B * ch (a + L) L < 18446744073709551616 → Ev (fun k => odo_weaves_count.l0 k ((B * ch (a + L) L : Nat) : Int) ((a + L : Nat) : Int) w len (wrap64 (j + 1))) r)
    (hno : 18446744073709551616 ≤ B * ch (a + L) L → r = (0, false)) :
    ∀ (d i : Nat), i + d = L → B * ch (a + i) i < 18446744073709551616 →
      Ev (fun k => odo_weaves_count.l1 k ((B * ch (a + i) i : Nat) : Int) (a : Int) (L : Int) ((i + 1 : Nat) : Int) w len j) r := by
  intro d
  induction d with
  | zero =>
    intro i hi hb
    obtain rfl : i = L := by omega
    refine Ev.step (fun k => ?_) (hgo hb)
    simp only [odo_weaves_count.l1]
    rw [if_neg (by omega), w64 (by omega) (by omega)]
    rfl
  | succ d ih =>
    intro i hi hb
    have hm := mul64_is (B * ch (a + i) i) (a + (i + 1)) hb (by omega)
    have hst : B * ch (a + i) i * (a + (i + 1)) = (B * ch (a + (i + 1)) (i + 1)) * (i + 1) := by
      have := ch_step a i
      rw [Nat.mul_assoc, Nat.mul_comm (ch (a + i) i), ← this, Nat.mul_assoc, Nat.mul_comm (i + 1)]
    rw [hst] at hm
    have hle : B * ch (a + (i + 1)) (i + 1) ≤ B * ch (a + L) L := Nat.mul_le_mul_left _ (ch_mono_le a (by omega))
    have e1 : IntKind.u64.wrap (wrap64 ((a : Int) + ((i + 1 : Nat) : Int))) = ((a + (i + 1) : Nat) : Int) := by
      rw [w64 (by omega) (by omega), u64_wrap (by omega) (by omega)]; omega
    have e2 : IntKind.u64.wrap ((i + 1 : Nat) : Int) = ((i + 1 : Nat) : Int) := u64_wrap (by omega) (by omega)
    obtain ⟨X, hX⟩ : ∃ X, B * ch (a + (i + 1)) (i + 1) = X := ⟨_, rfl⟩
    rw [hX] at hm hle hst
    have hdm := Nat.div_add_mod (X * (i + 1)) 18446744073709551616
    by_cases hov : i + 1 ≤ X * (i + 1) / 18446744073709551616
    · have hX64 : 18446744073709551616 ≤ X := by
        rcases Nat.lt_or_ge X 18446744073709551616 with h | h
        · exfalso
          have h1 : X * (i + 1) < 18446744073709551616 * (i + 1) := Nat.mul_lt_mul_of_pos_right h (by omega)
          have h2 := (Nat.div_lt_iff_lt_mul (show 0 < 18446744073709551616 by decide)).2 (show X * (i + 1) < (i + 1) * 18446744073709551616 by rw [Nat.mul_comm (i + 1)]; exact h1)
          omega
        · exact h
      obtain rfl := hno (by omega)
      refine Ev.step (fun k => ?_) (Ev.now (0, false))
      simp only [odo_weaves_count.l1]
      rw [if_pos (by omega), e1, e2, hm]
      simp only [Option.bind_some]
      rw [if_pos (Int.ofNat_le.2 hov)]
    · have hX64 : X < 18446744073709551616 := by
        rcases Nat.lt_or_ge X 18446744073709551616 with h | h
        · exact h
        · exfalso
          apply hov
          refine (Nat.le_div_iff_mul_le (by decide)).2 ?_
          rw [Nat.mul_comm]
          exact Nat.mul_le_mul_right _ h
      obtain ⟨q, hdiv⟩ := div64_is (X * (i + 1) / 18446744073709551616) (X * (i + 1) % 18446744073709551616) (i + 1) (Nat.mod_lt _ (by decide)) (by omega) (by omega)
      have hq : (X * (i + 1) / 18446744073709551616 * 18446744073709551616 + X * (i + 1) % 18446744073709551616) / (i + 1) = X := by
        rw [Nat.mul_comm (X * (i + 1) / 18446744073709551616), hdm, Nat.mul_div_cancel _ (by omega)]
      rw [hq] at hdiv
      have hih := ih (i + 1) (by omega) (by rw [hX]; exact hX64)
      rw [hX] at hih
      have hev : Ev (fun k => (bits_Div64.f k ((X * (i + 1) / 18446744073709551616 : Nat) : Int) ((X * (i + 1) % 18446744073709551616 : Nat) : Int) ((i + 1 : Nat) : Int))) (((X : Nat) : Int), q) := by
        refine ⟨5, fun k hk => ?_⟩
        obtain ⟨m, rfl⟩ : ∃ m, k = m + 5 := ⟨k - 5, by omega⟩
        exact hdiv m
      refine Ev.step (fun k => ?_) (Ev.bind hev (f := fun k bt => odo_weaves_count.l1 k bt.1 (a : Int) (L : Int) ((i + 1 + 1 : Nat) : Int) w len j) hih)
      simp only [odo_weaves_count.l1]
      rw [if_pos (by omega), e1, e2, hm]
      simp only [Option.bind_some]
      rw [if_neg (by intro h; exact hov (Int.ofNat_le.1 h)), show wrap64 (((i + 1 : Nat) : Int) + 1) = ((i + 1 + 1 : Nat) : Int) by rw [w64 (by omega) (by omega)]; omega]

/-- What count answers. -/
def countRes (w : List Nat) : Int × Bool := if mc w < 18446744073709551616 then (((mc w : Nat) : Int), true) else (0, false)

theorem take_snoc_nat (w : List Nat) (j : Nat) (hj : j < w.length) : w.take (j + 1) = w.take j ++ [w.getD j 0] := by
  rw [List.take_succ_eq_append_getElem hj]
  simp [List.getD_eq_getElem?_getD, List.getElem?_eq_getElem hj]
theorem mc_take_le (w : List Nat) (j : Nat) : mc (w.take j) ≤ mc w := by
  have h := mcA_append 0 (w.take j) (w.drop j)
  rw [List.take_append_drop] at h
  unfold mc
  rw [h]
  exact Nat.le_mul_of_pos_right _ (mcA_pos _ _)
theorem sum_take_le (w : List Nat) (j : Nat) : (w.take j).sum ≤ w.sum := by
  have h : (w.take j ++ w.drop j).sum = w.sum := by rw [List.take_append_drop]
  rw [List.sum_append] at h
  omega

theorem count_list (w : List Nat) (hw : w.sum ≤ 64) (hl : w.length ≤ 9223372036854775806) : ∀ (d j : Nat), j + d = w.length → mc (w.take j) < 18446744073709551616 →
    Ev (fun k => odo_weaves_count.l0 k ((mc (w.take j) : Nat) : Int) (((w.take j).sum : Nat) : Int) (ints w) (w.length : Int) (j : Int)) (countRes w) := by
  intro d
  induction d with
  | zero =>
    intro j hj hb
    have ht : w.take j = w := List.take_of_length_le (by omega)
    rw [ht] at hb ⊢
    refine Ev.step (fun k => ?_) (Ev.now _)
    simp only [odo_weaves_count.l0]
    rw [if_neg (by omega)]
    unfold countRes
    rw [if_pos hb]
  | succ d ih =>
    intro j hj hb
    have hjl : j < w.length := by omega
    have hts := take_snoc_nat w j hjl
    have hmc : mc (w.take (j + 1)) = mc (w.take j) * ch ((w.take j).sum + w.getD j 0) (w.getD j 0) := by rw [hts, mc_snoc]
    have hsum : (w.take (j + 1)).sum = (w.take j).sum + w.getD j 0 := by rw [hts]; simp
    have hsl := sum_take_le w (j + 1)
    have hrow := count_row (mc (w.take j)) (w.take j).sum (w.getD j 0) (ints w) (w.length : Int) (j : Int) (by omega) (countRes w)
      (by
        intro hlt
        have := ih (j + 1) (by omega) (by rw [hmc]; exact hlt)
        rw [hmc, hsum] at this
        rw [w64 (by omega) (by omega)]
        exact this)
      (by
        intro hge
        unfold countRes
        rw [if_neg (by have := mc_take_le w (j + 1); rw [hmc] at this; omega)])
      (w.getD j 0) 0 (by omega) (by rw [ch_zero, Nat.mul_one]; exact hb)
    rw [ch_zero, Nat.mul_one] at hrow
    refine Ev.step (fun k => ?_) hrow
    simp only [odo_weaves_count.l0]
    rw [if_pos (by omega), if_pos (by omega), if_pos (by rw [ints_length]; omega), rd_ints]
    rfl

theorem count_is (w : List Nat) (hw : w.sum ≤ 64) (hl : w.length ≤ 9223372036854775806) : Ev (fun k => odo_weaves_count.f k (ints w)) (countRes w) := by
  have h := count_list w hw hl w.length 0 (by omega) (by simp [mc, mcA])
  refine Ev.congr (fun k => ?_) h
  unfold odo_weaves_count.f
  rw [ints_length]
  simp [mc, mcA]
end Go.Proofs.Ytohpboblmmbjnaa.P
