/- What Take answers, in plain words: the value whose code stands at a place. -/
import Derived.Test.YtemhpbdlonfikaaP20
import Derived.Test.YtemhpbdlonfikaaHtext
import Derived.Test.YtemhpbdlonfikaaEa
import Derived.Test.YtemhpbdlonfikaaP3
import Derived.Test.YtemhpbdlonfikaaP4
import Derived.Test.YtemhpbdlonfikaaP5
import Derived.Test.YtemhpbdlonfikaaP6
import Derived.Test.YtemhpbdlonfikaaP7
import Derived.Test.YtemhpbdlonfikaaHreg
import Derived.Test.YtemhpbdlonfikaaP9
import Derived.Test.YtemhpbdlonfikaaP11
import Derived.Test.YtemhpbdlonfikaaP12
import Derived.Test.YtemhpbdlonfikaaP13
import Derived.Test.YtemhpbdlonfikaaP14
namespace Go.Proofs.Ytemhpbdlonfikaa.P
open Go Go.RowKit Go.Proofs.YtemhpbdlonfikaaW.PrintWords Go.Proofs.YtemhpbdlonfikaaW.PrintLast Go.Proofs.YtemhpbdlonfikaaW.PrintMore

theorem and127 (y : Int) (h0 : 0 ≤ y) (h1 : y < 256) : bits .and .u8 y 127 = y % 128 := by
  have h : ∀ k : Fin 256, bits .and .u8 ((k.1 : Nat) : Int) 127 = ((k.1 : Nat) : Int) % 128 := by decide +kernel
  obtain ⟨n, rfl⟩ : ∃ n : Nat, y = n := ⟨y.toNat, by omega⟩
  exact h ⟨n, by omega⟩
theorem u64w (x : Int) : IntKind.u64.wrap x = x % 18446744073709551616 := by simp [IntKind.wrap, IntKind.signed, IntKind.bits]
theorem bits_or64 (x y : Int) : bits .or .u64 x y = IntKind.u64.wrap (((BitVec.ofInt 64 x) ||| (BitVec.ofInt 64 y)).toNat : Int) := rfl
theorem bits_and64 (x y : Int) : bits .and .u64 x y = IntKind.u64.wrap (((BitVec.ofInt 64 x) &&& (BitVec.ofInt 64 y)).toNat : Int) := rfl
theorem bits_xori (x y : Int) : bits .xor .i64 x y = IntKind.i64.wrap (((BitVec.ofInt 64 x) ^^^ (BitVec.ofInt 64 y)).toNat : Int) := rfl
theorem ofInt_nat (n : Nat) (h : n < 18446744073709551616) : (BitVec.ofInt 64 (n : Int)).toNat = n := by rw [BitVec.toNat_ofInt]; omega
theorem or_add {u d n : Nat} (hu : u < 2 ^ (7 * n)) (hd : d * 2 ^ (7 * n) + u < 18446744073709551616) : bits .or .u64 (u : Int) ((d * 2 ^ (7 * n) : Nat) : Int) = ((u + d * 2 ^ (7 * n) : Nat) : Int) := by
  rw [bits_or64, BitVec.toNat_or, ofInt_nat _ (by omega), ofInt_nat _ (by omega), Nat.or_comm]
  have h := Nat.shiftLeft_add_eq_or_of_lt hu d
  rw [Nat.shiftLeft_eq] at h
  rw [← h, u64w]
  omega
theorem step_or {u n : Nat} {c : Int} (h0 : 0 ≤ c) (h1 : c < 256) (hn : n ≤ 9) (hn9 : n = 9 → c ≤ 1) (hu : u < 2 ^ (7 * n)) :
    bits .or .u64 (u : Int) (shl .u64 (IntKind.u64.wrap (bits .and .u8 c 127)) (wrap64 (7 * (n : Int)))) = ((u + (c % 128).toNat * 2 ^ (7 * n) : Nat) : Int) ∧ u + (c % 128).toNat * 2 ^ (7 * n) < 18446744073709551616 ∧ (n ≠ 9 → u + (c % 128).toNat * 2 ^ (7 * n) < 2 ^ (7 * (n + 1))) := by
  obtain ⟨d, hd⟩ : ∃ d : Nat, (c % 128).toNat = d := ⟨_, rfl⟩
  have hd1 : d < 128 := by omega
  have hcd : c % 128 = (d : Int) := by omega
  have hp : 0 < 2 ^ (7 * n) := Nat.pow_pos (by decide)
  have hs : 2 ^ (7 * (n + 1)) = 128 * 2 ^ (7 * n) := by rw [show 7 * (n + 1) = 7 + 7 * n by omega, Nat.pow_add]
  have hm : d * 2 ^ (7 * n) ≤ 127 * 2 ^ (7 * n) := Nat.mul_le_mul_right _ (by omega)
  have hb : u + d * 2 ^ (7 * n) < 18446744073709551616 := by
    by_cases e : n = 9
    · subst e
      have : d ≤ 1 := by have := hn9 rfl; omega
      have e2 : d * 2 ^ (7 * 9) ≤ 1 * 2 ^ (7 * 9) := Nat.mul_le_mul_right _ this
      have : (2 : Nat) ^ (7 * 9) = 9223372036854775808 := by decide
      omega
    · have h8 : 2 ^ (7 * n) ≤ 2 ^ (7 * 8) := Nat.pow_le_pow_right (by decide) (by omega)
      have : (2 : Nat) ^ (7 * 8) = 72057594037927936 := by decide
      omega
  refine ⟨?_, by rw [hd]; exact hb, fun _ => by rw [hd]; omega⟩
  have e1 : shl .u64 (IntKind.u64.wrap (bits .and .u8 c 127)) (wrap64 (7 * (n : Int))) = ((d * 2 ^ (7 * n) : Nat) : Int) := by
    rw [and127 c h0 h1, hcd, u64w]
    have e2 : wrap64 (7 * (n : Int)) = ((7 * n : Nat) : Int) := by unfold wrap64; omega
    have e3 : (d : Int) % 18446744073709551616 = d := by omega
    rw [e2, e3]
    unfold shl
    rw [Int.toNat_natCast, Nat.min_eq_left (by simp [IntKind.bits]; omega), u64w]
    have e4 : (d : Int) * 2 ^ (7 * n) = ((d * 2 ^ (7 * n) : Nat) : Int) := by push_cast; rfl
    rw [e4]
    omega
  rw [e1, hd]
  exact or_add hu (by omega)
theorem unz_is {U : Nat} (h : U < 18446744073709551616) : bits .xor .i64 (wrap64 ((U : Int) / 2)) (wrap64 (-(wrap64 (bits .and .u64 (U : Int) 1)))) = unzig U := by
  have e1 : bits .and .u64 (U : Int) 1 = ((U % 2 : Nat) : Int) := by
    rw [bits_and64, BitVec.toNat_and, ofInt_nat _ h, show (1 : Int) = ((1 : Nat) : Int) from rfl, ofInt_nat 1 (by decide), Nat.and_one_is_mod, u64w]
    omega
  have e2 : wrap64 ((U : Int) / 2) = ((U / 2 : Nat) : Int) := by unfold wrap64; omega
  rw [e1, e2, bits_xori, i64_w]
  unfold unzig
  by_cases h0 : U % 2 = 0
  · rw [if_pos h0, h0]
    have e3 : wrap64 (-(wrap64 ((0 : Nat) : Int))) = 0 := by unfold wrap64; decide
    have e4 : BitVec.ofInt 64 ((U / 2 : Nat) : Int) ^^^ BitVec.ofInt 64 0 = BitVec.ofInt 64 ((U / 2 : Nat) : Int) := by simp
    rw [e3, e4, ofInt_nat _ (by omega)]
    unfold wrap64
    omega
  · rw [if_neg h0, show U % 2 = 1 by omega]
    have e3 : wrap64 (-(wrap64 ((1 : Nat) : Int))) = -1 := by unfold wrap64; decide
    have e4 : BitVec.ofInt 64 (-1) = BitVec.allOnes 64 := by decide
    rw [e3, e4, BitVec.xor_allOnes, BitVec.toNat_not, ofInt_nat _ (by omega)]
    unfold wrap64
    omega

/-- The code at a list's front, behind some groups: what it says, and how many bytes there are. -/
def takeL : Nat → Nat → List Int → Option (Nat × Nat)
  | _, _, [] => none
  | n, u, c :: r => if 10 ≤ n then none else if n = 9 ∧ 1 < c then none else if c < 128 then (if c = 0 ∧ 0 < n then none else some (u + (c % 128).toNat * 2 ^ (7 * n), n + 1)) else takeL (n + 1) (u + (c % 128).toNat * 2 ^ (7 * n)) r
theorem dat_len (s : ByteArray) : s.data.toList.length = s.size := by rw [Array.length_toList]; rfl
def bytesI (s : ByteArray) (k : Nat) : List Int := (s.data.toList.drop k).map fun b => (b.toNat : Int)
theorem bytesI_end {s : ByteArray} {k : Nat} (h : s.size ≤ k) : bytesI s k = [] := by unfold bytesI; rw [List.drop_eq_nil_of_le (by rw [dat_len]; exact h)]; rfl
theorem bytesI_at {s : ByteArray} {k : Nat} (h : k < s.size) : bytesI s k = bt s (k : Int) :: bytesI s (k + 1) := by
  unfold bytesI
  have hk : k < s.data.toList.length := by rw [dat_len]; exact h
  rw [List.drop_eq_getElem_cons hk, List.map_cons]
  congr 1
  unfold bt
  rw [Int.toNat_natCast, dif_pos h]
  rfl
theorem bytesI_in (s : ByteArray) (k : Nat) : ∀ x ∈ bytesI s k, 0 ≤ x ∧ x < 256 := by
  intro x hx
  unfold bytesI at hx
  obtain ⟨b, _, rfl⟩ := List.mem_map.1 hx
  have := b.toNat_lt
  omega
def tkR : Option (Nat × Nat) → Int × Int × Int
  | some (u, n) => (unzig u, n, 0)
  | none => (0, 0, 40)
def tk (s : ByteArray) (at_ : Int) : Int × Int × Int := if at_ < 0 ∨ (s.size : Int) ≤ at_ then (0, 0, 40) else tkR (takeL 0 0 (bytesI s at_.toNat))

theorem take_l (s : ByteArray) (a : Nat) (hs : s.size ≤ 4611686018427387904) (d : Nat) : ∀ n u : Nat, n + d = 10 → u < 2 ^ (7 * n) → (a + n ≤ s.size + 10) →
    Ev (fun k => word_Take.l0 k s (a : Int) (u : Int) (n : Int)) (tkR (takeL n u (bytesI s (a + n)))) := by
  induction d with
  | zero =>
    intro n u hn hu ha
    have e : takeL n u (bytesI s (a + n)) = none := by
      cases bytesI s (a + n) with
      | nil => rfl
      | cons c r => rw [takeL, if_pos (by omega)]
    rw [e]
    refine Ev.step (f := fun k => word_Take.j2 k s (a : Int) (u : Int) (n : Int) false) (fun k => by simp only [word_Take.l0]; rw [if_neg (by omega)]) ?_
    exact Ev.step (f := fun _ => some (0, 0, 40)) (fun k => by simp only [word_Take.j2]; rw [if_neg (by decide)]) (Ev.now _)
  | succ d ih =>
    intro n u hn hu ha
    have hw : wrap64 ((a : Int) + (n : Int)) = ((a + n : Nat) : Int) := by unfold wrap64; omega
    have hw7 : wrap64 (7 * (n : Int)) = ((7 * n : Nat) : Int) := by unfold wrap64; omega
    have hw1 : wrap64 ((n : Int) + 1) = ((n + 1 : Nat) : Int) := by unfold wrap64; omega
    refine Ev.step (f := fun k => word_Take.j2 k s (a : Int) (u : Int) (n : Int) (decide (((a + n : Nat) : Int) < (s.size : Int)))) (fun k => by simp only [word_Take.l0]; rw [if_pos (by omega), hw]) ?_
    by_cases hlt : a + n < s.size
    · have hd : decide (((a + n : Nat) : Int) < (s.size : Int)) = true := decide_eq_true (by omega)
      rw [hd, bytesI_at hlt]
      have hc := bytesI_in s (a + n) (bt s ((a + n : Nat) : Int)) (by rw [bytesI_at hlt]; exact List.mem_cons_self)
      obtain ⟨c, hcc⟩ : ∃ c, bt s ((a + n : Nat) : Int) = c := ⟨_, rfl⟩
      rw [hcc] at hc ⊢
      refine Ev.step (f := fun k => word_Take.j3 k s (a : Int) (u : Int) (n : Int) c (decide (n = 9 ∧ 1 < c))) (fun k => ?_) ?_
      · simp only [word_Take.j2]
        rw [if_pos trivial, hw, if_pos (by omega), if_pos (by omega), hcc]
        by_cases h9 : n = 9
        · rw [if_pos (by omega)]
          congr 1
          simp [h9]
        · rw [if_neg (by omega)]
          congr 1
          simp [h9]
      · by_cases h9 : n = 9 ∧ 1 < c
        · have e : takeL n u (c :: bytesI s (a + n + 1)) = none := by rw [takeL, if_neg (by omega), if_pos h9]
          rw [e, decide_eq_true h9]
          exact Ev.step (f := fun _ => some (0, 0, 40)) (fun k => by simp only [word_Take.j3]; rw [if_pos trivial]) (Ev.now _)
        · rw [decide_eq_false h9]
          have hso := step_or hc.1 hc.2 (by omega : n ≤ 9) (fun e => by omega) hu
          obtain ⟨ho, ho2, ho3⟩ := hso
          by_cases h128 : c < 128
          · refine Ev.step (f := fun _ => some (tkR (takeL n u (c :: bytesI s (a + n + 1))))) (fun k => ?_) (Ev.now _)
            simp only [word_Take.j3]
            rw [if_neg (by decide), hw7, if_pos (by omega), if_pos h128, ← hw7, ho, unz_is ho2, hw1]
            rw [takeL, if_neg (show ¬ 10 ≤ n by omega), if_neg h9, if_pos h128]
            by_cases h00 : c = 0
            · rw [if_pos h00]
              by_cases hn0 : 0 < n
              · rw [if_pos (by omega), if_pos ⟨h00, hn0⟩]; rfl
              · rw [if_neg (by omega), if_neg (fun h => hn0 h.2)]; rfl
            · rw [if_neg h00, if_neg (fun h => h00 h.1)]; rfl
          · have hn9 : n ≠ 9 := fun e => by omega
            refine Ev.step (f := fun k => word_Take.l0 k s (a : Int) ((u + (c % 128).toNat * 2 ^ (7 * n) : Nat) : Int) ((n + 1 : Nat) : Int)) (fun k => ?_) ?_
            · simp only [word_Take.j3]
              rw [if_neg (by decide), hw7, if_pos (by omega), if_neg h128, ← hw7, ho, hw1]
            · have := ih (n + 1) (u + (c % 128).toNat * 2 ^ (7 * n)) (by omega) (ho3 hn9) (by omega)
              rw [takeL, if_neg (show ¬ 10 ≤ n by omega), if_neg h9, if_neg h128]
              exact this
    · have hd : decide (((a + n : Nat) : Int) < (s.size : Int)) = false := decide_eq_false (by omega)
      rw [hd, bytesI_end (by omega)]
      exact Ev.step (f := fun _ => some (0, 0, 40)) (fun k => by simp only [word_Take.j2]; rw [if_neg (by decide)]) (Ev.now _)
theorem take_is (s : ByteArray) (at_ : Int) (hs : s.size ≤ 4611686018427387904) : Ev (fun k => word_Take.f k s at_) (tk s at_) := by
  unfold tk
  by_cases h0 : at_ < 0
  · rw [if_pos (.inl h0)]
    refine Ev.congr (f := fun k => word_Take.j0 k s at_ true) (fun k => by unfold word_Take.f; rw [if_pos h0]) ?_
    exact Ev.step (f := fun _ => some (0, 0, 40)) (fun k => by simp only [word_Take.j0]; rw [if_pos trivial]) (Ev.now _)
  · by_cases h1 : (s.size : Int) ≤ at_
    · rw [if_pos (.inr h1)]
      refine Ev.congr (f := fun k => word_Take.j0 k s at_ true) (fun k => by unfold word_Take.f; rw [if_neg h0, decide_eq_true (by omega)]) ?_
      exact Ev.step (f := fun _ => some (0, 0, 40)) (fun k => by simp only [word_Take.j0]; rw [if_pos trivial]) (Ev.now _)
    · rw [if_neg (by omega)]
      obtain ⟨a, rfl⟩ : ∃ a : Nat, at_ = a := ⟨at_.toNat, by omega⟩
      refine Ev.congr (f := fun k => word_Take.j0 k s (a : Int) false) (fun k => by unfold word_Take.f; rw [if_neg h0, decide_eq_false (by omega)]) ?_
      refine Ev.step (f := fun k => word_Take.l0 k s (a : Int) ((0 : Nat) : Int) ((0 : Nat) : Int)) (fun k => by simp only [word_Take.j0]; rw [if_neg (by decide)]; rfl) ?_
      have := take_l s a hs 10 0 0 rfl (by simp) (by omega)
      rw [Nat.add_zero] at this
      rw [Int.toNat_natCast]
      exact this
end Go.Proofs.Ytemhpbdlonfikaa.P
/- A state's text read back, in plain words: values, numbers, rows, and that what is read is what was written. -/
namespace Go.Proofs.Ytemhpbdlonfikaa.P
open Go Go.RowKit Go.Proofs.YtemhpbdlonfikaaW.PrintWords Go.Proofs.YtemhpbdlonfikaaW.PrintLast Go.Proofs.YtemhpbdlonfikaaW.PrintMore

theorem pow7 (n : Nat) : 2 ^ (7 * (n + 1)) = 128 * 2 ^ (7 * n) := by rw [show 7 * (n + 1) = 7 + 7 * n by omega, Nat.pow_add]
theorem takeL_inv (bs : List Int) : ∀ (n u U m : Nat), (∀ c ∈ bs, 0 ≤ c ∧ c < 256) → takeL n u bs = some (U, m) → ∃ x rest, bs = leb x ++ rest ∧ U = u + x * 2 ^ (7 * n) ∧ m = n + (leb x).length ∧ (0 < n → x ≠ 0) ∧ x * 2 ^ (7 * n) < 18446744073709551616 := by
  induction bs with
  | nil => intro n u U m _ h; cases h
  | cons c r ih =>
    intro n u U m hb h
    have hc := hb c List.mem_cons_self
    rw [takeL] at h
    by_cases h10 : 10 ≤ n
    · rw [if_pos h10] at h; cases h
    rw [if_neg h10] at h
    by_cases h9 : n = 9 ∧ 1 < c
    · rw [if_pos h9] at h; cases h
    rw [if_neg h9] at h
    by_cases h1 : c < 128
    · rw [if_pos h1] at h
      by_cases h0 : c = 0 ∧ 0 < n
      · rw [if_pos h0] at h; cases h
      rw [if_neg h0] at h
      injection h with h
      injection h with hU hm
      have e : (c % 128).toNat = c.toNat := by omega
      refine ⟨c.toNat, r, ?_, by rw [← hU, e], ?_, fun hn e2 => h0 ⟨by omega, hn⟩, ?_⟩
      · rw [leb_small (by omega), List.singleton_append]
        congr 1
        omega
      · rw [leb_small (by omega)]; exact hm.symm
      · by_cases h99 : n = 9
        · subst h99
          have : c.toNat ≤ 1 := by
            rcases Int.lt_or_le 1 c with h3 | h3
            · exact absurd ⟨rfl, h3⟩ h9
            · omega
          have e2 : c.toNat * 2 ^ (7 * 9) ≤ 1 * 2 ^ (7 * 9) := Nat.mul_le_mul_right _ this
          have : (2 : Nat) ^ (7 * 9) = 9223372036854775808 := by decide
          omega
        · have h8 : 2 ^ (7 * n) ≤ 2 ^ (7 * 8) := Nat.pow_le_pow_right (by decide) (by omega)
          have e3 : c.toNat * 2 ^ (7 * n) ≤ 127 * 2 ^ (7 * 8) := Nat.mul_le_mul (by omega) h8
          have : (2 : Nat) ^ (7 * 8) = 72057594037927936 := by decide
          omega
    · rw [if_neg h1] at h
      obtain ⟨x, rest, e1, e2, e3, e4, e5⟩ := ih _ _ _ _ (fun d hd => hb d (List.mem_cons_of_mem _ hd)) h
      have hx := e4 (Nat.succ_pos n)
      obtain ⟨d, hd⟩ : ∃ d : Nat, c = (d : Int) + 128 := ⟨(c - 128).toNat, by omega⟩
      have hd1 : d < 128 := by omega
      have q1 : (d + 128 * x) % 128 = d := by omega
      have q2 : (d + 128 * x) / 128 = x := by omega
      have e6 : (c % 128).toNat = d := by omega
      rw [e6] at e2
      refine ⟨d + 128 * x, rest, ?_, ?_, ?_, fun _ => by omega, ?_⟩
      · rw [leb_more (by omega), q1, q2, List.cons_append, ← e1]
        congr 1
      · rw [e2, pow7, Nat.add_assoc, ← Nat.mul_assoc, ← Nat.add_mul, Nat.mul_comm x 128]
      · rw [leb_more (u := d + 128 * x) (by omega), q2, List.length_cons, e3]; omega
      · rw [pow7, ← Nat.mul_assoc] at e5
        have h63 : d * 2 ^ (7 * n) < 128 * 2 ^ (7 * n) := Nat.mul_lt_mul_of_pos_right hd1 (Nat.pow_pos (by decide))
        rw [Nat.add_mul]
        -- the sum stays below: both parts are apart
        have h9' : n ≤ 8 := by
          rcases Nat.lt_or_ge n 9 with h | h
          · omega
          · have : n = 9 := by omega
            subst this
            have : 128 * 2 ^ (7 * 9) ≤ x * 128 * 2 ^ (7 * 9) := Nat.mul_le_mul_right _ (by omega)
            have : (2 : Nat) ^ (7 * 9) = 9223372036854775808 := by decide
            omega
        have hdvd : ∃ y, 18446744073709551616 = y * (128 * 2 ^ (7 * n)) := ⟨2 ^ (57 - 7 * n), by
          rw [show (128 : Nat) = 2 ^ 7 by decide, ← Nat.pow_add, ← Nat.pow_add, show 57 - 7 * n + (7 + 7 * n) = 64 by omega]⟩
        obtain ⟨y, hy⟩ := hdvd
        have hxy : x < y := by
          rw [hy, Nat.mul_assoc] at e5
          exact Nat.lt_of_mul_lt_mul_right e5
        have : (x + 1) * (128 * 2 ^ (7 * n)) ≤ y * (128 * 2 ^ (7 * n)) := Nat.mul_le_mul_right _ hxy
        rw [Nat.add_mul, Nat.one_mul] at this
        rw [Nat.mul_comm 128 x, Nat.mul_assoc]
        omega
/-- A value's code, as numbers. -/
def putI (v : Int) : List Int := leb (zig v)
theorem putU_I (v : Int) : (putU v).map (fun b => (b.toNat : Int)) = putI v := by
  unfold putU putI
  rw [List.map_map]
  have h := leb_byte (zig v)
  revert h
  generalize leb (zig v) = l
  intro h
  induction l with
  | nil => rfl
  | cons x l ih =>
    obtain ⟨h1, h2⟩ := h x List.mem_cons_self
    rw [List.map_cons, ih (fun y hy => h y (List.mem_cons_of_mem _ hy))]
    congr 1
    simp only [Function.comp, UInt8.toNat_ofNat']
    omega
theorem bytesI_len (s : ByteArray) (k : Nat) : (bytesI s k).length = s.size - k := by unfold bytesI; rw [List.length_map, List.length_drop, dat_len]
theorem bytesI_drop (s : ByteArray) (k n : Nat) : bytesI s (k + n) = (bytesI s k).drop n := by unfold bytesI; rw [← List.map_drop, List.drop_drop]
theorem tk_inv {s : ByteArray} {a : Nat} {v n : Int} (h : tk s (a : Int) = (v, n, 0)) : (∃ rest, bytesI s a = putI v ++ rest) ∧ n = (((putI v).length : Nat) : Int) ∧ I64 v := by
  unfold tk at h
  split at h
  · injection h with _ h; injection h with _ h; cases h
  · rw [Int.toNat_natCast] at h
    cases ht : takeL 0 0 (bytesI s a) with
    | none => rw [ht] at h; injection h with _ h; injection h with _ h; cases h
    | some q =>
      obtain ⟨U, m⟩ := q
      rw [ht] at h
      injection h with h1 h
      injection h with h2 _
      obtain ⟨x, rest, e1, e2, e3, _, e5⟩ := takeL_inv _ _ _ _ _ (bytesI_in s a) ht
      have eU : U = x := by simpa using e2
      subst eU
      have hz : zig v = U := by rw [← h1]; exact zig_unzig U
      refine ⟨⟨rest, by unfold putI; rw [hz]; exact e1⟩, ?_, ?_⟩
      · unfold putI; rw [hz, ← h2, e3, Nat.zero_add]
      · rw [← h1]; exact unzig_in (by simpa using e5)
end Go.Proofs.Ytemhpbdlonfikaa.P
/- A state's reader, in plain words, and that it reads just what is written. -/
namespace Go.Proofs.Ytemhpbdlonfikaa.P
open Go Go.RowKit Go.Proofs.YtemhpbdlonfikaaW.PrintWords Go.Proofs.YtemhpbdlonfikaaW.PrintLast Go.Proofs.YtemhpbdlonfikaaW.PrintMore

/-- Where a reader stands, and whether something was wrong. -/
abbrev RS := Int × Bool
def valM (s : ByteArray) (r : RS) : Int × RS := if (tk s r.1).2.2 = 0 then ((tk s r.1).1, (wrap64 (r.1 + (tk s r.1).2.1), r.2)) else (0, (r.1, true))
def numM (s : ByteArray) (lo hi : Int) (r : RS) : Int × RS :=
  if (valM s r).2.2 = true ∨ (valM s r).1 < lo ∨ hi < (valM s r).1 then (lo, ((valM s r).2.1, true)) else valM s r
def rowM (s : ByteArray) : Nat → RS → List Int × RS
  | 0, r => ([], r)
  | n + 1, r => ((valM s r).1 :: (rowM s n (valM s r).2).1, (rowM s n (valM s r).2).2)
/-- Threads: of each how many instructions and registers it has. -/
def thrT (s : ByteArray) : List (Nat × Nat) → RS → (List Int × List Int × List (List Int)) × RS
  | [], r => (([], [], []), r)
  | (n, m) :: ts, r =>
    let a := numM s 0 n r
    let b := numM s 0 2 a.2
    let g := rowM s m b.2
    let t := thrT s ts g.2
    ((a.1 :: t.1.1, b.1 :: t.1.2.1, g.1 :: t.1.2.2), t.2)
def wrM (s : ByteArray) (nl : Nat) : Nat → RS → Option (List S59 × RS)
  | 0, r => some ([], r)
  | n + 1, r => if r.2 = true ∨ nl = 0 then none else
    let a := numM s 0 ((nl : Int) - 1) r
    let v := valM s a.2
    (wrM s nl n v.2).map fun t => (⟨a.1, v.1⟩ :: t.1, t.2)
def bufM (s : ByteArray) (nl : Nat) : Nat → RS → Option (List (List S59) × RS)
  | 0, r => some ([], r)
  | n + 1, r =>
    let a := numM s 0 64 r
    (wrM s nl a.1.toNat a.2).bind fun l => (bufM s nl n l.2).map fun t => (l.1 :: t.1, t.2)

/-! ### what is read without fault is what was written -/
/-- From one place to another the text holds the codes of some values. -/
def Holds (s : ByteArray) (a : Nat) (l : List Int) (b : Nat) : Prop := ∃ rest, bytesI s a = l.flatMap putI ++ rest ∧ b = a + (l.flatMap putI).length
theorem Holds.nil (s : ByteArray) (a : Nat) : Holds s a [] a := ⟨bytesI s a, by simp, by simp⟩
theorem Holds.rest {s : ByteArray} {a b : Nat} {l : List Int} (h : Holds s a l b) : bytesI s a = l.flatMap putI ++ bytesI s b := by
  obtain ⟨rest, e, rfl⟩ := h
  rw [bytesI_drop, e, List.drop_left]
theorem Holds.append {s : ByteArray} {a b c : Nat} {l m : List Int} (h : Holds s a l b) (k : Holds s b m c) : Holds s a (l ++ m) c := by
  have e1 := h.rest
  have e2 := k.rest
  refine ⟨bytesI s c, by rw [List.flatMap_append, List.append_assoc, ← e2, e1], ?_⟩
  obtain ⟨_, _, h2⟩ := h
  obtain ⟨_, _, k2⟩ := k
  rw [List.flatMap_append, List.length_append]; omega
theorem Holds.split {s : ByteArray} {a c : Nat} {l m : List Int} (h : Holds s a (l ++ m) c) : ∃ b, Holds s a l b ∧ Holds s b m c := by
  obtain ⟨rest, e, rfl⟩ := h
  rw [List.flatMap_append, List.append_assoc] at e
  refine ⟨a + (l.flatMap putI).length, ⟨m.flatMap putI ++ rest, e, rfl⟩, rest, ?_, ?_⟩
  · rw [bytesI_drop, e, List.drop_left]
  · rw [List.flatMap_append, List.length_append]; omega
theorem Holds.le {s : ByteArray} {a b : Nat} {l : List Int} (h : Holds s a l b) (ha : a ≤ s.size) : b ≤ s.size := by
  obtain ⟨rest, e, rfl⟩ := h
  have hl := bytesI_len s a
  rw [e, List.length_append] at hl
  omega
variable {s : ByteArray}
theorem valM_bad (r : RS) (h : r.2 = true) : (valM s r).2.2 = true := by
  unfold valM
  split
  · exact h
  · rfl
theorem valM_inv {a : Nat} (hs : s.size ≤ 4611686018427387904) (ha : a ≤ s.size) (h : (valM s ((a : Int), false)).2.2 = false) : ∃ b : Nat, (valM s ((a : Int), false)).2 = ((b : Int), false) ∧ Holds s a [(valM s ((a : Int), false)).1] b ∧ I64 (valM s ((a : Int), false)).1 := by
  unfold valM at h ⊢
  split
  · rename_i h0
    obtain ⟨⟨rest, e1⟩, e2, e3⟩ := tk_inv (v := (tk s (a : Int)).1) (n := (tk s (a : Int)).2.1) (by rw [← h0])
    have hl := bytesI_len s a
    rw [e1, List.length_append] at hl
    refine ⟨a + (putI (tk s (a : Int)).1).length, ?_, ⟨rest, by simpa using e1, by simp⟩, e3⟩
    show (wrap64 ((a : Int) + (tk s (a : Int)).2.1), false) = _
    rw [e2]
    have : wrap64 ((a : Int) + ((putI (tk s (a : Int)).1).length : Nat)) = ((a + (putI (tk s (a : Int)).1).length : Nat) : Int) := by unfold wrap64; omega
    rw [this]
  · rename_i h0
    rw [if_neg h0] at h
    cases h
theorem numM_bad (lo hi : Int) (r : RS) (h : r.2 = true) : (numM s lo hi r).2.2 = true := by
  unfold numM
  rw [if_pos (.inl (valM_bad r h))]
theorem numM_inv {a : Nat} {lo hi : Int} (hs : s.size ≤ 4611686018427387904) (ha : a ≤ s.size) (h : (numM s lo hi ((a : Int), false)).2.2 = false) :
    ∃ b : Nat, (numM s lo hi ((a : Int), false)).2 = ((b : Int), false) ∧ Holds s a [(numM s lo hi ((a : Int), false)).1] b ∧ lo ≤ (numM s lo hi ((a : Int), false)).1 ∧ (numM s lo hi ((a : Int), false)).1 ≤ hi ∧ I64 (numM s lo hi ((a : Int), false)).1 := by
  unfold numM at h ⊢
  split
  · rename_i h0; rw [if_pos h0] at h; cases h
  · rename_i h0
    rw [if_neg h0] at h
    obtain ⟨b, e1, e2, e3⟩ := valM_inv hs ha h
    exact ⟨b, e1, e2, by omega, by omega, e3⟩
theorem rowM_len (n : Nat) : ∀ r, (rowM s n r).1.length = n := by
  induction n with
  | zero => intro r; rfl
  | succ n ih => intro r; rw [rowM, List.length_cons, ih]
theorem rowM_bad (n : Nat) : ∀ r : RS, r.2 = true → (rowM s n r).2.2 = true := by
  induction n with
  | zero => intro r h; exact h
  | succ n ih => intro r h; rw [rowM]; exact ih _ (valM_bad r h)
theorem rowM_inv (hs : s.size ≤ 4611686018427387904) (n : Nat) : ∀ {a : Nat}, a ≤ s.size → (rowM s n ((a : Int), false)).2.2 = false → ∃ b : Nat, (rowM s n ((a : Int), false)).2 = ((b : Int), false) ∧ Holds s a (rowM s n ((a : Int), false)).1 b ∧ ∀ x ∈ (rowM s n ((a : Int), false)).1, I64 x := by
  induction n with
  | zero => intro a ha _; exact ⟨a, rfl, Holds.nil s a, fun x hx => by cases hx⟩
  | succ n ih =>
    intro a ha h
    rw [rowM] at h ⊢
    cases hb : (valM s ((a : Int), false)).2.2 with
    | true => exact absurd (rowM_bad n _ hb) (by rw [h]; decide)
    | false =>
      obtain ⟨b, e1, e2, e3⟩ := valM_inv hs ha hb
      rw [e1] at h ⊢
      obtain ⟨c, f1, f2, f3⟩ := ih (e2.le ha) h
      refine ⟨c, f1, Holds.append e2 f2, fun x hx => ?_⟩
      rcases List.mem_cons.1 hx with rfl | hx
      · exact e3
      · exact f3 x hx
end Go.Proofs.Ytemhpbdlonfikaa.P
/- The whole state's reader, in plain words: what is written is read, and what is read is what was written. -/
namespace Go.Proofs.Ytemhpbdlonfikaa.P
open Go Go.RowKit Go.Proofs.YtemhpbdlonfikaaW.PrintWords Go.Proofs.YtemhpbdlonfikaaW.PrintLast Go.Proofs.YtemhpbdlonfikaaW.PrintMore
variable {s : ByteArray}

/-- The threads' values, one behind the other. -/
def thrV : List Int → List Int → List (List Int) → List Int
  | a :: p, b :: q, g :: rg => ([a] ++ [b] ++ g) ++ thrV p q rg
  | _, _, _ => []
def ThrOK : List (Nat × Nat) → List Int → List Int → List (List Int) → Prop
  | [], [], [], [] => True
  | (n, m) :: ts, a :: p, b :: q, g :: rg => (0 ≤ a ∧ a ≤ n ∧ I64 a) ∧ (0 ≤ b ∧ b ≤ 2 ∧ I64 b) ∧ (g.length = m ∧ ∀ x ∈ g, I64 x) ∧ ThrOK ts p q rg
  | _, _, _, _ => False
theorem thrT_bad (ts : List (Nat × Nat)) : ∀ r : RS, r.2 = true → (thrT s ts r).2.2 = true := by
  induction ts with
  | nil => intro r h; exact h
  | cons t ts ih =>
    intro r h
    exact ih _ (rowM_bad _ _ (numM_bad _ _ _ (numM_bad _ _ _ h)))
theorem flag {α : Type} {f : α → Bool} {x : α} {y : Bool} (h : f x = true → y = true) (hy : y = false) : f x = false := by
  cases hf : f x with
  | false => rfl
  | true => rw [h hf] at hy; cases hy
theorem thrT_inv (hs : s.size ≤ 4611686018427387904) (ts : List (Nat × Nat)) : ∀ {a : Nat}, a ≤ s.size → (thrT s ts ((a : Int), false)).2.2 = false →
    ∃ b : Nat, (thrT s ts ((a : Int), false)).2 = ((b : Int), false) ∧ Holds s a (thrV (thrT s ts ((a : Int), false)).1.1 (thrT s ts ((a : Int), false)).1.2.1 (thrT s ts ((a : Int), false)).1.2.2) b ∧
      ThrOK ts (thrT s ts ((a : Int), false)).1.1 (thrT s ts ((a : Int), false)).1.2.1 (thrT s ts ((a : Int), false)).1.2.2 := by
  induction ts with
  | nil => intro a ha _; exact ⟨a, rfl, Holds.nil s a, trivial⟩
  | cons t ts ih =>
    intro a ha h
    obtain ⟨n, m⟩ := t
    have hg : (rowM s m (numM s 0 2 (numM s 0 n ((a : Int), false)).2).2).2.2 = false := flag (f := fun x : RS => x.2) (thrT_bad ts _) h
    have hb : (numM s 0 2 (numM s 0 n ((a : Int), false)).2).2.2 = false := flag (f := fun x : RS => x.2) (rowM_bad m _) hg
    have ha1 : (numM s 0 n ((a : Int), false)).2.2 = false := flag (f := fun x : RS => x.2) (numM_bad _ _ _) hb
    obtain ⟨b, e1, e2, e3, e4, e5⟩ := numM_inv hs ha ha1
    rw [e1] at hb hg
    obtain ⟨c, f1, f2, f3, f4, f5⟩ := numM_inv hs (e2.le ha) hb
    rw [f1] at hg
    obtain ⟨d, g1, g2, g3⟩ := rowM_inv hs m (f2.le (e2.le ha)) hg
    have h' : (thrT s ts ((d : Int), false)).2.2 = false := by
      have := h
      simp only [thrT, e1, f1, g1] at this
      exact this
    obtain ⟨e, k1, k2, k3⟩ := ih (g2.le (f2.le (e2.le ha))) h'
    simp only [thrT, e1, f1, g1]
    exact ⟨e, k1, ((e2.append f2).append g2).append k2, ⟨e3, e4, e5⟩, ⟨f3, f4, f5⟩, ⟨rowM_len _ _, g3⟩, k3⟩

def wrV (l : List S59) : List Int := l.flatMap fun x => [x.f0] ++ [x.f1]
theorem wrM_bad (nl n : Nat) : ∀ (r : RS) (t : List S59 × RS), r.2 = true → wrM s nl n r = some t → t.2.2 = true := by
  cases n with
  | zero => intro r t h e; injection e with e; rw [← e]; exact h
  | succ n => intro r t h e; rw [wrM, if_pos (.inl h)] at e; cases e
theorem wrM_len (nl n : Nat) : ∀ (r : RS) (t : List S59 × RS), wrM s nl n r = some t → t.1.length = n := by
  induction n with
  | zero => intro r t e; injection e with e; rw [← e]; rfl
  | succ n ih =>
    intro r t e
    rw [wrM] at e
    split at e
    · cases e
    · obtain ⟨u, hu, rfl⟩ := Option.map_eq_some_iff.1 e
      rw [List.length_cons, ih _ _ hu]
theorem wrM_inv (hs : s.size ≤ 4611686018427387904) (nl n : Nat) : ∀ {a : Nat} {t : List S59 × RS}, a ≤ s.size → wrM s nl n ((a : Int), false) = some t → t.2.2 = false →
    ∃ b : Nat, t.2 = ((b : Int), false) ∧ Holds s a (wrV t.1) b ∧ ∀ x ∈ t.1, 0 ≤ x.f0 ∧ x.f0 < nl ∧ I64 x.f0 ∧ I64 x.f1 := by
  induction n with
  | zero =>
    intro a t ha e _
    injection e with e
    rw [← e]
    exact ⟨a, rfl, Holds.nil s a, fun x hx => by cases hx⟩
  | succ n ih =>
    intro a t ha e h
    rw [wrM] at e
    split at e
    · cases e
    · rename_i hc
      obtain ⟨u, hu, rfl⟩ := Option.map_eq_some_iff.1 e
      have hv : (valM s (numM s 0 ((nl : Int) - 1) ((a : Int), false)).2).2.2 = false := flag (f := fun x : RS => x.2) (fun hb => wrM_bad nl n _ _ hb hu) h
      have hn : (numM s 0 ((nl : Int) - 1) ((a : Int), false)).2.2 = false := flag (f := fun x : RS => x.2) (valM_bad _) hv
      obtain ⟨b, e1, e2, e3, e4, e5⟩ := numM_inv hs ha hn
      rw [e1] at hv hu
      obtain ⟨c, f1, f2, f3⟩ := valM_inv hs (e2.le ha) hv
      rw [f1] at hu
      obtain ⟨d, g1, g2, g3⟩ := ih (f2.le (e2.le ha)) hu h
      refine ⟨d, g1, ?_, fun x hx => ?_⟩
      · have hw : ∀ (x : S59) (l : List S59), wrV (x :: l) = ([x.f0] ++ [x.f1]) ++ wrV l := fun x l => by simp [wrV]
        rw [hw, e1]
        exact (e2.append f2).append g2
      · rcases List.mem_cons.1 hx with rfl | hx
        · rw [e1]; exact ⟨e3, (show (numM s 0 ((nl : Int) - 1) ((a : Int), false)).1 < nl by omega), e5, f3⟩
        · exact g3 x hx

def bufV (bf : List (List S59)) : List Int := bf.flatMap fun l => [(l.length : Int)] ++ wrV l
def BufOK (nl : Nat) (bf : List (List S59)) : Prop := ∀ l ∈ bf, l.length ≤ 64 ∧ ∀ x ∈ l, 0 ≤ x.f0 ∧ x.f0 < nl ∧ I64 x.f0 ∧ I64 x.f1
theorem bufV_cons (l : List S59) (bf : List (List S59)) : bufV (l :: bf) = ([(l.length : Int)] ++ wrV l) ++ bufV bf := by simp [bufV]
theorem bufM_bad (nl n : Nat) : ∀ (r : RS) (t : List (List S59) × RS), r.2 = true → bufM s nl n r = some t → t.2.2 = true := by
  induction n with
  | zero => intro r t h e; injection e with e; rw [← e]; exact h
  | succ n ih =>
    intro r t h e
    rw [bufM] at e
    obtain ⟨l, hl, e⟩ := Option.bind_eq_some_iff.1 e
    obtain ⟨u, hu, rfl⟩ := Option.map_eq_some_iff.1 e
    exact ih l.2 u (wrM_bad nl _ _ l (numM_bad 0 64 r h) hl) hu
theorem bufM_len (nl n : Nat) : ∀ (r : RS) (t : List (List S59) × RS), bufM s nl n r = some t → t.1.length = n := by
  induction n with
  | zero => intro r t e; injection e with e; rw [← e]; rfl
  | succ n ih =>
    intro r t e
    rw [bufM] at e
    obtain ⟨l, hl, e⟩ := Option.bind_eq_some_iff.1 e
    obtain ⟨u, hu, rfl⟩ := Option.map_eq_some_iff.1 e
    rw [List.length_cons, ih _ _ hu]
theorem bufM_inv (hs : s.size ≤ 4611686018427387904) (nl n : Nat) : ∀ {a : Nat} {t : List (List S59) × RS}, a ≤ s.size → bufM s nl n ((a : Int), false) = some t → t.2.2 = false →
    ∃ b : Nat, t.2 = ((b : Int), false) ∧ Holds s a (bufV t.1) b ∧ BufOK nl t.1 := by
  induction n with
  | zero =>
    intro a t ha e _
    injection e with e
    rw [← e]
    exact ⟨a, rfl, Holds.nil s a, fun x hx => by cases hx⟩
  | succ n ih =>
    intro a t ha e h
    rw [bufM] at e
    obtain ⟨l, hl, e⟩ := Option.bind_eq_some_iff.1 e
    obtain ⟨u, hu, rfl⟩ := Option.map_eq_some_iff.1 e
    have hw : l.2.2 = false := flag (f := fun x : RS => x.2) (fun hb => bufM_bad nl n _ _ hb hu) h
    have hn : (numM s 0 64 ((a : Int), false)).2.2 = false := flag (f := fun x : RS => x.2) (fun hb => wrM_bad nl _ _ _ hb hl) hw
    obtain ⟨b, e1, e2, e3, e4, e5⟩ := numM_inv hs ha hn
    rw [e1] at hl
    have hlen := wrM_len nl _ _ _ hl
    obtain ⟨c, f1, f2, f3⟩ := wrM_inv hs nl _ (e2.le ha) hl hw
    rw [f1] at hu
    obtain ⟨d, g1, g2, g3⟩ := ih (f2.le (e2.le ha)) hu h
    have hle : ((l.1.length : Nat) : Int) = (numM s 0 64 ((a : Int), false)).1 := by rw [hlen]; omega
    refine ⟨d, g1, ?_, fun m hm => ?_⟩
    · show Holds s a (bufV (l.1 :: u.1)) d
      rw [bufV_cons, hle]
      exact (e2.append f2).append g2
    · rcases List.mem_cons.1 hm with rfl | hm
      · exact ⟨by omega, f3⟩
      · exact g3 m hm
end Go.Proofs.Ytemhpbdlonfikaa.P
/- One text a state, in plain words: a state's text is read as it, and a text that is read is that state's. -/
namespace Go.Proofs.Ytemhpbdlonfikaa.P
open Go Go.RowKit Go.Proofs.YtemhpbdlonfikaaW.PrintWords Go.Proofs.YtemhpbdlonfikaaW.PrintLast Go.Proofs.YtemhpbdlonfikaaW.PrintMore

abbrev StT := List Int × List Int × List (List Int) × List Int × List (List S59) × Int
/-- The state of a text, for threads of so many instructions and registers and so many locations. -/
def stateM (ts : List (Nat × Nat)) (nl : Nat) (s : ByteArray) : Option StT :=
  (bufM s nl ts.length (rowM s nl (thrT s ts (0, false)).2).2).bind fun b =>
    if (numM s (-1) ((ts.length : Int) - 1) b.2).2.2 = true then none else
      if (numM s (-1) ((ts.length : Int) - 1) b.2).2.1 = (s.size : Int) then
        some ((thrT s ts (0, false)).1.1, (thrT s ts (0, false)).1.2.1, (thrT s ts (0, false)).1.2.2, (rowM s nl (thrT s ts (0, false)).2).1, b.1, (numM s (-1) ((ts.length : Int) - 1) b.2).1)
      else none
def textV (p q : List Int) (rg : List (List Int)) (me : List Int) (bf : List (List S59)) (lk : Int) : List Int := ((thrV p q rg ++ me) ++ bufV bf) ++ [lk]
def textT (p q : List Int) (rg : List (List Int)) (me : List Int) (bf : List (List S59)) (lk : Int) : ByteArray := ⟨(textU p q rg me bf lk).toArray⟩
theorem thrU_shift (a b : Int) (g : List Int) (p q : List Int) (rg : List (List Int)) (n : Nat) : thrU (a :: p) (b :: q) (g :: rg) (n + 1) = (putU a ++ putU b ++ g.flatMap putU) ++ thrU p q rg n := by
  unfold thrU
  rw [List.range_succ_eq_map, List.flatMap_cons, List.flatMap_map]
  congr 1
theorem thrU_V : ∀ (p q : List Int) (rg : List (List Int)), p.length = q.length → p.length = rg.length → thrU p q rg p.length = (thrV p q rg).flatMap putU
  | [], [], [], _, _ => rfl
  | a :: p, b :: q, g :: rg, h1, h2 => by
    rw [List.length_cons, thrU_shift, thrU_V p q rg (by simpa using h1) (by simpa using h2), thrV]
    simp
theorem bufU_V (bf : List (List S59)) : bufU bf = (bufV bf).flatMap putU := by
  unfold bufU bufV wrU wrV
  simp [List.flatMap_assoc]
theorem textU_V {p q : List Int} {rg : List (List Int)} (me : List Int) (bf : List (List S59)) (lk : Int) (h1 : p.length = q.length) (h2 : p.length = rg.length) : textU p q rg me bf lk = (textV p q rg me bf lk).flatMap putU := by
  unfold textU textV
  rw [thrU_V p q rg h1 h2, bufU_V]
  simp
theorem flat_I (l : List Int) : (l.flatMap putU).map (fun b => (b.toNat : Int)) = l.flatMap putI := by
  rw [List.map_flatMap]
  congr 1
  funext v
  exact putU_I v
theorem bytesI_zero (s : ByteArray) : bytesI s 0 = s.data.toList.map fun b => (b.toNat : Int) := rfl
theorem textT_bytes {p q : List Int} {rg : List (List Int)} (me : List Int) (bf : List (List S59)) (lk : Int) (h1 : p.length = q.length) (h2 : p.length = rg.length) : bytesI (textT p q rg me bf lk) 0 = (textV p q rg me bf lk).flatMap putI := by
  rw [bytesI_zero, ← flat_I, ← textU_V me bf lk h1 h2]
  rfl
theorem toNat_inj : ∀ {l m : List UInt8}, l.map (fun b => (b.toNat : Int)) = m.map (fun b => (b.toNat : Int)) → l = m
  | [], [], _ => rfl
  | [], _ :: _, h => by cases h
  | _ :: _, [], h => by cases h
  | a :: l, b :: m, h => by
    rw [List.map_cons, List.map_cons] at h
    injection h with h1 h2
    have e : a = b := UInt8.toNat_inj.1 (by omega)
    rw [toNat_inj h2, e]
theorem ThrOK.len : ∀ {ts : List (Nat × Nat)} {p q : List Int} {rg : List (List Int)}, ThrOK ts p q rg → p.length = ts.length ∧ q.length = ts.length ∧ rg.length = ts.length
  | [], [], [], [], _ => ⟨rfl, rfl, rfl⟩
  | _ :: _, _ :: _, _ :: _, _ :: _, ⟨_, _, _, h⟩ => by
    obtain ⟨h1, h2, h3⟩ := ThrOK.len h
    exact ⟨by simp [h1], by simp [h2], by simp [h3]⟩
/-- A state of such a program, its numbers of 64 bits. -/
structure StateOK (ts : List (Nat × Nat)) (nl : Nat) (u : StT) : Prop where
  thr : ThrOK ts u.1 u.2.1 u.2.2.1
  lm : u.2.2.2.1.length = nl
  nm : ∀ x ∈ u.2.2.2.1, I64 x
  lb : u.2.2.2.2.1.length = ts.length
  nb : BufOK nl u.2.2.2.2.1
  l1 : -1 ≤ u.2.2.2.2.2
  l2 : u.2.2.2.2.2 ≤ (ts.length : Int) - 1
def textS (u : StT) : ByteArray := textT u.1 u.2.1 u.2.2.1 u.2.2.2.1 u.2.2.2.2.1 u.2.2.2.2.2
theorem read_inv {ts : List (Nat × Nat)} {nl : Nat} {s : ByteArray} {u : StT} (h : stateM ts nl s = some u) (hs : s.size ≤ 4611686018427387904) : StateOK ts nl u ∧ s = textS u := by
  unfold stateM at h
  obtain ⟨bb, hb, h⟩ := Option.bind_eq_some_iff.1 h
  split at h
  · cases h
  · rename_i hf
    split at h
    · rename_i hz
      injection h with h
      have hf' : (numM s (-1) ((ts.length : Int) - 1) bb.2).2.2 = false := by simpa using hf
      have h1 : bb.2.2 = false := flag (f := fun x : RS => x.2) (numM_bad _ _ _) hf'
      have h2 : (rowM s nl (thrT s ts (0, false)).2).2.2 = false := flag (f := fun x : RS => x.2) (fun h => bufM_bad nl _ _ _ h hb) h1
      have h3 : (thrT s ts (0, false)).2.2 = false := flag (f := fun x : RS => x.2) (rowM_bad nl _) h2
      obtain ⟨b, e1, e2, e3⟩ := thrT_inv hs ts (a := 0) (Nat.zero_le _) h3
      have z : (((0 : Nat) : Int), false) = ((0 : Int), false) := rfl
      rw [z] at e1 e2 e3
      have b1 := e2.le (Nat.zero_le _)
      rw [e1] at h2 hb h
      obtain ⟨c, f1, f2, f3⟩ := rowM_inv hs nl b1 h2
      rw [f1] at hb
      obtain ⟨d, g1, g2, g3⟩ := bufM_inv hs nl ts.length (f2.le b1) hb h1
      have hlen := bufM_len nl _ _ _ hb
      rw [g1] at hf' hz h
      obtain ⟨e, k1, k2, k3, k4, _⟩ := numM_inv hs (g2.le (f2.le b1)) hf'
      rw [k1] at hz
      have hz2 : (e : Int) = (s.size : Int) := hz
      have hze : e = s.size := by omega
      rw [← h]
      refine ⟨⟨e3, rowM_len _ _, f3, hlen, g3, k3, k4⟩, ?_⟩
      obtain ⟨l1, l2, l3⟩ := e3.len
      have hH := ((e2.append f2).append g2).append k2
      obtain ⟨rest, r1, r2⟩ := hH
      have hl := bytesI_len s 0
      rw [r1, List.length_append] at hl
      have hr : rest = [] := List.eq_nil_of_length_eq_zero (by omega)
      subst hr
      rw [List.append_nil] at r1
      have ht := textT_bytes (rowM s nl ((b : Int), false)).1 bb.1 (numM s (-1) ((ts.length : Int) - 1) ((d : Int), false)).1 (l1.trans l2.symm) (l1.trans l3.symm)
      have hd : s.data.toList = (textT (thrT s ts (0, false)).1.1 (thrT s ts (0, false)).1.2.1 (thrT s ts (0, false)).1.2.2 (rowM s nl ((b : Int), false)).1 bb.1 (numM s (-1) ((ts.length : Int) - 1) ((d : Int), false)).1).data.toList :=
        toNat_inj (by rw [← bytesI_zero, ← bytesI_zero, ht, r1]; rfl)
      show s = textT _ _ _ _ _ _
      have : ∀ x y : ByteArray, x.data.toList = y.data.toList → x = y := fun x y h => by
        cases x; cases y
        simpa using h
      exact this _ _ hd
    · cases h
end Go.Proofs.Ytemhpbdlonfikaa.P
/- sc.state answers what the plain reader answers. -/
namespace Go.Proofs.Ytemhpbdlonfikaa.P
open Go Go.RowKit Go.Proofs.YtemhpbdlonfikaaW.PrintWords Go.Proofs.YtemhpbdlonfikaaW.PrintLast Go.Proofs.YtemhpbdlonfikaaW.PrintMore
variable {s : ByteArray}

theorem val_is (hs : s.size ≤ 4611686018427387904) (r : RS) : Ev (fun k => sc_codes_value.f k s r.1 r.2) ((valM s r).1, s, (valM s r).2.1, (valM s r).2.2) := by
  refine Ev.bind (f := fun k (b : Int × Int × Int) => if b.2.2 = 0 then (some (b.1, s, wrap64 (r.1 + b.2.1), r.2)) else (some (0, s, r.1, true))) (take_is s r.1 hs) ?_
  unfold valM
  by_cases h : (tk s r.1).2.2 = 0
  · simp only [if_pos h]; exact Ev.now _
  · simp only [if_neg h]; exact Ev.now _
theorem num_is (hs : s.size ≤ 4611686018427387904) (lo hi : Int) (r : RS) : Ev (fun k => sc_codes_number.f k s r.1 r.2 lo hi) ((numM s lo hi r).1, s, (numM s lo hi r).2.1, (numM s lo hi r).2.2) := by
  refine Ev.bind (f := fun k (b : Int × ByteArray × Int × Bool) => if b.2.2.2 = true then (some (lo, b.2.1, b.2.2.1, true)) else (if b.1 < lo then (some (lo, b.2.1, b.2.2.1, true)) else (if b.1 > hi then (some (lo, b.2.1, b.2.2.1, true)) else (some (b.1, b.2.1, b.2.2.1, b.2.2.2))))) (val_is hs r) ?_
  unfold numM
  by_cases h : (valM s r).2.2 = true
  · simp only [if_pos h, if_pos (Or.inl h)]; exact Ev.now _
  · by_cases h1 : (valM s r).1 < lo
    · simp only [if_neg h, if_pos h1, if_pos (Or.inr (Or.inl h1))]; exact Ev.now _
    · by_cases h2 : hi < (valM s r).1
      · simp only [if_neg h, if_neg h1, if_pos h2, if_pos (Or.inr (Or.inr h2))]; exact Ev.now _
      · have hn : ¬ ((valM s r).2.2 = true ∨ (valM s r).1 < lo ∨ hi < (valM s r).1) := fun hh => by
          rcases hh with hh | hh | hh
          · exact h hh
          · exact h1 hh
          · exact h2 hh
        simp only [if_neg h, if_neg h1, if_neg h2, if_neg hn]; exact Ev.now _
theorem numM_range {lo hi : Int} (h : lo ≤ hi) (r : RS) : lo ≤ (numM s lo hi r).1 ∧ (numM s lo hi r).1 ≤ hi := by
  unfold numM
  split
  · exact ⟨Int.le_refl _, h⟩
  · rename_i hc
    constructor
    · exact Int.not_lt.1 (fun h2 => hc (.inr (.inl h2)))
    · exact Int.not_lt.1 (fun h2 => hc (.inr (.inr h2)))
theorem set_rep {α : Type} (D : List α) (d : Nat) (z v : α) : (D ++ List.replicate (d + 1) z).set D.length v = (D ++ [v]) ++ List.replicate d z := by
  rw [List.set_append_right _ _ (Nat.le_refl _), Nat.sub_self, List.replicate_succ, List.set_cons_zero, List.append_assoc, List.singleton_append]
theorem set_mid {α : Type} (D E : List α) (x v : α) : ((D ++ [x]) ++ E).set D.length v = (D ++ [v]) ++ E := by
  rw [List.append_assoc, List.set_append_right _ _ (Nat.le_refl _), Nat.sub_self, List.singleton_append, List.set_cons_zero, List.append_assoc, List.singleton_append]
abbrev Res := List Int × List Int × (List (List Int)) × List Int × (List (List S59)) × Int × Bool
def failR : Res := ([], [], [], [], [], 0, false)
variable {p : Pg} {P Q : List Int} {R : List (List Int)} {M : List Int}

/-- What is answered behind the buffers. -/
def finR (s : ByteArray) (n : Nat) (P Q : List Int) (R : List (List Int)) (M : List Int) (B : List (List S59)) (r : RS) : Res :=
  if (numM s (-1) ((n : Int) - 1) r).2.2 = true then failR else if (numM s (-1) ((n : Int) - 1) r).2.1 = (s.size : Int) then (P, Q, R, M, B, (numM s (-1) ((n : Int) - 1) r).1, true) else failR
/-- Of each thread, how many instructions and registers it has. -/
def tsP (p : Pg) : List (Nat × Nat) := List.zipWith (fun a b => (a.length, b.length)) p.th p.rg
theorem tsP_len {p : Pg} (h : p.rg.length = p.th.length) : (tsP p).length = p.th.length := by unfold tsP; rw [List.length_zipWith, h, Nat.min_self]
theorem tsP_drop {p : Pg} (h : p.rg.length = p.th.length) {i : Nat} (hi : i < p.th.length) : (tsP p).drop i = ((rd_L3 p.th (i : Int)).length, (rd_L4 p.rg (i : Int)).length) :: (tsP p).drop (i + 1) := by
  have hl : i < (tsP p).length := by rw [tsP_len h]; exact hi
  have e : (tsP p)[i]? = some ((rd_L3 p.th (i : Int)).length, (rd_L4 p.rg (i : Int)).length) := by
    unfold tsP
    rw [List.getElem?_zipWith, List.getElem?_eq_getElem hi, List.getElem?_eq_getElem (show i < p.rg.length by omega)]
    unfold rd_L3 rd_L4
    rw [Int.toNat_natCast, List.getD_eq_getElem?_getD, List.getElem?_eq_getElem hi, List.getD_eq_getElem?_getD, List.getElem?_eq_getElem (show i < p.rg.length by omega)]
    rfl
  obtain ⟨_, he⟩ := List.getElem?_eq_some_iff.1 e
  rw [List.drop_eq_getElem_cons hl, he]
/-- What sc.state answers. -/
def stateR (o : Option StT) : Res := match o with
  | none => failR
  | some u => (u.1, u.2.1, u.2.2.1, u.2.2.2.1, u.2.2.2.2.1, u.2.2.2.2.2, true)
end Go.Proofs.Ytemhpbdlonfikaa.P
/- sc.turn: a thread does its next instruction. -/
namespace Go.Proofs.Ytemhpbdlonfikaa.P
open Go Go.RowKit Go.Proofs.YtemhpbdlonfikaaW.PrintWords Go.Proofs.YtemhpbdlonfikaaW.PrintLast Go.Proofs.YtemhpbdlonfikaaW.PrintMore

/-- Each instruction's numbers lie within. -/
structure RightPg (p : Pg) : Prop where
  len : p.rg.length = p.th.length
  op : ∀ i k : Int, 0 ≤ i → i < p.th.length → 0 ≤ k → k < (rd_L3 p.th i).length → OpOK (rd_T87 (rd_L3 p.th i) k) (rd_L4 p.rg i).length p.lo.length

end Go.Proofs.Ytemhpbdlonfikaa.P
/- What the printed functions of the machine's states answer, of small states. -/
namespace Go.Proofs.Ytemhpbdlonfikaa.P
open Go Go.RowKit Go.Proofs.YtemhpbdlonfikaaW.PrintWords Go.Proofs.YtemhpbdlonfikaaW.PrintLast Go.Proofs.YtemhpbdlonfikaaW.PrintMore

theorem wrap_nat {k n : Nat} (h : k < n) (hn : n ≤ 9223372036854775807) : wrap64 ((k : Int) + 1) = ((k + 1 : Nat) : Int) := by unfold wrap64; omega
theorem rd5_nat (l : List (List Int)) (i : Nat) (h : i < l.length) : rd_L5 l (i : Int) = l[i] := by
  unfold rd_L5
  rw [Int.toNat_natCast, List.getD_eq_getElem?_getD, List.getElem?_eq_getElem h]; rfl
theorem copy_rows (l : List (List Int)) (hl : l.length ≤ 4) (hr : ∀ i : Nat, (rd_L5 l i).length ≤ 8) : Ev (fun k => weirref09_Copy.f k l) l := by
  have key : ∀ (d i : Nat), i + d = l.length → Ev (fun k => weirref09_Copy.l0 k l (l.take i) i) l := by
    intro d
    induction d with
    | zero =>
      intro i hi
      refine Ev.step (f := fun _ => some l) (fun k => ?_) (Ev.now _)
      simp only [weirref09_Copy.l0]
      rw [if_neg (by omega), List.take_of_length_le (by omega)]
    | succ d ih =>
      intro i hi
      have hI := ih (i + 1) (by omega)
      have hw := wrap_nat (k := i) (n := l.length) (by omega) (by omega)
      have ht : l.take (i + 1) = l.take i ++ [rd_L5 l i] := by rw [rd5_nat l i (by omega), List.take_succ_eq_append_getElem (by omega)]
      refine Ev.step (fun k => ?_) hI
      simp only [weirref09_Copy.l0]
      rw [if_pos (by omega), Option.bind_some, if_pos (by omega), if_pos (by have := hr i; simp only [List.length_nil]; omega), if_pos (by rw [List.length_take]; omega), List.nil_append, hw, ← ht]
  refine Ev.congr (fun k => ?_) (key l.length 0 (by omega))
  simp only [weirref09_Copy.f, List.take_zero]; rfl

/-- The state in which a program begins. -/
def firstM (p : Pg) : St := ⟨List.replicate p.th.length 0, List.replicate p.th.length 0, p.r0, p.m0, List.replicate p.th.length [], -1⟩
structure SmallPg (p : Pg) : Prop where
  th : p.th.length ≤ 4
  lo : p.lo.length ≤ 16
  row : ∀ i : Nat, (rd_L4 p.rg i).length ≤ 8
  r0 : p.r0.length = p.th.length
  r0r : ∀ i : Nat, i < p.th.length → (rd_L5 p.r0 i).length = (rd_L4 p.rg i).length
  m0 : p.m0.length = p.lo.length
theorem SmallPg.r0row {p : Pg} (h : SmallPg p) (i : Nat) : (rd_L5 p.r0 i).length ≤ 8 := by
  rcases Nat.lt_or_ge i p.th.length with hi | hi
  · rw [h.r0r i hi]; exact h.row i
  · unfold rd_L5
    rw [Int.toNat_natCast, List.getD_eq_getElem?_getD, List.getElem?_eq_none (by rw [h.r0]; exact hi)]; exact Nat.zero_le _
theorem clone_is (l : List Int) (h : l.length ≤ 16) : slices_Clone_int64_int64.f l = some l := by
  simp only [slices_Clone_int64_int64.f, Option.bind_some]
  rw [if_pos (by simp only [List.length_nil]; omega)]; rfl
theorem rows_is (l : List (List Int)) (hl : l.length ≤ 4) (hr : ∀ i : Nat, (rd_L5 l i).length ≤ 8) : Ev (fun k => sc_rows_int64.f k l) l := by
  have key : ∀ (d i : Nat), i + d = l.length → Ev (fun k => sc_rows_int64.l0 k l (l.take i ++ List.replicate d []) l.length i) l := by
    intro d
    induction d with
    | zero =>
      intro i hi
      refine Ev.step (f := fun _ => some l) (fun k => ?_) (Ev.now _)
      simp only [sc_rows_int64.l0]
      rw [if_neg (by omega), List.take_of_length_le (by omega)]; simp
    | succ d ih =>
      intro i hi
      have hI := ih (i + 1) (by omega)
      have hw := wrap_nat (k := i) (n := l.length) (by omega) (by omega)
      have ht : (l.take i ++ List.replicate (d + 1) []).set i (rd_L5 l i) = l.take (i + 1) ++ List.replicate d [] := by
        rw [rd5_nat l i (by omega), List.take_succ_eq_append_getElem (by omega), List.set_append, if_neg (by rw [List.length_take]; omega)]
        rw [List.length_take, show i - min i l.length = 0 by omega, List.replicate_succ, List.set_cons_zero, List.append_assoc]; rfl
      refine Ev.step (fun k => ?_) hI
      simp only [sc_rows_int64.l0]
      rw [if_pos (by omega), if_pos (by omega), if_pos (by omega), clone_is _ (by have := hr i; omega), Option.bind_some, if_pos (by simp only [List.length_append, List.length_take, List.length_replicate]; omega), hw, Int.toNat_natCast, ht]
  refine Ev.congr (fun k => ?_) (key l.length 0 (by omega))
  simp only [sc_rows_int64.f, List.take_zero, Int.toNat_natCast, List.nil_append]
  rw [if_pos (by omega), if_pos (by omega)]; rfl
end Go.Proofs.Ytemhpbdlonfikaa.P
