/- What bits.Mul64 and bits.Div64 answer. -/
import Derived.Test.YtohpboblmmbjnaaP7
import Derived.Shelf.Bits.Mul64
namespace Go.Proofs.Ytohpboblmmbjnaa.P
open Go.RowKit Go.Proofs.YtohpboblmmbjnaaW.PrintWords Go.Proofs.YtohpboblmmbjnaaW.PrintMore

theorem mul64_is (x y : Nat) (hx : x < 18446744073709551616) (hy : y < 18446744073709551616) :
    bits_Mul64.f x y = some (((x * y / 18446744073709551616 : Nat) : Int), ((x * y % 18446744073709551616 : Nat) : Int)) := by
  obtain ⟨bd, bt, bw, hhi⟩ := Lib.mul64_hi x y hx hy
  have ba := Lib.half_mul_le (a := x / 4294967296) (b := y / 4294967296) (by omega) (by omega)
  have bb := Lib.half_mul_le (a := x / 4294967296) (b := y % 4294967296) (by omega) (by omega)
  have bc := Lib.half_mul_le (a := x % 4294967296) (b := y / 4294967296) (by omega) (by omega)
  have ba' : x / 4294967296 * (y / 4294967296) < 18446744073709551616 := by omega
  have bb' : x / 4294967296 * (y % 4294967296) < 18446744073709551616 := by omega
  have bc' : x % 4294967296 * (y / 4294967296) < 18446744073709551616 := by omega
  have bh1 : x / 4294967296 * (y / 4294967296) + (x / 4294967296 * (y % 4294967296) + x % 4294967296 * (y % 4294967296) / 4294967296) / 4294967296 < 18446744073709551616 := by omega
  have bh : x / 4294967296 * (y / 4294967296) + (x / 4294967296 * (y % 4294967296) + x % 4294967296 * (y % 4294967296) / 4294967296) / 4294967296 + ((x / 4294967296 * (y % 4294967296) + x % 4294967296 * (y % 4294967296) / 4294967296) % 4294967296 + x % 4294967296 * (y / 4294967296)) / 4294967296 < 18446744073709551616 := by omega
  unfold bits_Mul64.f
  simp only [Mul64.maskN x hx, Mul64.maskN y hy, Mul64.divN, Mul64.mulN, Mul64.addN, Mul64.wrapN _ bd, Mul64.wrapN _ bb', Mul64.wrapN _ bt, Mul64.maskN _ bt, Mul64.wrapN _ bc', Mul64.wrapN _ bw, Mul64.wrapN _ ba', Mul64.wrapN _ bh1, Mul64.wrapN _ bh, Mul64.wrapM (x * y)]
  rw [hhi]

theorem u64_wrap {x : Int} (h0 : 0 ≤ x) (h1 : x < 18446744073709551616) : IntKind.u64.wrap x = x := by rw [IntKind.wrap_u64]; omega

/-- bits.Div64 where the high word is 0. -/
theorem div64_low (k lo y : Nat) (hlo : lo < 18446744073709551616) (hy : 0 < y) (_hy' : y < 18446744073709551616) :
    bits_Div64.f k 0 lo y = some (((lo / y : Nat) : Int), ((lo % y : Nat) : Int)) := by
  unfold bits_Div64.f
  rw [if_neg (by omega), if_neg (by omega), if_pos rfl]
  have h1 : (lo : Int).tdiv (y : Int) = ((lo / y : Nat) : Int) := by rw [Int.tdiv_eq_ediv_of_nonneg (by omega)]; rfl
  have h2 : (lo : Int).tmod (y : Int) = ((lo % y : Nat) : Int) := by rw [Int.tmod_eq_emod_of_nonneg (by omega)]; rfl
  rw [h1, h2, u64_wrap (Int.natCast_nonneg _) (Int.ofNat_lt.2 (Nat.lt_of_le_of_lt (Nat.div_le_self _ _) hlo))]

/-- The two halves of a division by a divisor whose lower half is 0. -/
theorem div_halves {M MM hi lo y T U t yn1 un32 un10 un1 un0 q1 rh un21 q0 r2 : Nat} (hM : 0 < M) (hMM : MM = M * M) (hy : hi < y) (hTt : T = t * M) (hTU : T * U = MM) (hU : 0 < U) (ht : 0 < t)
    (e1 : yn1 = y * t) (e2 : un32 = hi * T + lo / U) (e3 : un10 = lo * T % MM) (e4 : un1 = un10 / M) (e5 : un0 = un10 % M)
    (e6 : q1 = un32 / yn1) (e7 : rh = un32 % yn1) (e8 : un21 = rh * M + un1) (e9 : q0 = un21 / yn1) (e10 : r2 = un21 % yn1) (hlo : lo < MM) :
    un32 < yn1 * M ∧ un21 < yn1 * M ∧ (hi * MM + lo) / y = q1 * M + q0 := by
  subst hMM
  have hlU : lo / U < T := by
    refine (Nat.div_lt_iff_lt_mul hU).2 ?_
    rw [hTU]; exact hlo
  have hyn : yn1 * M = y * T := by rw [e1, hTt, Nat.mul_assoc]
  have hT : 0 < T := by rw [hTt]; exact Nat.mul_pos ht hM
  have hyn1 : 0 < yn1 := by rw [e1]; exact Nat.mul_pos (by omega) ht
  have hyT : 0 < y * T := Nat.mul_pos (by omega) hT
  have hu : un32 < y * T := by
    have : (hi + 1) * T ≤ y * T := Nat.mul_le_mul_right _ hy
    rw [Nat.add_mul, Nat.one_mul] at this
    omega
  have hr : rh < yn1 := by rw [e7]; exact Nat.mod_lt _ hyn1
  have hun10 : un10 < M * M := by rw [e3]; exact Nat.mod_lt _ (Nat.mul_pos hM hM)
  have hun1 : un1 < M := by rw [e4]; exact (Nat.div_lt_iff_lt_mul hM).2 hun10
  have hun0 : un0 < M := by rw [e5]; exact Nat.mod_lt _ hM
  have hsp : M * un1 + un0 = un10 := by rw [e4, e5]; exact Nat.div_add_mod _ _
  have hu2 : un21 < yn1 * M := by
    have : (rh + 1) * M ≤ yn1 * M := Nat.mul_le_mul_right _ hr
    rw [Nat.add_mul, Nat.one_mul] at this
    omega
  refine ⟨by rw [hyn]; exact hu, hu2, ?_⟩
  have hlow : lo * T = (lo / U) * (M * M) + un10 := by
    have h1 : U * (lo / U) + lo % U = lo := Nat.div_add_mod lo U
    have h2 : lo * T = (lo / U) * (T * U) + lo % U * T := by
      calc lo * T = (U * (lo / U) + lo % U) * T := by rw [h1]
        _ = U * (lo / U) * T + lo % U * T := Nat.add_mul _ _ _
        _ = (lo / U) * (T * U) + lo % U * T := by rw [Nat.mul_comm U (lo / U), Nat.mul_assoc, Nat.mul_comm U T]
    rw [hTU] at h2
    have h3 : lo % U * T < M * M := by
      have : (lo % U + 1) * T ≤ U * T := Nat.mul_le_mul_right _ (Nat.mod_lt _ hU)
      rw [Nat.add_mul, Nat.one_mul, Nat.mul_comm U T, hTU] at this
      omega
    have h4 : un10 = lo % U * T := by
      rw [e3, h2, Nat.add_comm, Nat.add_mul_mod_self_right, Nat.mod_eq_of_lt h3]
    rw [h4]
    exact h2
  have hd1 : yn1 * q1 + rh = un32 := by rw [e6, e7]; exact Nat.div_add_mod _ _
  have hd2 : yn1 * q0 + r2 = un21 := by rw [e9, e10]; exact Nat.div_add_mod _ _
  have hr2 : r2 < yn1 := by rw [e10]; exact Nat.mod_lt _ hyn1
  have hN : (hi * (M * M) + lo) * T = (q1 * M + q0) * (y * T) + (r2 * M + un0) := by
    have h1 : (hi * (M * M) + lo) * T = un32 * (M * M) + un10 := by
      rw [Nat.add_mul, hlow, e2, Nat.add_mul, Nat.mul_right_comm]
      omega
    rw [h1, ← hyn]
    have h2 : (q1 * M + q0) * (yn1 * M) = (yn1 * q1) * (M * M) + (yn1 * q0) * M := by
      rw [Nat.add_mul]
      have a1 : q1 * M * (yn1 * M) = (yn1 * q1) * (M * M) := by rw [Nat.mul_comm yn1 q1, Nat.mul_mul_mul_comm]
      have a2 : q0 * (yn1 * M) = (yn1 * q0) * M := by rw [Nat.mul_comm yn1 q0, Nat.mul_assoc]
      rw [a1, a2]
    rw [h2, ← hd1, ← hsp, Nat.add_mul, ← Nat.mul_assoc rh M M]
    have h3 : rh * M * M + M * un1 = (yn1 * q0 + r2) * M := by rw [hd2, e8, Nat.add_mul, Nat.mul_comm M un1]
    rw [Nat.add_mul] at h3
    omega
  have hrest : r2 * M + un0 < y * T := by
    rw [← hyn]
    have : (r2 + 1) * M ≤ yn1 * M := Nat.mul_le_mul_right _ hr2
    rw [Nat.add_mul, Nat.one_mul] at this
    omega
  have hq : ((hi * (M * M) + lo) * T) / (y * T) = q1 * M + q0 := by
    rw [hN, Nat.add_comm, Nat.add_mul_div_right _ _ hyT, Nat.div_eq_of_lt hrest, Nat.zero_add]
  rw [← hq, Nat.mul_div_mul_right _ _ hT]

theorem wrap_three (a b c : Int) : IntKind.u64.wrap (IntKind.u64.wrap (IntKind.u64.wrap a + b) - IntKind.u64.wrap c) = IntKind.u64.wrap (a + b - c) := by
  simp only [IntKind.wrap_u64]
  rw [Int.emod_add_emod, ← Int.sub_emod]
theorem len7_spec : ∀ y : Fin 128, 0 < y.val → 1 ≤ len7 y.val ∧ len7 y.val ≤ 7 ∧ y.val < 2 ^ (len7 y.val).toNat ∧ 2 ^ (len7 y.val).toNat ≤ 2 * y.val := by decide
theorem bits_or64 (a b i : Nat) (ha : a * 2 ^ i < 18446744073709551616) (hb : b < 2 ^ i) (hb' : b < 18446744073709551616) : bits .or .u64 ((a * 2 ^ i : Nat) : Int) (b : Int) = ((a * 2 ^ i + b : Nat) : Int) := by
  rw [u64_or_nat _ _ ha hb', Nat.mul_comm, ← Nat.two_pow_add_eq_or_of_lt hb a]

/-- bits.Div64 at a small divisor. -/
theorem div64_is (hi lo y : Nat) (hlo : lo < 18446744073709551616) (hy : hi < y) (hy' : y < 128) :
    ∃ r, ∀ k, bits_Div64.f (k + 5) hi lo y = some ((((hi * 18446744073709551616 + lo) / y : Nat) : Int), r) := by
  rcases Nat.eq_zero_or_pos hi with rfl | hpos
  · exact ⟨_, fun k => by rw [Nat.zero_mul, Nat.zero_add]; exact div64_low (k + 5) lo y hlo hy (Nat.lt_trans hy' (by decide))⟩
  obtain ⟨l1, l2, l3, l4⟩ := len7_spec ⟨y, hy'⟩ (show 0 < y by omega)
  simp only at l1 l2 l3 l4
  obtain ⟨n, hn⟩ : ∃ n : Nat, len7 y = n := ⟨(len7 y).toNat, by omega⟩
  rw [hn] at l1 l2 l3 l4
  rw [Int.toNat_natCast] at l3 l4
  obtain ⟨s, hs⟩ : ∃ s : Nat, s = 64 - n := ⟨_, rfl⟩
  have hlz : bits_LeadingZeros64.f y = some ((s : Nat) : Int) := by
    unfold bits_LeadingZeros64.f bits_Len64.f
    rw [if_pos ⟨by omega, by omega⟩]
    simp only [Option.bind_some, Int.toNat_natCast]
    rw [hn]
    congr 1
    unfold wrap64
    omega
  have hpT : (2 : Nat) ^ s * 2 ^ n = 18446744073709551616 := by rw [← Nat.pow_add, show s + n = 64 by omega]
  have hpn : (2 : Nat) ^ n ≤ 128 := by
    have : (2 : Nat) ^ n ≤ 2 ^ 7 := Nat.pow_le_pow_right (by decide) (by omega)
    omega
  have hps : (2 : Nat) ^ s = 2 ^ (s - 32) * 4294967296 := by
    have : (4294967296 : Nat) = 2 ^ 32 := by decide
    rw [this, ← Nat.pow_add, show s - 32 + 32 = s by omega]
  obtain ⟨t, ht⟩ : ∃ t : Nat, t = 2 ^ (s - 32) := ⟨_, rfl⟩
  rw [← ht] at hps
  have htp : 0 < t := by rw [ht]; exact Nat.two_pow_pos _
  have hs0 : min s 64 = s := by omega
  obtain ⟨T, hT⟩ : ∃ T : Nat, T = 2 ^ s := ⟨_, rfl⟩
  obtain ⟨U, hU⟩ : ∃ U : Nat, U = 2 ^ n := ⟨_, rfl⟩
  rw [← hT, ← hU] at hpT
  rw [← hT] at hps
  rw [← hU] at hpn l3 l4
  have hUp : 0 < U := by omega
  have hTp : 0 < T := by omega
  have hyT : y * T < 18446744073709551616 := by
    rw [← hpT, Nat.mul_comm T U]
    exact Nat.mul_lt_mul_of_pos_right l3 hTp
  have hhT : hi * T < 18446744073709551616 := Nat.lt_trans (Nat.mul_lt_mul_of_pos_right hy hTp) hyT
  have hlU : lo / U < T := (Nat.div_lt_iff_lt_mul hUp).2 (by rw [hpT]; exact hlo)
  obtain ⟨yn1, e1⟩ : ∃ yn1, yn1 = y * t := ⟨_, rfl⟩
  obtain ⟨un32, e2⟩ : ∃ un32, un32 = hi * T + lo / U := ⟨_, rfl⟩
  obtain ⟨un10, e3⟩ : ∃ un10, un10 = lo * T % 18446744073709551616 := ⟨_, rfl⟩
  obtain ⟨un1, e4⟩ : ∃ un1, un1 = un10 / 4294967296 := ⟨_, rfl⟩
  obtain ⟨un0, e5⟩ : ∃ un0, un0 = un10 % 4294967296 := ⟨_, rfl⟩
  obtain ⟨q1, e6⟩ : ∃ q1, q1 = un32 / yn1 := ⟨_, rfl⟩
  obtain ⟨rh, e7⟩ : ∃ rh, rh = un32 % yn1 := ⟨_, rfl⟩
  obtain ⟨un21, e8⟩ : ∃ un21, un21 = rh * 4294967296 + un1 := ⟨_, rfl⟩
  obtain ⟨q0, e9⟩ : ∃ q0, q0 = un21 / yn1 := ⟨_, rfl⟩
  obtain ⟨r2, e10⟩ : ∃ r2, r2 = un21 % yn1 := ⟨_, rfl⟩
  obtain ⟨b1, b2, hq⟩ := div_halves (M := 4294967296) (MM := 18446744073709551616) (by decide) (by decide) hy hps hpT hUp htp e1 e2 e3 e4 e5 e6 e7 e8 e9 e10 hlo
  have hyn : y * T = yn1 * 4294967296 := by rw [hps, e1, Nat.mul_assoc]
  have hyn1 : 0 < yn1 := by rw [e1]; exact Nat.mul_pos (by omega) htp
  have hq1 : q1 < 4294967296 := by rw [e6]; exact (Nat.div_lt_iff_lt_mul hyn1).2 (by rw [Nat.mul_comm]; exact b1)
  have hq0 : q0 < 4294967296 := by rw [e9]; exact (Nat.div_lt_iff_lt_mul hyn1).2 (by rw [Nat.mul_comm]; exact b2)
  have hd1 : yn1 * q1 + rh = un32 := by rw [e6, e7]; exact Nat.div_add_mod _ _
  have hd2 : yn1 * q0 + r2 = un21 := by rw [e9, e10]; exact Nat.div_add_mod _ _
  have hr : rh < yn1 := by rw [e7]; exact Nat.mod_lt _ hyn1
  have hyn1' : yn1 < 4294967296 := by omega
  have f1 : IntKind.u64.wrap (s : Int) = s := u64_wrap (by omega) (by omega)
  have f2 : shl .u64 (y : Int) (s : Int) = ((y * T : Nat) : Int) := by
    show IntKind.u64.wrap ((y : Int) * 2 ^ min (s : Int).toNat 64) = _
    rw [Int.toNat_natCast, hs0]
    have : (y : Int) * 2 ^ s = ((y * T : Nat) : Int) := by rw [hT]; simp
    rw [this]
    exact u64_wrap (Int.natCast_nonneg _) (Int.ofNat_lt.2 hyT)
  have f3 : ((y * T : Nat) : Int) / 4294967296 = (yn1 : Int) := by omega
  have f4 : bits .and .u64 ((y * T : Nat) : Int) 4294967295 = 0 := by
    rw [Mul64.maskN _ hyT, hyn, Nat.mul_mod_left]; rfl
  have f5 : IntKind.u64.wrap (64 - (s : Int)) = ((n : Nat) : Int) := by rw [u64_wrap (by omega) (by omega)]; omega
  have f6 : shl .u64 (hi : Int) (s : Int) = ((hi * 2 ^ s : Nat) : Int) := by
    show IntKind.u64.wrap ((hi : Int) * 2 ^ min (s : Int).toNat 64) = _
    rw [Int.toNat_natCast, hs0]
    have : (hi : Int) * 2 ^ s = ((hi * 2 ^ s : Nat) : Int) := by simp
    rw [this]
    exact u64_wrap (Int.natCast_nonneg _) (Int.ofNat_lt.2 (by rw [← hT]; exact hhT))
  have f7 : shr .u64 (lo : Int) (n : Int) = ((lo / U : Nat) : Int) := by
    show (lo : Int) / 2 ^ min (n : Int).toNat 64 = _
    rw [Int.toNat_natCast, Nat.min_eq_left (by omega), hU]
    simp
  have f8 : bits .or .u64 ((hi * 2 ^ s : Nat) : Int) ((lo / U : Nat) : Int) = (un32 : Int) := by
    rw [bits_or64 hi (lo / U) s (by rw [← hT]; exact hhT) (by rw [← hT]; exact hlU) (Nat.lt_of_le_of_lt (Nat.div_le_self _ _) hlo), e2, ← hT]
  have f9 : shl .u64 (lo : Int) (s : Int) = (un10 : Int) := by
    show IntKind.u64.wrap ((lo : Int) * 2 ^ min (s : Int).toNat 64) = _
    rw [Int.toNat_natCast, hs0]
    have : (lo : Int) * 2 ^ s = ((lo * T : Nat) : Int) := by rw [hT]; simp
    rw [this, Mul64.wrapM, e3]
  have h10 : un10 < 18446744073709551616 := by omega
  have f10 : (un10 : Int) / 4294967296 = (un1 : Int) := by omega
  have f11 : bits .and .u64 (un10 : Int) 4294967295 = (un0 : Int) := by rw [Mul64.maskN _ h10, e5]
  have f12 : IntKind.u64.wrap ((un32 : Int).tdiv (yn1 : Int)) = (q1 : Int) := by
    rw [Int.tdiv_eq_ediv_of_nonneg (by omega), show (un32 : Int) / (yn1 : Int) = ((un32 / yn1 : Nat) : Int) from rfl, ← e6]
    exact u64_wrap (by omega) (by omega)
  have hm1 : yn1 * q1 < 18446744073709551616 := by omega
  have f13 : IntKind.u64.wrap ((un32 : Int) - IntKind.u64.wrap ((q1 : Int) * (yn1 : Int))) = (rh : Int) := by
    rw [Mul64.mulN, Nat.mul_comm q1 yn1, Mul64.wrapN _ hm1, u64_wrap (by omega) (by omega)]
    omega
  refine ⟨shr .u64 (IntKind.u64.wrap ((IntKind.u64.wrap ((IntKind.u64.wrap ((un21 : Int) * 4294967296)) + un0)) - (IntKind.u64.wrap ((q0 : Int) * ((y * T : Nat) : Int))))) s, fun k => ?_⟩
  have g1 : IntKind.u64.wrap ((IntKind.u64.wrap ((IntKind.u64.wrap ((un32 : Int) * 4294967296)) + un1)) - IntKind.u64.wrap ((q1 : Int) * ((y * T : Nat) : Int))) = (un21 : Int) := by
    rw [hyn]
    have hm : (q1 : Int) * ((yn1 * 4294967296 : Nat) : Int) = ((yn1 * q1 : Nat) : Int) * 4294967296 := by
      rw [Int.natCast_mul, Int.natCast_mul, ← Int.mul_assoc, Int.mul_comm (q1 : Int) (yn1 : Int)]; rfl
    rw [hm, wrap_three, u64_wrap]
    · omega
    · omega
    · omega
  have g2 : IntKind.u64.wrap ((un21 : Int).tdiv (yn1 : Int)) = (q0 : Int) := by
    rw [Int.tdiv_eq_ediv_of_nonneg (by omega), show (un21 : Int) / (yn1 : Int) = ((un21 / yn1 : Nat) : Int) from rfl, ← e9]
    exact u64_wrap (by omega) (by omega)
  have g3 : IntKind.u64.wrap (IntKind.u64.wrap ((q1 : Int) * 4294967296) + (q0 : Int)) = (((hi * 18446744073709551616 + lo) / y : Nat) : Int) := by
    rw [hq, IntKind.wrap_u64, IntKind.wrap_u64]
    omega
  have z0 : ∀ x : Int, IntKind.u64.wrap (x * 0) = 0 := fun x => by rw [Int.mul_zero]; rfl
  have z1 : ∀ x : Int, decide ((0 : Int) > IntKind.u64.wrap x) = false := fun x => decide_eq_false (by rw [IntKind.wrap_u64]; omega)
  unfold bits_Div64.f
  rw [if_neg (by omega), if_neg (by omega), if_neg (by omega), hlz]
  simp only [Option.bind_some]
  rw [f1, f2, f3, f4, f5, f6, f7, f8, f9, f10, f11, f12, f13, if_pos (by omega), if_pos (by omega), if_neg (by omega)]
  simp only [bits_Div64.l0]
  rw [if_neg (by omega), z0, z1]
  simp only [bits_Div64.j1, Bool.false_eq_true, if_false]
  simp only [bits_Div64.j2]
  rw [if_neg (by omega), g1, g2]
  simp only [bits_Div64.l1]
  rw [if_neg (by omega), z0, z1]
  simp only [bits_Div64.j4, Bool.false_eq_true, if_false]
  rw [if_pos (by omega), g3]
end Go.Proofs.Ytohpboblmmbjnaa.P
