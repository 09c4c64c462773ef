/- Numbers told by words of 32 bits; what times, over, add and word answer. -/
import Derived.Test.YtohpboblmmbjnaaP2
import Derived.Test.YtohpboblmmbjnaaApp
import Derived.Test.YtohpboblmmbjnaaMulti
namespace Go.Proofs.Ytohpboblmmbjnaa.P
open Go Go.RowKit Go.Proofs.YtohpboblmmbjnaaW.PrintWords Go.Proofs.YtohpboblmmbjnaaW.PrintLast Go.Proofs.YtohpboblmmbjnaaW.PrintMore Go.Proofs.Odo
namespace Big
def M : Nat := 4294967296
theorem M_pos : 0 < M := by decide
def val : List Nat → Nat
  | [] => 0
  | x :: r => x + M * val r
def Good (b : List Nat) : Prop := ∀ x ∈ b, x < M
theorem val_append (a b : List Nat) : val (a ++ b) = val a + M ^ a.length * val b := by
  induction a with
  | nil => simp [val]
  | cons x a ih => rw [List.cons_append, val, val, ih, List.length_cons, Nat.pow_succ, Nat.mul_add, Nat.add_assoc]; congr 2; rw [← Nat.mul_assoc, Nat.mul_comm M]
theorem val_snoc (a : List Nat) (x : Nat) : val (a ++ [x]) = val a + M ^ a.length * x := by rw [val_append]; simp [val]
theorem good_nil : Good [] := fun _ h => by cases h
theorem good_append {a b : List Nat} (h : Good a) (h' : Good b) : Good (a ++ b) := fun x hx => by
  rcases List.mem_append.1 hx with hx | hx
  · exact h x hx
  · exact h' x hx
theorem good_one {x : Nat} (h : x < M) : Good [x] := fun y hy => by rw [List.mem_singleton.1 hy]; exact h
theorem good_snoc {a : List Nat} (h : Good a) {x : Nat} (hx : x < M) : Good (a ++ [x]) := good_append h (good_one hx)
theorem good_cons {a : List Nat} {x : Nat} (hx : x < M) (h : Good a) : Good (x :: a) := good_append (good_one hx) h
theorem good_at {b : List Nat} (h : Good b) (i : Nat) : b.getD i 0 < M := by
  rw [List.getD_eq_getElem?_getD]
  cases hi : b[i]? with
  | none => exact M_pos
  | some x => exact h x (List.mem_of_getElem? hi)
theorem val_take {b : List Nat} {i : Nat} (h : i < b.length) : val (b.take (i + 1)) = val (b.take i) + M ^ i * b.getD i 0 := by
  have e : b.take (i + 1) = b.take i ++ [b.getD i 0] := by
    rw [List.take_add_one, List.getD_eq_getElem?_getD, List.getElem?_eq_getElem h]
    rfl
  rw [e, val_snoc, List.length_take, Nat.min_eq_left (Nat.le_of_lt h)]
theorem val_drop {b : List Nat} {i : Nat} (h : i < b.length) : val (b.drop i) = b.getD i 0 + M * val (b.drop (i + 1)) := by
  rw [List.drop_eq_getElem_cons h, val, List.getD_eq_getElem?_getD, List.getElem?_eq_getElem h]
  rfl
/-- times: a digit and the carry. -/
theorem times_step {out : List Nat} {b : List Nat} {n c i : Nat} (hi : i < b.length) (hl : out.length = i) (h : val out + M ^ i * c = val (b.take i) * n) :
    val (out ++ [(b.getD i 0 * n + c) % M]) + M ^ (i + 1) * ((b.getD i 0 * n + c) / M) = val (b.take (i + 1)) * n := by
  obtain ⟨x, hx⟩ : ∃ x, b.getD i 0 = x := ⟨_, rfl⟩
  rw [val_snoc, val_take hi, hl, hx, Nat.add_mul, ← h, Nat.pow_succ, Nat.add_assoc, Nat.mul_assoc, ← Nat.mul_add, Nat.add_comm _ (M * _), Nat.div_add_mod, Nat.mul_add, Nat.mul_assoc]
  omega
theorem times_tail {out : List Nat} {c : Nat} : val (out ++ [c % M]) + M ^ (out.length + 1) * (c / M) = val out + M ^ out.length * c := by
  rw [val_snoc, Nat.pow_succ, Nat.add_assoc, Nat.mul_assoc, ← Nat.mul_add, Nat.add_comm _ (M * _), Nat.div_add_mod]
theorem over_step {b T : List Nat} {n c i : Nat} (hi : i < b.length) (h : val (b.drop (i + 1)) = n * val T + c) :
    val (b.drop i) = n * val (((c * M + b.getD i 0) / n) :: T) + (c * M + b.getD i 0) % n := by
  obtain ⟨x, hx⟩ : ∃ x, b.getD i 0 = x := ⟨_, rfl⟩
  rw [val_drop hi, h, hx, val]
  have := Nat.div_add_mod (c * M + x) n
  rw [Nat.mul_add, Nat.mul_add, ← Nat.mul_assoc M n, Nat.mul_comm M n, Nat.mul_assoc n M, Nat.mul_comm M c]
  omega
theorem over_good {c n x : Nat} (hc : c < n) (hx : x < M) : (c * M + x) / n < M := by
  rw [Nat.div_lt_iff_lt_mul (by omega)]
  have : (c + 1) * M ≤ n * M := Nat.mul_le_mul_right _ hc
  rw [Nat.add_mul, Nat.one_mul] at this
  rw [Nat.mul_comm M n]
  omega
theorem val_end {b : List Nat} {i : Nat} (h : b.length ≤ i) : val (b.take i) = val b := by rw [List.take_of_length_le h]
theorem val_past {b : List Nat} {i : Nat} (h : b.length ≤ i) : val (b.take (i + 1)) = val (b.take i) + M ^ i * b.getD i 0 := by
  rw [val_end h, val_end (by omega), List.getD_eq_getElem?_getD, List.getElem?_eq_none h]; rfl
theorem val_next (b : List Nat) (i : Nat) : val (b.take (i + 1)) = val (b.take i) + M ^ i * b.getD i 0 := by
  rcases Nat.lt_or_ge i b.length with h | h
  · exact val_take h
  · exact val_past h
theorem add_step {out a b : List Nat} {c i : Nat} (hl : out.length = i) (h : val out + M ^ i * c = val (a.take i) + val (b.take i)) :
    val (out ++ [(c + a.getD i 0 + b.getD i 0) % M]) + M ^ (i + 1) * ((c + a.getD i 0 + b.getD i 0) / M) = val (a.take (i + 1)) + val (b.take (i + 1)) := by
  obtain ⟨x, hx⟩ : ∃ x, a.getD i 0 = x := ⟨_, rfl⟩
  obtain ⟨y, hy⟩ : ∃ y, b.getD i 0 = y := ⟨_, rfl⟩
  have := times_tail (out := out) (c := c + x + y)
  rw [hl] at this
  rw [val_next a, val_next b, hx, hy, this, Nat.mul_add, Nat.mul_add]
  omega
theorem val_zero {b : List Nat} (h : ∀ x ∈ b, x = 0) : val b = 0 := by
  induction b with
  | nil => rfl
  | cons x b ih => rw [val, h x List.mem_cons_self, ih (fun y hy => h y (List.mem_cons_of_mem _ hy)), Nat.mul_zero]
theorem val_pos {b : List Nat} {i : Nat} (h : b.getD i 0 ≠ 0) : M ^ i ≤ val b := by
  have hi : i < b.length := by
    rcases Nat.lt_or_ge i b.length with h1 | h1
    · exact h1
    · rw [List.getD_eq_getElem?_getD, List.getElem?_eq_none h1] at h; exact absurd rfl h
  have e : b = b.take i ++ b.drop i := (List.take_append_drop i b).symm
  rw [e, val_append, List.length_take, Nat.min_eq_left (Nat.le_of_lt hi), val_drop hi]
  have : M ^ i * 1 ≤ M ^ i * (b.getD i 0 + M * val (b.drop (i + 1))) := Nat.mul_le_mul_left _ (by omega)
  omega
theorem val_two {b : List Nat} (h : ∀ i, 2 ≤ i → b.getD i 0 = 0) : val b = b.getD 0 0 + M * b.getD 1 0 := by
  have e : val (b.drop 2) = 0 := val_zero (fun x hx => by
    obtain ⟨i, hi, rfl⟩ := List.mem_iff_getElem.1 hx
    have := h (2 + i) (by omega)
    rw [List.getD_eq_getElem?_getD] at this
    rw [List.getElem_drop]
    rw [List.length_drop] at hi
    rw [List.getElem?_eq_getElem (by omega)] at this
    exact this)
  match b with
  | [] => rfl
  | [x] => rfl
  | x :: y :: r =>
    have e' : val r = 0 := e
    simp [val, e']
theorem val_big {b : List Nat} {i : Nat} (h2 : 2 ≤ i) (h : b.getD i 0 ≠ 0) : M * M ≤ val b := by
  have h1 := val_pos h
  have h3 : M ^ 2 ≤ M ^ i := Nat.pow_le_pow_right (by decide) h2
  have h4 : M ^ 2 = M * M := by rw [Nat.pow_succ, Nat.pow_one]
  omega
theorem val_small {b : List Nat} (hg : Good b) (h : ∀ i, 2 ≤ i → b.getD i 0 = 0) : val b < M * M := by
  rw [val_two h]
  have h0 := good_at hg 0
  have h1 := good_at hg 1
  have : M * (b.getD 1 0 + 1) ≤ M * M := Nat.mul_le_mul_left _ h1
  rw [Nat.mul_add] at this
  omega
theorem mask_nat {x : Nat} (h : x < 18446744073709551616) : Go.bits .and .u64 (x : Int) 4294967295 = ((x % M : Nat) : Int) := Mul64.maskN x h
theorem div_nat (x : Nat) : (x : Int) / 4294967296 = ((x / M : Nat) : Int) := Mul64.divN x
theorem wrap_nat {x : Nat} (h : x < 18446744073709551616) : IntKind.u64.wrap (x : Int) = (x : Int) := Mul64.wrapN x h
theorem next_nat {i n : Nat} (h : i < n) (hn : n ≤ 1000000) : wrap64 ((i : Int) + 1) = ((i + 1 : Nat) : Int) := by unfold wrap64; omega
theorem ints_snoc (a : List Nat) (x : Nat) : ints a ++ [((x : Nat) : Int)] = ints (a ++ [x]) := by simp [ints]
theorem times_x {x n c : Nat} (hx : x < M) (hn : n < M) (hc : c < M) : x * n + c < 18446744073709551616 ∧ (x * n + c) / M < M := by
  have h1 : x * n ≤ (M - 1) * (M - 1) := Nat.mul_le_mul (by omega) (by omega)
  have h2 : (M - 1) * (M - 1) = 18446744065119617025 := by decide
  have h3 : M = 4294967296 := rfl
  refine ⟨by omega, ?_⟩
  rw [Nat.div_lt_iff_lt_mul M_pos]
  have h4 : M * M = 18446744073709551616 := by decide
  omega
theorem times_l1 {out : List Nat} {c : Nat} (hg : Good out) (hc : c < M) (hl : out.length ≤ 1000000) : ∃ r, Good r ∧ val r = val out + M ^ out.length * c ∧ r.length ≤ out.length + 1 ∧ Ev (fun k => weirref03_times.l1 k (ints out) c) (ints r) := by
  by_cases h0 : c = 0
  · subst h0
    refine ⟨out, hg, by simp, by omega, Ev.step (f := fun _ => some (ints out)) (fun k => ?_) (Ev.now _)⟩
    simp only [weirref03_times.l1]
    rw [if_neg (by decide)]
  · have hm : c % M = c := Nat.mod_eq_of_lt hc
    have hd : c / M = 0 := Nat.div_eq_of_lt hc
    have hv := times_tail (out := out) (c := c)
    rw [hm, hd, Nat.mul_zero, Nat.add_zero] at hv
    refine ⟨out ++ [c], good_snoc hg hc, hv, by simp, Ev.step (f := fun k => weirref03_times.l1 k (ints (out ++ [c])) 0) (fun k => ?_) (Ev.step (f := fun _ => some (ints (out ++ [c]))) (fun k => ?_) (Ev.now _))⟩
    · simp only [weirref03_times.l1]
      rw [if_pos (by omega), if_pos (by rw [ints_length]; omega), mask_nat (Nat.lt_trans hc (by decide)), div_nat, hm, hd, ints_snoc]
      rfl
    · simp only [weirref03_times.l1]
      rw [if_neg (by decide)]
theorem times_l0 {b : List Nat} {n : Nat} (hb : Good b) (hn : n < M) (hl : b.length ≤ 900000) (d : Nat) : ∀ (i c : Nat) (out : List Nat), i + d = b.length → out.length = i → Good out → c < M → val out + M ^ i * c = val (b.take i) * n →
    ∃ r, Good r ∧ val r = val b * n ∧ r.length ≤ b.length + 1 ∧ Ev (fun k => weirref03_times.l0 k (ints b) n (ints out) c i) (ints r) := by
  induction d with
  | zero =>
    intro i c out hi ho hg hc hv
    obtain ⟨r, h1, h2, h3, h4⟩ := times_l1 hg hc (by omega)
    rw [ho, hv, val_end (by omega)] at h2
    refine ⟨r, h1, h2, by omega, Ev.step (f := fun k => weirref03_times.l1 k (ints out) c) (fun k => ?_) h4⟩
    simp only [weirref03_times.l0]
    rw [if_neg (by rw [ints_length]; omega)]
  | succ d ih =>
    intro i c out hi ho hg hc hv
    have hx := good_at hb i
    obtain ⟨x, hxe⟩ : ∃ x, b.getD i 0 = x := ⟨_, rfl⟩
    rw [hxe] at hx
    obtain ⟨h1, h2⟩ := times_x hx hn hc
    have hs := times_step (n := n) (c := c) (show i < b.length by omega) ho hv
    rw [hxe] at hs
    obtain ⟨r, r1, r2, r3, r4⟩ := ih (i + 1) ((x * n + c) / M) (out ++ [(x * n + c) % M]) (by omega) (by rw [List.length_append, ho]; rfl) (good_snoc hg (Nat.mod_lt _ M_pos)) h2 hs
    refine ⟨r, r1, r2, r3, Ev.step (fun k => ?_) r4⟩
    simp only [weirref03_times.l0]
    rw [if_pos (by rw [ints_length]; omega), if_pos (Int.natCast_nonneg i), if_pos (by rw [ints_length]; omega), rd_ints, hxe, next_nat (show i < b.length by omega) (by omega), Mul64.mulN, wrap_nat (by omega), Mul64.addN, wrap_nat h1, mask_nat h1, div_nat, ints_snoc]
theorem times_is {b : List Nat} {n : Nat} (hb : Good b) (hn : n < M) (hl : b.length ≤ 900000) : ∃ r, Good r ∧ val r = val b * n ∧ r.length ≤ b.length + 1 ∧ Ev (fun k => weirref03_times.f k (ints b) n) (ints r) := by
  obtain ⟨r, h1, h2, h3, h4⟩ := times_l0 hb hn hl b.length 0 0 [] (by omega) rfl good_nil M_pos (by simp [val])
  exact ⟨r, h1, h2, h3, h4⟩
theorem or_nat {c x : Nat} (hc : c < M) (hx : x < M) : Go.bits .or .u64 ((c * M : Nat) : Int) (x : Int) = ((c * M + x : Nat) : Int) := by
  have h1 : c * M + x < 18446744073709551616 := by
    have : (c + 1) * M ≤ M * M := Nat.mul_le_mul_right _ hc
    have h4 : M * M = 18446744073709551616 := by decide
    rw [Nat.add_mul] at this
    omega
  have h := bits_join .u64 64 (by decide) (fun n h0 h1 => by rw [IntKind.wrap_u64]; omega) 32 ((c * M : Nat) : Int) (x : Int) (Int.natCast_nonneg _) (by show ((c * 4294967296 : Nat) : Int) % 4294967296 = 0; omega)
    (by show ((c * M : Nat) : Int) < 18446744073709551616; omega) (Int.natCast_nonneg _) (by show (x : Int) < 4294967296; have : M = 4294967296 := rfl; omega) (by show (x : Int) < 18446744073709551616; omega)
  rw [h, Mul64.addN]
theorem mulM_nat (c : Nat) : (c : Int) * 4294967296 = ((c * M : Nat) : Int) := Mul64.mulN c M
theorem tdiv_nat (a b : Nat) : Int.tdiv (a : Int) (b : Int) = ((a / b : Nat) : Int) := by rw [Int.tdiv_eq_ediv_of_nonneg (by omega)]; rfl
theorem tmod_nat2 (a b : Nat) : Int.tmod (a : Int) (b : Int) = ((a % b : Nat) : Int) := by rw [Int.tmod_eq_emod_of_nonneg (by omega)]; rfl
theorem ints_rep (n : Nat) : List.replicate n (0 : Int) = ints (List.replicate n 0) := by simp [ints]
theorem ints_set (l : List Nat) (i x : Nat) : (ints l).set i (x : Int) = ints (l.set i x) := by simp [ints, List.map_set]
theorem set_zero {i : Nat} {T : List Nat} (y : Nat) : (List.replicate (i + 1) 0 ++ T).set i y = List.replicate i 0 ++ (y :: T) := by
  rw [List.replicate_succ', List.append_assoc, List.set_append_right _ _ (by rw [List.length_replicate]; exact Nat.le_refl _), List.length_replicate, Nat.sub_self, List.singleton_append, List.set_cons_zero]
theorem pred_nat (i : Nat) (h : i ≤ 1000000) : wrap64 ((i : Int) - 1) = (i : Int) - 1 := by unfold wrap64; omega
theorem over_x {c n x : Nat} (hc : c < n) (hn : n ≤ 1000) (hx : x < M) : c * M + x < 18446744073709551616 := by
  have h3 : M = 4294967296 := rfl
  have : (c + 1) * M ≤ 1000 * M := Nat.mul_le_mul_right _ (by omega)
  rw [Nat.add_mul] at this
  omega
theorem over_l0 {b : List Nat} {n : Nat} (hb : Good b) (hn : 0 < n) (hn2 : n ≤ 1000) (hl : b.length ≤ 900000) (j : Nat) : ∀ (c : Nat) (T : List Nat), j + T.length = b.length → Good T → c < n → val (b.drop j) = n * val T + c →
    ∃ r, Good r ∧ (∃ c', val b = n * val r + c' ∧ c' < n) ∧ r.length = b.length ∧ Ev (fun k => weirref03_over.l0 k (ints b) n (ints (List.replicate j 0 ++ T)) c ((j : Int) - 1)) (ints r) := by
  induction j with
  | zero =>
    intro c T hi hg hc hv
    refine ⟨T, hg, ⟨c, by rw [List.drop_zero] at hv; exact hv, hc⟩, by omega, Ev.step (f := fun _ => some (ints T)) (fun k => ?_) (Ev.now _)⟩
    simp only [weirref03_over.l0]
    rw [if_neg (by decide)]
    rfl
  | succ j ih =>
    intro c T hi hg hc hv
    have hx := good_at hb j
    obtain ⟨x, hxe⟩ : ∃ x, b.getD j 0 = x := ⟨_, rfl⟩
    rw [hxe] at hx
    have hs := over_step (n := n) (show j < b.length by omega) hv
    rw [hxe] at hs
    have hcM : c < M := Nat.lt_of_lt_of_le hc (Nat.le_trans hn2 (by decide))
    have h1 := over_x hc hn2 hx
    obtain ⟨r, r1, r2, r3, r4⟩ := ih ((c * M + x) % n) (((c * M + x) / n) :: T) (by rw [List.length_cons]; omega) (good_cons (over_good hc hx) hg) (Nat.mod_lt _ hn) hs
    have hq : (c * M + x) / n < 18446744073709551616 := Nat.lt_of_le_of_lt (Nat.div_le_self _ _) h1
    have hlen : (ints (List.replicate (j + 1) 0 ++ T)).length = b.length := by rw [ints_length, List.length_append, List.length_replicate]; omega
    refine ⟨r, r1, r2, r3, Ev.step (fun k => ?_) r4⟩
    have hj : ((j + 1 : Nat) : Int) - 1 = (j : Int) := by omega
    simp only [weirref03_over.l0]
    rw [hj, if_pos (Int.natCast_nonneg j), if_pos (Int.natCast_nonneg j), if_pos (by rw [ints_length]; omega), if_neg (by omega), if_pos (by rw [hlen]; omega), rd_ints, hxe, mulM_nat, wrap_nat (by omega), or_nat hcM hx, tdiv_nat, tmod_nat2, wrap_nat hq, Int.toNat_natCast, ints_set, set_zero, pred_nat j (by omega)]
theorem over_is {b : List Nat} {n : Nat} (hb : Good b) (hn : 0 < n) (hn2 : n ≤ 1000) (hl : b.length ≤ 900000) : ∃ r, Good r ∧ val r = val b / n ∧ r.length = b.length ∧ Ev (fun k => weirref03_over.f k (ints b) n) (ints r) := by
  obtain ⟨r, h1, ⟨c, h2, h3⟩, h4, h5⟩ := over_l0 hb hn hn2 hl b.length 0 [] (by simp) good_nil hn (by simp [val])
  refine ⟨r, h1, ?_, h4, Ev.congr (fun k => ?_) h5⟩
  · rw [h2, Nat.mul_comm, Nat.add_comm, Nat.add_mul_div_right _ _ hn, Nat.div_eq_of_lt h3, Nat.zero_add]
  · simp only [weirref03_over.f]
    rw [if_pos (Int.natCast_nonneg _), ints_length, Int.toNat_natCast, if_pos (by omega), ints_rep, List.append_nil, pred_nat b.length (by omega)]
    rfl
end Big
end Go.Proofs.Ytohpboblmmbjnaa.P
/- Sums of great numbers. -/
namespace Go.Proofs.Ytohpboblmmbjnaa.P
open Go Go.RowKit Go.Proofs.YtohpboblmmbjnaaW.PrintWords Go.Proofs.YtohpboblmmbjnaaW.PrintLast Go.Proofs.YtohpboblmmbjnaaW.PrintMore Go.Proofs.Odo
namespace Big
theorem add_x {a b c : Nat} (ha : a < M) (hb : b < M) (hc : c < 2) : c + a + b < 18446744073709551616 ∧ (c + a + b) / M < 2 ∧ c + a < 18446744073709551616 := by
  have h3 : M = 4294967296 := rfl
  refine ⟨by omega, ?_, by omega⟩
  rw [Nat.div_lt_iff_lt_mul M_pos]
  omega
theorem lt_ints {a : List Nat} {i : Nat} (h : i < a.length) : (i : Int) < ((ints a).length : Int) := by rw [ints_length]; omega
theorem nlt_ints {a : List Nat} {i : Nat} (h : ¬ i < a.length) : ¬ (i : Int) < ((ints a).length : Int) := by rw [ints_length]; omega
theorem out_small {a : List Nat} (h : a.length ≤ 1000000) : (ints a).length < 17592186044416 := by rw [ints_length]; omega
theorem getD_none {a : List Nat} {i : Nat} (h : ¬ i < a.length) : a.getD i 0 = 0 := by rw [List.getD_eq_getElem?_getD, List.getElem?_eq_none (Nat.le_of_not_lt h)]; rfl
theorem add_eq {a b out : List Nat} {c i x y : Nat} (hxe : a.getD i 0 = x) (hye : b.getD i 0 = y) (q1 : c + x + y < 18446744073709551616) (q3 : c + x < 18446744073709551616) (ho : out.length ≤ 1000000) (hnx : wrap64 ((i : Int) + 1) = ((i + 1 : Nat) : Int)) (hne : ¬ i < a.length → ¬ i < b.length → (c : Int) > 0) (k : Nat) :
    weirref03_add.l0 (k + 2) (ints a) (ints b) (ints out) c i = weirref03_add.l0 k (ints a) (ints b) (ints (out ++ [(c + x + y) % M])) (((c + x + y) / M : Nat) : Int) ((i + 1 : Nat) : Int) := by
  have e1 : weirref03_add.l0 (k + 2) (ints a) (ints b) (ints out) c i = weirref03_add.j1 (k + 1) (ints a) (ints b) (ints out) c i true := by
    show weirref03_add.l0 (k + 1 + 1) _ _ _ _ _ = _
    rw [weirref03_add.l0]
    by_cases h1 : i < a.length
    · rw [if_pos (lt_ints h1)]
    · rw [if_neg (nlt_ints h1)]
      by_cases h2 : i < b.length
      · rw [if_pos (lt_ints h2)]
      · rw [if_neg (nlt_ints h2), decide_eq_true (hne h1 h2)]
  have hol := out_small ho
  rw [e1, weirref03_add.j1, if_pos rfl]
  by_cases h1 : i < a.length
  · rw [if_pos (lt_ints h1), if_pos (Int.natCast_nonneg i)]
    by_cases h2 : i < b.length
    · rw [if_pos (lt_ints h2), if_pos hol, rd_ints, rd_ints, hxe, hye, Mul64.addN, wrap_nat q3, Mul64.addN, wrap_nat q1, mask_nat q1, div_nat, ints_snoc, hnx]
    · obtain rfl : y = 0 := hye.symm.trans (getD_none h2)
      simp only [Nat.add_zero]
      rw [if_neg (nlt_ints h2), if_pos hol, rd_ints, hxe, Mul64.addN, wrap_nat q3, mask_nat q3, div_nat, ints_snoc, hnx]
  · obtain rfl : x = 0 := hxe.symm.trans (getD_none h1)
    simp only [Nat.add_zero] at q1 q3 ⊢
    rw [if_neg (nlt_ints h1)]
    by_cases h2 : i < b.length
    · rw [if_pos (lt_ints h2), if_pos (Int.natCast_nonneg i), if_pos hol, rd_ints, hye, Mul64.addN, wrap_nat q1, mask_nat q1, div_nat, ints_snoc, hnx]
    · obtain rfl : y = 0 := hye.symm.trans (getD_none h2)
      simp only [Nat.add_zero]
      rw [if_neg (nlt_ints h2), if_pos hol, mask_nat q3, div_nat, ints_snoc, hnx]
theorem Ev.step2 {α : Type} {g f : Nat → Option α} {r : α} (h : ∀ k, g (k + 2) = f k) (k : Ev f r) : Ev g r := by
  obtain ⟨K, hK⟩ := k
  refine ⟨K + 2, fun k hk => ?_⟩
  obtain ⟨j, rfl⟩ : ∃ j, k = j + 2 := ⟨k - 2, by omega⟩
  rw [h]
  exact hK j (by omega)
theorem add_l0 {a b : List Nat} (ha : Good a) (hb : Good b) {N : Nat} (hla : a.length ≤ N) (hlb : b.length ≤ N) (hN : N ≤ 900000) (d : Nat) : ∀ (i c : Nat) (out : List Nat), i + d = N + 1 → out.length = i → Good out → c < 2 → (N < i → c = 0) → val out + M ^ i * c = val (a.take i) + val (b.take i) →
    ∃ r, Good r ∧ val r = val a + val b ∧ r.length ≤ N + 1 ∧ Ev (fun k => weirref03_add.l0 k (ints a) (ints b) (ints out) c i) (ints r) := by
  have done : ∀ (i : Nat) (out : List Nat), a.length ≤ i → b.length ≤ i → out.length = i → i ≤ N + 1 → Good out → val out + M ^ i * 0 = val (a.take i) + val (b.take i) → ∃ r, Good r ∧ val r = val a + val b ∧ r.length ≤ N + 1 ∧ Ev (fun k => weirref03_add.l0 k (ints a) (ints b) (ints out) ((0 : Nat) : Int) i) (ints r) := by
    intro i out h1 h2 h3 h4 hg hv
    rw [val_end h1, val_end h2, Nat.mul_zero, Nat.add_zero] at hv
    refine ⟨out, hg, hv, by rw [h3]; exact h4, Ev.step (f := fun k => weirref03_add.j1 k (ints a) (ints b) (ints out) ((0 : Nat) : Int) i false) (fun k => ?_) (Ev.step (f := fun _ => some (ints out)) (fun k => ?_) (Ev.now _))⟩
    · rw [weirref03_add.l0, if_neg (nlt_ints (Nat.not_lt.2 h1)), if_neg (nlt_ints (Nat.not_lt.2 h2))]
      rfl
    · rw [weirref03_add.j1, if_neg (by decide)]
  induction d with
  | zero =>
    intro i c out hi ho hg hc hz hv
    have hi' : i = N + 1 := hi
    subst hi'
    obtain rfl := hz (Nat.lt_succ_self N)
    exact done _ out (Nat.le_succ_of_le hla) (Nat.le_succ_of_le hlb) ho (Nat.le_refl _) hg hv
  | succ d ih =>
    intro i c out hi ho hg hc hz hv
    have hiN : i ≤ N := by clear hv done ih hz; omega
    have hd : i + 1 + d = N + 1 := by clear hv done ih hz; omega
    have hi9 : i ≤ 900000 := Nat.le_trans hiN hN
    have hx := good_at ha i
    have hy := good_at hb i
    obtain ⟨x, hxe⟩ : ∃ x, a.getD i 0 = x := ⟨_, rfl⟩
    obtain ⟨y, hye⟩ : ∃ y, b.getD i 0 = y := ⟨_, rfl⟩
    by_cases hend : a.length ≤ i ∧ b.length ≤ i ∧ c = 0
    · obtain ⟨h1, h2, rfl⟩ := hend
      exact done i out h1 h2 ho (Nat.le_succ_of_le hiN) hg hv
    · have hs := add_step (a := a) (b := b) (c := c) ho hv
      rw [hxe] at hx hs
      rw [hye] at hy hs
      obtain ⟨q1, q2, q3⟩ := add_x hx hy hc
      have hnx : wrap64 ((i : Int) + 1) = ((i + 1 : Nat) : Int) := next_nat (Nat.lt_succ_self i) (Nat.le_trans (Nat.succ_le_succ hi9) (by decide))
      have hne : ¬ i < a.length → ¬ i < b.length → (c : Int) > 0 := fun h1 h2 => by
        have : c ≠ 0 := fun h => hend ⟨Nat.le_of_not_lt h1, Nat.le_of_not_lt h2, h⟩
        clear hv hs done ih hz q1 q2 q3
        omega
      have hlast : N < i + 1 → (c + x + y) / M = 0 := fun h => by
        have h3 : ¬ i < a.length := Nat.not_lt.2 (Nat.le_trans hla (Nat.le_of_lt_succ h))
        have h4 : ¬ i < b.length := Nat.not_lt.2 (Nat.le_trans hlb (Nat.le_of_lt_succ h))
        rw [← hxe, ← hye, getD_none h3, getD_none h4]
        exact Nat.div_eq_of_lt (Nat.lt_of_lt_of_le hc (by decide))
      obtain ⟨r, r1, r2, r3, r4⟩ := ih (i + 1) ((c + x + y) / M) (out ++ [(c + x + y) % M]) hd (by rw [List.length_append, ho]; rfl) (good_snoc hg (Nat.mod_lt _ M_pos)) q2 hlast hs
      exact ⟨r, r1, r2, r3, Ev.step2 (fun k => add_eq hxe hye q1 q3 (by rw [ho]; exact Nat.le_trans hi9 (by decide)) hnx hne k) r4⟩
theorem add_is {a b : List Nat} (ha : Good a) (hb : Good b) {N : Nat} (hla : a.length ≤ N) (hlb : b.length ≤ N) (hN : N ≤ 900000) : ∃ r, Good r ∧ val r = val a + val b ∧ r.length ≤ N + 1 ∧ Ev (fun k => weirref03_add.f k (ints a) (ints b)) (ints r) := by
  obtain ⟨r, h1, h2, h3, h4⟩ := add_l0 ha hb hla hlb hN (N + 1) 0 0 [] (by omega) rfl good_nil (by decide) (fun h => by omega) (by simp [val])
  exact ⟨r, h1, h2, h3, h4⟩
end Big
end Go.Proofs.Ytohpboblmmbjnaa.P
/- What word answers. -/
namespace Go.Proofs.Ytohpboblmmbjnaa.P
open Go Go.RowKit Go.Proofs.YtohpboblmmbjnaaW.PrintWords Go.Proofs.YtohpboblmmbjnaaW.PrintLast Go.Proofs.YtohpboblmmbjnaaW.PrintMore Go.Proofs.Odo
namespace Big
theorem shl_zero {x : Nat} (h : x < M) : shl .u64 (x : Int) (IntKind.u64.wrap (wrap64 (32 * ((0 : Nat) : Int)))) = (x : Int) := by
  have e : IntKind.u64.wrap (wrap64 (32 * ((0 : Nat) : Int))) = 0 := by unfold wrap64; rw [IntKind.wrap_u64]; omega
  rw [e]
  show IntKind.u64.wrap ((x : Int) * 2 ^ 0) = _
  rw [Int.pow_zero, Int.mul_one, wrap_nat (Nat.lt_trans h (by decide))]
theorem shl_one {x : Nat} (h : x < M) : shl .u64 (x : Int) (IntKind.u64.wrap (wrap64 (32 * ((1 : Nat) : Int)))) = ((x * M : Nat) : Int) := by
  have e : IntKind.u64.wrap (wrap64 (32 * ((1 : Nat) : Int))) = 32 := by unfold wrap64; rw [IntKind.wrap_u64]; omega
  rw [e]
  show IntKind.u64.wrap ((x : Int) * 4294967296) = _
  have hM : M = 4294967296 := rfl
  rw [mulM_nat, wrap_nat (Nat.lt_of_lt_of_le (Nat.mul_lt_mul_of_pos_right h M_pos) (by decide))]
theorem or_swap {c x : Nat} (hc : c < M) (hx : x < M) : Go.bits .or .u64 (x : Int) ((c * M : Nat) : Int) = ((x + M * c : Nat) : Int) := by
  have h := or_nat hc hx
  have e : Go.bits .or .u64 (x : Int) ((c * M : Nat) : Int) = Go.bits .or .u64 ((c * M : Nat) : Int) (x : Int) := by
    unfold Go.bits
    simp only [BitVec.or_comm]
  rw [e, h, Nat.mul_comm c M, Nat.add_comm]
theorem or_none {x : Nat} (h : x < M) : Go.bits .or .u64 0 (x : Int) = (x : Int) := by
  have h := or_nat (c := 0) M_pos h
  rw [Nat.zero_mul, Nat.zero_add] at h
  exact h
def wordR (v : Nat) : Int × Bool := if v < 18446744073709551616 then (((v : Nat) : Int), true) else (0, false)
theorem word_rest {b : List Nat} (hl : b.length ≤ 900000) {n : Int} (d : Nat) : ∀ i : Nat, i + d = b.length → 2 ≤ i →
    ((∀ j, i ≤ j → b.getD j 0 = 0) ∧ Ev (fun k => weirref03_word.l0 k (ints b) n i) (n, true)) ∨ ((∃ j, i ≤ j ∧ b.getD j 0 ≠ 0) ∧ Ev (fun k => weirref03_word.l0 k (ints b) n i) (0, false)) := by
  induction d with
  | zero =>
    intro i hi h2
    refine .inl ⟨fun j hj => by rw [List.getD_eq_getElem?_getD, List.getElem?_eq_none (by omega)]; rfl, Ev.step (f := fun _ => some (n, true)) (fun k => ?_) (Ev.now _)⟩
    simp only [weirref03_word.l0]
    rw [if_neg (by rw [ints_length]; omega)]
  | succ d ih =>
    intro i hi h2
    obtain ⟨x, hx⟩ : ∃ x, b.getD i 0 = x := ⟨_, rfl⟩
    have e1 : ∀ k, weirref03_word.l0 (k + 1) (ints b) n i = weirref03_word.j1 k (ints b) n i (decide ((x : Int) > 0)) := fun k => by
      simp only [weirref03_word.l0]
      rw [if_pos (by rw [ints_length]; omega), if_pos (by omega), if_pos (by omega), rd_ints, hx]
    by_cases h0 : x = 0
    · have e2 : ∀ k, weirref03_word.j1 (k + 1) (ints b) n i (decide ((x : Int) > 0)) = weirref03_word.l0 k (ints b) n ((i + 1 : Nat) : Int) := fun k => by
        simp only [weirref03_word.j1]
        rw [if_neg (by rw [h0]; decide), if_neg (by omega), next_nat (show i < b.length by omega) (by omega)]
      rcases ih (i + 1) (by omega) (by omega) with ⟨h, he⟩ | ⟨⟨j, hj, hne⟩, he⟩
      · refine .inl ⟨fun j hj => ?_, Ev.step e1 (Ev.step e2 he)⟩
        rcases Nat.eq_or_lt_of_le hj with rfl | hj
        · rw [hx, h0]
        · exact h j hj
      · exact .inr ⟨⟨j, by omega, hne⟩, Ev.step e1 (Ev.step e2 he)⟩
    · refine .inr ⟨⟨i, Nat.le_refl _, by rw [hx]; exact h0⟩, Ev.step e1 (Ev.step (f := fun _ => some (0, false)) (fun k => ?_) (Ev.now _))⟩
      simp only [weirref03_word.j1]
      rw [if_pos (decide_eq_true (show (x : Int) > 0 by omega))]
theorem word_low {b : List Nat} {n : Int} {i : Nat} (hi : i < b.length) (h2 : i < 2) (hl : b.length ≤ 900000) {r : Int × Bool} {m : Int} (hm : Go.bits .or .u64 n (shl .u64 ((b.getD i 0 : Nat) : Int) (IntKind.u64.wrap (wrap64 (32 * (i : Int))))) = m)
    (h : Ev (fun k => weirref03_word.l0 k (ints b) m ((i + 1 : Nat) : Int)) r) : Ev (fun k => weirref03_word.l0 k (ints b) n i) r := by
  refine Ev.step (f := fun k => weirref03_word.j1 k (ints b) n i false) (fun k => ?_) (Ev.step (fun k => ?_) h)
  · simp only [weirref03_word.l0]
    rw [if_pos (by rw [ints_length]; omega), if_neg (by omega)]
  · simp only [weirref03_word.j1]
    rw [if_neg (by decide), if_pos (by omega), if_pos (by omega), if_pos (by rw [ints_length]; omega), if_pos (by rw [IntKind.wrap_u64]; omega), rd_ints, hm, next_nat hi (by omega)]
theorem word_is {b : List Nat} (hb : Good b) (hl : b.length ≤ 900000) : Ev (fun k => weirref03_word.f k (ints b)) (wordR (val b)) := by
  show Ev (fun k => weirref03_word.l0 k (ints b) 0 ((0 : Nat) : Int)) _
  have hMM : M * M = 18446744073709551616 := by decide
  have stop : ∀ (n : Int) (i : Nat), b.length ≤ i → Ev (fun k => weirref03_word.l0 k (ints b) n i) (n, true) := fun n i h => Ev.step (f := fun _ => some (n, true)) (fun k => by
    simp only [weirref03_word.l0]
    rw [if_neg (by rw [ints_length]; omega)]) (Ev.now _)
  match hbb : b with
  | [] => exact stop 0 0 (Nat.le_refl _)
  | [x] =>
    have hx := hb x (by simp)
    refine word_low (by simp) (by decide) (by simp) (m := (x : Int)) ?_ ?_
    · show Go.bits .or .u64 0 (shl .u64 (x : Int) _) = _
      rw [shl_zero hx, or_none hx]
    · have e : wordR (val [x]) = ((x : Int), true) := by
        unfold wordR
        rw [if_pos (by simp [val]; exact Nat.lt_trans hx (by decide))]
        simp [val]
      rw [e]
      exact stop _ _ (by simp)
  | x :: y :: r =>
    have hx := hb x (by simp)
    have hy := hb y (by simp)
    refine word_low (by simp) (by decide) hl (m := (x : Int)) ?_ (word_low (by simp) (by decide) hl (m := ((x + M * y : Nat) : Int)) ?_ ?_)
    · show Go.bits .or .u64 0 (shl .u64 (x : Int) _) = _
      rw [shl_zero hx, or_none hx]
    · show Go.bits .or .u64 (x : Int) (shl .u64 (y : Int) _) = _
      rw [shl_one hy, or_swap hy hx]
    · rcases word_rest (n := ((x + M * y : Nat) : Int)) hl r.length 2 (by simp only [List.length_cons]; omega) (Nat.le_refl _) with ⟨h, he⟩ | ⟨⟨j, hj, hne⟩, he⟩
      · have h1 := val_two h
        have h2 := val_small hb h
        rw [hMM] at h2
        have e : wordR (val (x :: y :: r)) = (((x + M * y : Nat) : Int), true) := by
          unfold wordR
          rw [if_pos h2, h1]
          rfl
        rw [e]
        exact he
      · have h1 := val_big hj hne
        rw [hMM] at h1
        have e : wordR (val (x :: y :: r)) = (0, false) := by
          unfold wordR
          rw [if_neg (by omega)]
        rw [e]
        exact he
end Big
end Go.Proofs.Ytohpboblmmbjnaa.P
/- The document's spaces in memory, and its great numbers. -/
namespace Go.Proofs.Ytohpboblmmbjnaa.P
open Go Go.RowKit Go.Proofs.YtohpboblmmbjnaaW.PrintWords Go.Proofs.YtohpboblmmbjnaaW.PrintLast Go.Proofs.YtohpboblmmbjnaaW.PrintMore Go.Proofs.Odo
/-- A space of the document's. -/
def RefS (w : World) (v : Value) (kd : Int) (l : List Int) : Prop := ∃ (g : Nat) (A : Option Addr) (c : Nat), v = .pointer (some ⟨g, 0, none⟩) ∧ w.heap[g]? = some (.cells #[.int .i64 kd, .slice A l.length c] 74 (0, 0)) ∧ Kd.C (Kd.int .i64) w A l.length l ∧ l.length ≤ c
theorem RefS.below {w W : World} {v : Value} {kd : Int} {l : List Int} (h : RefS w v kd l) (hb : Below w.heap.size w W) : RefS W v kd l := by
  obtain ⟨g, A, c, e, h1, h2, h3⟩ := h
  exact ⟨g, A, c, e, (hb.block g (blk_lt h1)).trans h1, Kd.C_below h2 hb, h3⟩
/-- A great number that is read. -/
def BigC (W : World) (v : Value) (n N : Nat) : Prop := ∃ (A : Option Addr) (c : Nat) (r : List Nat), v = .slice A (ints r).length c ∧ Big.Good r ∧ Big.val r = n ∧ r.length ≤ N ∧ Kd.C (Kd.int .u64) W A (ints r).length (ints r) ∧ (ints r).length ≤ c
theorem BigC.below {w W : World} {v : Value} {n N : Nat} (h : BigC w v n N) (hb : Below w.heap.size w W) : BigC W v n N := by
  obtain ⟨A, c, r, e, h1, h2, h3, h4, h5⟩ := h
  exact ⟨A, c, r, e, h1, h2, h3, Kd.C_below h4 hb, h5⟩
theorem BigC.of {W : World} {B e : Nat} {ok : Nat → Prop} {v : Value} {r : List Nat} {n N : Nat} (h : Kd.R (Kd.int .u64) e W B ok v (ints r)) (h1 : Big.Good r) (h2 : Big.val r = n) (h3 : r.length ≤ N) : BigC W v n N := by
  obtain ⟨A, c, e, l, k⟩ := Kd.R_reads h
  exact ⟨A, c, r, e, h1, h2, h3, k, l⟩
theorem BigC.mono {W : World} {v : Value} {n N N' : Nat} (h : BigC W v n N) (hN : N ≤ N') : BigC W v n N' := by
  obtain ⟨A, c, r, e, h1, h2, h3, h4, h5⟩ := h
  exact ⟨A, c, r, e, h1, h2, Nat.le_trans h3 hN, h4, h5⟩
theorem times_c {W : World} {v : Value} {n N : Nat} {m : Int} {k : Nat} (h : BigC W v n N) (hm : m = (k : Int)) (hk : k < Big.M) (hN : N ≤ 800000) : Calls Try.prog 38 #[v, .int .u64 m] W fun e W' => ∃ v', e = .returned v' ∧ BigC W' v' (n * k) (N + 1) ∧ Below W.heap.size W W' := by
  obtain ⟨A, c, r, rfl, h1, h2, h3, h4, h5⟩ := h
  subst hm
  obtain ⟨q, q1, q2, q3, q4⟩ := Big.times_is h1 hk (by omega)
  obtain ⟨K, hK⟩ := q4.rounds
  refine (weirref03_times.calls K A c (ints r) k (ints q) W h4 h5 hK).mono ?_
  rintro e W' ⟨v', rfl, hR, hb⟩
  exact ⟨v', rfl, .of hR q1 (by rw [q2, h2]) (by omega), hb⟩
theorem over_c {W : World} {v : Value} {n N : Nat} {m : Int} {k : Nat} (h : BigC W v n N) (hm : m = (k : Int)) (hk : 0 < k) (hk2 : k ≤ 1000) (hN : N ≤ 800000) : Calls Try.prog 39 #[v, .int .u64 m] W fun e W' => ∃ v', e = .returned v' ∧ BigC W' v' (n / k) N ∧ Below W.heap.size W W' := by
  obtain ⟨A, c, r, rfl, h1, h2, h3, h4, h5⟩ := h
  subst hm
  obtain ⟨q, q1, q2, q3, q4⟩ := Big.over_is h1 hk hk2 (by omega)
  obtain ⟨K, hK⟩ := q4.rounds
  refine (weirref03_over.calls K A c (ints r) k (ints q) W h4 h5 hK).mono ?_
  rintro e W' ⟨v', rfl, hR, hb⟩
  exact ⟨v', rfl, .of hR q1 (by rw [q2, h2]) (by omega), hb⟩
theorem add_c {W : World} {v u : Value} {n m N : Nat} (h : BigC W v n N) (h' : BigC W u m N) (hN : N ≤ 800000) : Calls Try.prog 37 #[v, u] W fun e W' => ∃ v', e = .returned v' ∧ BigC W' v' (n + m) (N + 1) ∧ Below W.heap.size W W' := by
  obtain ⟨A, c, r, rfl, h1, h2, h3, h4, h5⟩ := h
  obtain ⟨A', c', r', rfl, h1', h2', h3', h4', h5'⟩ := h'
  obtain ⟨q, q1, q2, q3, q4⟩ := Big.add_is h1 h1' h3 h3' (by omega)
  obtain ⟨K, hK⟩ := q4.rounds
  refine (weirref03_add.calls K A c (ints r) A' c' (ints r') (ints q) W h4 h5 h4' h5' hK).mono ?_
  rintro e W' ⟨v', rfl, hR, hb⟩
  exact ⟨v', rfl, .of hR q1 (by rw [q2, h2, h2']) q3, hb⟩
theorem word_c {W : World} {v : Value} {n N : Nat} (h : BigC W v n N) (hN : N ≤ 800000) : Calls Try.prog 27 #[v] W fun e W' => e = .returned (.tuple #[.int .u64 (Big.wordR n).1, .bool (Big.wordR n).2]) ∧ Drawn0 W W' := by
  obtain ⟨A, c, r, rfl, h1, h2, h3, h4, h5⟩ := h
  subst h2
  obtain ⟨K, hK⟩ := (Big.word_is h1 (by omega)).rounds
  exact weirref03_word.calls K A c (ints r) _ _ W h4 h5 hK
theorem ints_nat {l : List Int} {L : List Nat} (e : l = ints L) (i : Nat) : rd l (i : Int) = ((L.getD i 0 : Nat) : Int) := by rw [e, rd_ints]
/-- Two words of a number. -/
theorem two_words (b n : Nat) : b * (n % Big.M) + Big.M * (b * (n / Big.M)) = b * n := by
  have := Nat.div_add_mod n Big.M
  rw [← Nat.mul_assoc, Nat.mul_comm Big.M b, Nat.mul_assoc, ← Nat.mul_add, Nat.add_comm, this]
theorem getD_prod {L : List Nat} {i : Nat} (h : i < L.length) : prod (L.drop i) = L.getD i 0 * prod (L.drop (i + 1)) := by
  rw [List.drop_eq_getElem_cons h, prod, List.getD_eq_getElem?_getD, List.getElem?_eq_getElem h]; rfl
theorem nat_dec {n j : Nat} (h : j < n) : n - (intOf (.int .i64 ((j + 1 : Nat) : Int))).toNat < n - (intOf (.int .i64 (j : Int))).toNat := by
  show n - (((j + 1 : Nat) : Int)).toNat < n - ((j : Int)).toNat
  omega
theorem getD_small {L : List Nat} (h : ∀ x ∈ L, x < 9223372036854775808) (i : Nat) : L.getD i 0 < 9223372036854775808 := by
  rw [List.getD_eq_getElem?_getD]
  cases hi : L[i]? with
  | none => decide
  | some x => exact h x (List.mem_of_getElem? hi)
set_option maxHeartbeats 4000000 in
set_option maxRecDepth 100000 in
/-- How many a product has, from a place on. -/
theorem countp_c {w : World} {v : Value} {l0 l : List Int} {L : List Nat} {A : Option Addr} {c a : Nat} (hs : RefS w v 1 l0) (hl : Kd.C (Kd.int .i64) w A l.length l) (hc : l.length ≤ c) (e : l = ints L) (hL : ∀ x ∈ L, x < 9223372036854775808) (hn : L.length ≤ 64) (ha : a ≤ L.length) :
    Calls Try.prog 28 #[v, .slice A l.length c, .int .i64 a] w fun e W' => ∃ v', e = .returned v' ∧ BigC W' v' (prod (L.drop a)) 400 ∧ Below w.heap.size w W' := by
  obtain ⟨g, A0, c0, rfl, b0, _, _⟩ := hs
  obtain ⟨x0, x1, _, _⟩ := blkA2 b0
  have B0 := Aside0.mk b0
  have X := Aside0.mk hl
  have E := Aside0.mk e
  have HL := Aside0.mk hL
  have HN := Aside0.mk hn
  have HA := Aside0.mk ha
  have hlen : l.length = L.length := by rw [e, ints_length]
  have LN := Aside0.mk hlen
  clear hl e hL hn ha b0 hlen
  go_enter Try.func28, Try.ntmps28
  go_upto_region 2 with ((with_reducible refine gate_dst (N := 13) rfl ?_); refine Kd.R_lit (Kd.int .u64) _ 25 ?hg (N := 13) ?hd (xs := ([1] : List Int)) (inner := [.int .u64 1]) (ok := fun _ => True) (okp := fun _ => True) ?hr ?hp (fun _ hk => hk) trivial (Below.refl _ _) (Nat.le_refl _) (by simp) ?_; (case hd => rfl); (case hg => rfl); (case hr => first | (go_simp; done) | (go_simp; rfl)); (case hp => exact (Reps.one (show Kd.M (Kd.int .u64) _ _ _ 1 [.int .u64 1] from rfl) (Reps.none _ _))); intro v1 w1 ho hb _ _; have HO := Aside0.mk (BigC.of (r := [1]) (n := 1) (N := 1) ho (Big.good_one (by decide)) (by simp [Big.val]) (Nat.le_refl _)); have HB := Aside0.mk hb; have hz0 := pw_cell_below hb x0; clear ho hb x0 x1)
  have HZ0 := Aside0.mk hz0
  go_wp2_with fail
  go_loopw [7, 8] (fun vb vi W => ∃ i : Nat, vi = .int .i64 i ∧ i ≤ l.length ∧ Aside0 (∃ n N, BigC W vb n N ∧ n * prod (L.drop i) = prod (L.drop a) ∧ N ≤ 3 * i + 1 ∧ Below w.heap.size w W)) (fun _ vi _ => l.length - (intOf vi).toNat)
  case atStart => exact ⟨a, rfl, by rw [LN.out]; exact HA.out, ⟨1, 1, HO.out, Nat.one_mul _, by omega, HB.out⟩⟩
  case round =>
    clear HO HB HZ0 hz0
    obtain ⟨i, rfl, hi, HX⟩ := hrel
    obtain ⟨n, N, hB, hP, hN, hW⟩ := HX.out
    have HO := Aside0.mk hB
    have HP := Aside0.mk hP
    have HN3 := Aside0.mk hN
    have HB := Aside0.mk hW
    clear HX hB hP hN hW
    by_cases hlt : i < l.length
    · obtain ⟨ad, rfl, hx⟩ := Kd.at_int (Kd.C_below X.out HB.out) (i : Int) (Int.natCast_nonneg i) (Int.ofNat_lt.2 hlt)
      obtain ⟨x, hxe⟩ : ∃ x, L.getD i 0 = x := ⟨_, rfl⟩
      rw [ints_nat E.out, hxe, Int.toNat_natCast] at hx
      have hxl : x < 9223372036854775808 := by rw [← hxe]; exact getD_small HL.out i
      have hw : IntKind.u64.wrap (x : Int) = (x : Int) := Big.wrap_nat (by omega)
      have HI := Aside0.mk hlt
      have HXE := Aside0.mk hxe
      have q1 := Aside0.mk (Big.mask_nat (x := x) (by omega))
      have q2 := Aside0.mk (Big.div_nat x)
      have q3 := Aside0.mk (show x / Big.M < Big.M from Nat.div_lt_of_lt_mul (Nat.lt_trans hxl (by decide)))
      have q4 := Aside0.mk (show N ≤ 800000 - 2 by have := HN3.out; have := HN.out; have := LN.out; omega)
      have q5 := Aside0.mk (show N + 2 ≤ 800000 by have := q4.out; omega)
      have q6 := Aside0.mk (show N + 1 ≤ N + 2 from Nat.le_succ _)
      have hwi := Aside0.mk (Big.next_nat hlt (by have := HN.out; have := LN.out; omega))
      clear hxl hxe
      go_wp2_with (first
        | (go_at_call 38; (with_reducible refine (times_c (k := x % Big.M) HO.out q1.out (Nat.mod_lt _ Big.M_pos) (Nat.le_trans q4.out (by decide))).mono ?_); rintro e w5 ⟨v5, rfl, h5, hb5⟩; have H5 := Aside0.mk h5; have HO5 := Aside0.mk (HO.out.below hb5); have HB5 := Aside0.mk (below_then HB.out HB.out.size hb5); clear h5 hb5)
        | ((with_reducible refine gate_dst (N := 35) rfl ?_); refine Kd.R_lit (Kd.int .u64) _ 25 ?hg (N := 35) ?hd (xs := ([0] : List Int)) (inner := [.int .u64 0]) (ok := fun _ => True) (okp := fun _ => True) ?hr ?hp (fun _ hk => hk) trivial (Below.refl _ _) (Nat.le_refl _) (by simp) ?_; (case hd => rfl); (case hg => rfl); (case hr => first | (go_simp; done) | (go_simp; rfl)); (case hp => exact (Reps.one (show Kd.M (Kd.int .u64) _ _ _ 0 [.int .u64 0] from rfl) (Reps.none _ _))); intro v6 w6 ho hb _ _; have H6 := Aside0.mk ho; have B6 := Aside0.mk hb; have HO6 := Aside0.mk (HO5.out.below hb); have H56 := Aside0.mk (H5.out.below hb); have HB6 := Aside0.mk (below_then HB5.out HB5.out.size hb); clear ho hb)
        | (go_at_call 38; (with_reducible refine (times_c (k := x / Big.M) HO6.out q2.out q3.out (Nat.le_trans q4.out (by decide))).mono ?_); rintro e w7 ⟨v7, rfl, h7, hb7⟩; obtain ⟨A7, c7, r7, rfl, g1, g2, g3, g4, g5⟩ := h7; have G1 := Aside0.mk g1; have G2 := Aside0.mk g2; have G3 := Aside0.mk g3; have G4 := Aside0.mk g4; have H57 := Aside0.mk (H56.out.below hb7); have H67 := Aside0.mk (R_mv H6.out (fun k hk hlt => ⟨hb7.block k hlt, trivial⟩)); have B7 := Aside0.mk (below_then B6.out B6.out.size hb7); have HB7 := Aside0.mk (below_then HB6.out HB6.out.size hb7); clear hb7 g1 g2 g3 g4 g5)
        | ((with_reducible refine gate_builtin (b := .append) (xs := #[.tmp 35, .tmp 39]) rfl ?_); at_builtin; refine Kd.R_append_rows (Kd.int .u64) (w0 := w5) w5.heap.size rfl (.tmp 35) (.tmp 39) 71 25 (.int .u64 0) 8 rfl Try.underlying71 info25 rfl (by decide) (by decide) v6 [0] (ints r7) _ _ _ (fun _ => True) (fun _ => False) rfl rfl H67.out G4.out (fun _ _ h => h) (fun _ h => h.elim) (fun _ _ => trivial) B7.out B7.out.size ?aL ?_; (case aL => rw [ints_length]; have := G3.out; have := q4.out; simp only [List.length_singleton]; omega); intro v8 w8 ho hb _ _; have H8 := Aside0.mk (BigC.of (r := 0 :: r7) (n := Big.M * (n * (x / Big.M))) (N := N + 2) ho (Big.good_cons Big.M_pos G1.out) (by rw [Big.val, G2.out, Nat.zero_add]) (by have := G3.out; rw [List.length_cons]; omega)); have H58 := Aside0.mk (H5.out.below hb); have HB8 := Aside0.mk (below_then HB5.out HB5.out.size hb); clear ho hb)
        | (go_at_call 37; (with_reducible refine (add_c (N := N + 2) (H58.out.mono q6.out) H8.out q5.out).mono ?_); rintro e w9 ⟨v9, rfl, h9, hb9⟩; have H9 := Aside0.mk h9; have HB9 := Aside0.mk (below_then HB8.out HB8.out.size hb9); clear h9 hb9))
      go_roundw
      case rel => exact ⟨i + 1, by rw [hwi.out], HI.out, ⟨_, _, H9.out, by rw [two_words, Nat.mul_assoc, ← HXE.out, ← getD_prod (by rw [← LN.out]; exact HI.out)]; exact HP.out, by have := HN3.out; omega, HB9.out⟩⟩
      case measure => rw [hwi.out]; exact nat_dec HI.out
    · have hil : i = l.length := Nat.le_antisymm hi (Nat.le_of_not_lt hlt)
      have HD : Aside0 (n = prod (L.drop a)) := ⟨by
        have := HP.out
        rw [hil, LN.out, List.drop_length, prod, Nat.mul_one] at this
        exact this⟩
      have HE := Aside0.mk (show N ≤ 400 by have := HN3.out; have := HN.out; have := LN.out; omega)
      go_wp2_with fail
      go_ret
      exact ⟨_, rfl, by rw [← HD.out]; exact HO.out.mono HE.out, HB.out⟩
end Go.Proofs.Ytohpboblmmbjnaa.P
/- How many weaves there are, by the document. -/
namespace Go.Proofs.Ytohpboblmmbjnaa.P
open Go Go.RowKit Go.Proofs.YtohpboblmmbjnaaW.PrintWords Go.Proofs.YtohpboblmmbjnaaW.PrintLast Go.Proofs.YtohpboblmmbjnaaW.PrintMore Go.Proofs.Odo
theorem sum_next {L : List Nat} {i x : Nat} (h : i < L.length) (e : L.getD i 0 = x) : (L.take (i + 1)).sum = (L.take i).sum + x := by
  rw [List.take_add_one, List.sum_append, ← e, List.getD_eq_getElem?_getD, List.getElem?_eq_getElem h]
  simp
theorem mc_next {L : List Nat} {i x s : Nat} (h : i < L.length) (e : L.getD i 0 = x) : mcA s (L.drop i) = ch (s + x) x * mcA (s + x) (L.drop (i + 1)) := by
  have e' : L[i] = x := by rw [← e, List.getD_eq_getElem?_getD, List.getElem?_eq_getElem h]; rfl
  rw [List.drop_eq_getElem_cons h, mcA, e']
theorem ch_div {B s k : Nat} : B * ch (s + k) k * (s + (k + 1)) / (k + 1) = B * ch (s + (k + 1)) (k + 1) := by
  rw [Nat.mul_assoc, Nat.mul_comm (ch _ _), ← ch_step, ← Nat.mul_assoc, Nat.mul_comm B, Nat.mul_assoc]
  exact Nat.mul_div_cancel_left _ (Nat.succ_pos k)
theorem take_sum_le (L : List Nat) (i : Nat) : (L.take i).sum ≤ L.sum := by
  have : L.sum = (L.take i).sum + (L.drop i).sum := by rw [← List.sum_append, List.take_append_drop]
  omega
theorem nat_dec1 {n j : Nat} (h : j < n) : (n + 1) - (intOf (.int .i64 ((j + 1 + 1 : Nat) : Int))).toNat < (n + 1) - (intOf (.int .i64 ((j + 1 : Nat) : Int))).toNat := by
  show (n + 1) - (((j + 1 + 1 : Nat) : Int)).toNat < (n + 1) - (((j + 1 : Nat) : Int)).toNat
  omega
set_option maxHeartbeats 4000000 in
set_option maxRecDepth 100000 in
theorem countw_c {w : World} {v : Value} {kd : Int} {l0 l : List Int} {L : List Nat} {A : Option Addr} {c : Nat} {a : Int} (hs : RefS w v kd l0) (hk : kd ≠ 1) (hl : Kd.C (Kd.int .i64) w A l.length l) (hc : l.length ≤ c) (e : l = ints L) (hS : L.sum ≤ 64) (hn : L.length ≤ 64) :
    Calls Try.prog 28 #[v, .slice A l.length c, .int .i64 a] w fun e W' => ∃ v', e = .returned v' ∧ BigC W' v' (mc L) 400 ∧ Below w.heap.size w W' := by
  obtain ⟨g, A0, c0, rfl, b0, _, _⟩ := hs
  obtain ⟨x0, x1, _, _⟩ := blkA2 b0
  have X := Aside0.mk hl
  have E := Aside0.mk e
  have HS := Aside0.mk hS
  have HN := Aside0.mk hn
  have hk1 : (kd == 1) = false := beq_eq_false_iff_ne.2 hk
  have hlen : l.length = L.length := by rw [e, ints_length]
  have LN := Aside0.mk hlen
  clear hl e hS hn b0 hlen hk
  go_enter Try.func28, Try.ntmps28
  go_upto_region 2 with ((with_reducible refine gate_dst (N := 13) rfl ?_); refine Kd.R_lit (Kd.int .u64) _ 25 ?hg (N := 13) ?hd (xs := ([1] : List Int)) (inner := [.int .u64 1]) (ok := fun _ => True) (okp := fun _ => True) ?hr ?hp (fun _ hk => hk) trivial (Below.refl _ _) (Nat.le_refl _) (by simp) ?_; (case hd => rfl); (case hg => rfl); (case hr => first | (go_simp; done) | (go_simp; rfl)); (case hp => exact (Reps.one (show Kd.M (Kd.int .u64) _ _ _ 1 [.int .u64 1] from rfl) (Reps.none _ _))); intro v1 w1 ho hb _ _; have HO := Aside0.mk (BigC.of (r := [1]) (n := 1) (N := 1) ho (Big.good_one (by decide)) (by simp [Big.val]) (Nat.le_refl _)); have HB := Aside0.mk hb; have hz0 := pw_cell_below hb x0; clear ho hb x0 x1)
  go_wp2_with fail
  clear hz0 hk1
  go_loopw [7, 10, 11] (fun vb vn vi W => ∃ i : Nat, vi = .int .i64 i ∧ i ≤ l.length ∧ vn = .int .i64 (((L.take i).sum : Nat) : Int) ∧ Aside0 (∃ n, BigC W vb n (1 + (L.take i).sum) ∧ n * mcA (L.take i).sum (L.drop i) = mc L ∧ Below w.heap.size w W)) (fun _ _ vi _ => l.length - (intOf vi).toNat)
  case atStart => exact ⟨0, rfl, Nat.zero_le _, rfl, ⟨1, HO.out, Nat.one_mul _, HB.out⟩⟩
  case round =>
    clear HO HB
    obtain ⟨i, rfl, hi, rfl, HX⟩ := hrel
    obtain ⟨n, hB, hP, hW⟩ := HX.out
    have HO := Aside0.mk hB
    have HP := Aside0.mk hP
    have HB := Aside0.mk hW
    obtain ⟨s, hs⟩ : ∃ s, (L.take i).sum = s := ⟨_, rfl⟩
    have HSS := Aside0.mk hs
    rw [hs] at HO HP
    simp only [hs]
    have hs64 := Aside0.mk (show s ≤ 64 by rw [← hs]; exact Nat.le_trans (take_sum_le L i) HS.out)
    clear HX hB hP hW hs
    by_cases hlt : i < l.length
    · obtain ⟨x, hxe⟩ : ∃ x, L.getD i 0 = x := ⟨_, rfl⟩
      have HXE := Aside0.mk hxe
      have HI := Aside0.mk hlt
      have hiL : i < L.length := by rw [← LN.out]; exact hlt
      have hsx := Aside0.mk (show s + x ≤ 64 by rw [← HSS.out, ← sum_next hiL hxe]; exact Nat.le_trans (take_sum_le L _) HS.out)
      have hwi := Aside0.mk (Big.next_nat hlt (by have := HN.out; have := LN.out; omega))
      clear hxe hiL
      go_wp2_with fail
      clear hlt
      go_loopw [7, 10, 12] (fun vb vn vk W => ∃ k : Nat, vk = .int .i64 ((k + 1 : Nat) : Int) ∧ k ≤ x ∧ vn = .int .i64 ((s + k : Nat) : Int) ∧ Aside0 (BigC W vb (n * ch (s + k) k) (1 + (s + k))) ∧ Aside0 (Below w.heap.size w W)) (fun _ _ vk _ => (x + 1) - (intOf vk).toNat)
      case atStart => exact ⟨0, rfl, Nat.zero_le _, rfl, ⟨by rw [ch_zero, Nat.mul_one]; exact HO.out⟩, HB⟩
      case round =>
        clear HO HB
        obtain ⟨k, rfl, hk, rfl, HO, HB⟩ := hrel
        obtain ⟨ad, rfl, hx⟩ := Kd.at_int (Kd.C_below X.out HB.out) (i : Int) (Int.natCast_nonneg i) (Int.ofNat_lt.2 HI.out)
        rw [ints_nat E.out, HXE.out, Int.toNat_natCast] at hx
        have hil : i < l.length := HI.out
        by_cases hlk : k < x
        · have d1 : decide ((k : Int) + 1 ≤ (x : Int)) = true := decide_eq_true (by omega)
          have m1 := Aside0.mk (show IntKind.u64.wrap (wrap64 ((s : Int) + (k : Int) + 1)) = ((s + (k + 1) : Nat) : Int) by have := hsx.out; rw [← Int.natCast_add, Big.next_nat (i := s + k) (n := 64) (by omega) (by decide), Big.wrap_nat (by omega)]; rfl)
          have m2 := Aside0.mk (show IntKind.u64.wrap ((k : Int) + 1) = ((k + 1 : Nat) : Int) from Big.wrap_nat (x := k + 1) (by have := hsx.out; omega))
          have m3 := Aside0.mk (show wrap64 ((s : Int) + (k : Int) + 1) = ((s + (k + 1) : Nat) : Int) by have := hsx.out; rw [← Int.natCast_add, Big.next_nat (i := s + k) (n := 64) (by omega) (by decide)]; rfl)
          have m4 := Aside0.mk (show wrap64 ((k : Int) + 1 + 1) = ((k + 1 + 1 : Nat) : Int) from Big.next_nat (i := k + 1) (n := 66) (by have := hsx.out; omega) (by decide))
          have m5 := Aside0.mk (show s + (k + 1) < Big.M by have := hsx.out; have h : Big.M = 4294967296 := rfl; omega)
          have m6 := Aside0.mk (show 1 + (s + k) ≤ 799999 by have := hsx.out; omega)
          have m7 := Aside0.mk (show k + 1 ≤ 1000 by have := hsx.out; omega)
          have HK := Aside0.mk hlk
          clear hlk hk
          go_wp2_with (first
            | (go_at_call 38; (with_reducible refine (times_c (k := s + (k + 1)) HO.out m1.out m5.out (Nat.le_trans m6.out (by decide))).mono ?_); rintro e w5 ⟨v5, rfl, h5, hb5⟩; have H5 := Aside0.mk h5; have HB5 := Aside0.mk (below_then HB.out HB.out.size hb5); clear h5 hb5)
            | (go_at_call 39; (with_reducible refine (over_c (k := k + 1) H5.out m2.out (Nat.succ_pos k) m7.out (Nat.succ_le_succ m6.out)).mono ?_); rintro e w6 ⟨v6, rfl, h6, hb6⟩; have H6 := Aside0.mk h6; have HB6 := Aside0.mk (below_then HB5.out HB5.out.size hb6); clear h6 hb6))
          go_roundw
          case rel => exact ⟨k + 1, by rw [m4.out], HK.out, by rw [m3.out], ⟨by rw [← ch_div]; exact H6.out⟩, HB6⟩
          case measure => rw [m4.out]; exact nat_dec1 HK.out
        · have hkx : k = x := Nat.le_antisymm hk (Nat.le_of_not_lt hlk)
          have d1 : decide ((k : Int) + 1 ≤ (x : Int)) = false := decide_eq_false (by omega)
          subst hkx
          clear hlk hk
          go_wp2_with fail
          go_roundw
          case rel => exact ⟨i + 1, by rw [hwi.out], HI.out, by rw [sum_next (by rw [← LN.out]; exact HI.out) HXE.out, HSS.out], ⟨_, by rw [sum_next (by rw [← LN.out]; exact HI.out) HXE.out, HSS.out]; exact HO.out, by rw [sum_next (by rw [← LN.out]; exact HI.out) HXE.out, HSS.out, Nat.mul_assoc, ← mc_next (by rw [← LN.out]; exact HI.out) HXE.out]; exact HP.out, HB.out⟩⟩
          case measure => rw [hwi.out]; exact nat_dec HI.out
    · have hil : i = l.length := Nat.le_antisymm hi (Nat.le_of_not_lt hlt)
      have HD : Aside0 (n = mc L) := ⟨by
        have := HP.out
        rw [hil, LN.out, List.drop_length, mcA, Nat.mul_one] at this
        exact this⟩
      have HE := Aside0.mk (show 1 + s ≤ 400 by have := hs64.out; omega)
      go_wp2_with fail
      go_ret
      exact ⟨_, rfl, by rw [← HD.out]; exact HO.out.mono HE.out, HB.out⟩
end Go.Proofs.Ytohpboblmmbjnaa.P
/- Len, Length and choices of the document's spaces. -/
namespace Go.Proofs.Ytohpboblmmbjnaa.P
open Go Go.RowKit Go.Proofs.YtohpboblmmbjnaaW.PrintWords Go.Proofs.YtohpboblmmbjnaaW.PrintLast Go.Proofs.YtohpboblmmbjnaaW.PrintMore Go.Proofs.Odo
/-- The lists that a space of a kind has, from a place on. -/
def cntV (kd : Int) (L : List Nat) (a : Nat) : Nat := if kd = 1 then prod (L.drop a) else mc L
structure FitL (kd : Int) (L : List Nat) : Prop where
  p : kd = 1 → ∀ x ∈ L, x < 9223372036854775808
  w : kd ≠ 1 → L.sum ≤ 64
  n : L.length ≤ 64
theorem count_c {w : World} {v : Value} {kd : Int} {l0 l : List Int} {L : List Nat} {A : Option Addr} {c a : Nat} {ai : Int} (hs : RefS w v kd l0) (hl : Kd.C (Kd.int .i64) w A l.length l) (hc : l.length ≤ c) (e : l = ints L) (F : FitL kd L) (ha : a ≤ L.length) (hi : ai = (a : Int)) :
    Calls Try.prog 28 #[v, .slice A l.length c, .int .i64 ai] w fun e W' => ∃ v', e = .returned v' ∧ BigC W' v' (cntV kd L a) 400 ∧ Below w.heap.size w W' := by
  subst hi
  unfold cntV
  by_cases h : kd = 1
  · subst h
    rw [if_pos rfl]
    exact countp_c hs hl hc e (F.p rfl) F.n ha
  · rw [if_neg h]
    exact countw_c hs h hl hc e (F.w h) F.n
theorem drawn_below {w W : World} (h : Drawn0 w W) : Below w.heap.size w W := by
  obtain ⟨n, rfl⟩ := h.out
  exact pw_below_drewN (Below.refl _ _) n
set_option maxHeartbeats 2000000 in
set_option maxRecDepth 100000 in
theorem rlen_c {w : World} {v : Value} {kd : Int} {L : List Nat} {n : Int} {b : Bool} (hs : RefS w v kd (ints L)) (F : FitL kd L) (hn : Big.wordR (cntV kd L 0) = (n, b)) :
    Calls Try.prog 10 #[v] w fun e W' => e = .returned (.tuple #[.int .u64 n, .int .i64 (if b = true then 0 else 30)]) ∧ Below w.heap.size w W' := by
  have HS := Aside0.mk hs
  obtain ⟨g, A0, c0, rfl, b0, hC, hc0⟩ := hs
  obtain ⟨x0, x1, _, _⟩ := blkA2 b0
  have HC := Aside0.mk hC
  have HL := Aside0.mk hc0
  have HF := Aside0.mk F
  have HN := Aside0.mk hn
  have hz : b = false → n = 0 := fun h => by
    unfold Big.wordR at hn
    split at hn
    · cases hn; cases h
    · cases hn; rfl
  have HZ := Aside0.mk hz
  have H0 := Aside0.mk (show (0 : Int) = ((0 : Nat) : Int) from rfl)
  clear hn hz hC hc0 F b0
  cases b with
  | true =>
    go_enter Try.func10, Try.ntmps10
    go_wp2_with (first
      | (go_at_call 28; (with_reducible refine (count_c (a := 0) HS.out HC.out HL.out rfl HF.out (Nat.zero_le _) H0.out).mono ?_); rintro e w1 ⟨v1, rfl, h1, hb1⟩; have H1 := Aside0.mk h1; have HB1 := Aside0.mk hb1; clear h1 hb1)
      | (go_at_call 27; (with_reducible refine (word_c H1.out (by decide)).mono ?_); rw [HN.out]; rintro e w2 ⟨rfl, h2⟩; have HB2 := Aside0.mk (below_then HB1.out HB1.out.size (drawn_below h2)); clear h2))
    go_ret2
    exact ⟨rfl, HB2.out⟩
  | false =>
    obtain rfl := HZ.out rfl
    go_enter Try.func10, Try.ntmps10
    go_wp2_with (first
      | (go_at_call 28; (with_reducible refine (count_c (a := 0) HS.out HC.out HL.out rfl HF.out (Nat.zero_le _) H0.out).mono ?_); rintro e w1 ⟨v1, rfl, h1, hb1⟩; have H1 := Aside0.mk h1; have HB1 := Aside0.mk hb1; clear h1 hb1)
      | (go_at_call 27; (with_reducible refine (word_c H1.out (by decide)).mono ?_); rw [HN.out]; rintro e w2 ⟨rfl, h2⟩; have HB2 := Aside0.mk (below_then HB1.out HB1.out.size (drawn_below h2)); clear h2))
    go_ret2
    exact ⟨rfl, HB2.out⟩
def lenV (kd : Int) (L : List Nat) : Nat := if kd = 1 then L.length else L.sum
set_option maxHeartbeats 2000000 in
set_option maxRecDepth 100000 in
theorem rlength_c {w : World} {v : Value} {kd : Int} {L : List Nat} (hs : RefS w v kd (ints L)) (F : FitL kd L) : Calls Try.prog 29 #[v] w fun e W' => e = .returned (.int .i64 ((lenV kd L : Nat) : Int)) ∧ Below w.heap.size w W' := by
  have HSS := Aside0.mk hs
  obtain ⟨g, A0, c0, rfl, b0, hC, hc0⟩ := hs
  obtain ⟨x0, x1, _, _⟩ := blkA2 b0
  have HC := Aside0.mk hC
  have HF := Aside0.mk F
  clear hC hc0 F b0
  unfold lenV
  by_cases hk : kd = 1
  · subst hk
    rw [if_pos rfl]
    go_enter Try.func29, Try.ntmps29
    go_wp2_with fail
    go_ret
    exact ⟨by rw [ints_length]; rfl, Below.refl _ _⟩
  · rw [if_neg hk]
    have hk1 : (kd == 1) = false := beq_eq_false_iff_ne.2 hk
    have HK := Aside0.mk hk
    clear hk
    go_enter Try.func29, Try.ntmps29
    go_wp2_with fail
    clear hk1 x0 x1
    go_loopw [3, 4] (fun vn vi W => ∃ i : Nat, vi = .int .i64 i ∧ i ≤ L.length ∧ vn = .int .i64 (((L.take i).sum : Nat) : Int) ∧ Aside0 (RefS W (.pointer (some ⟨g, 0, none⟩)) kd (ints L)) ∧ Aside0 (Below w.heap.size w W)) (fun _ vi _ => L.length - (intOf vi).toNat)
    case atStart => exact ⟨0, rfl, Nat.zero_le _, rfl, HSS, ⟨Below.refl _ _⟩⟩
    case round =>
      clear HSS HC
      obtain ⟨i, rfl, hi, rfl, HR, HB⟩ := hrel
      obtain ⟨g', A1, c1, e1, b1, hC, hc1⟩ := HR.out
      cases e1
      obtain ⟨x0, x1, _, _⟩ := blkA2 b1
      have HC := Aside0.mk hC
      clear hC hc1 b1
      by_cases hlt : i < L.length
      · have hii : i < (ints L).length := by rw [ints_length]; exact hlt
        obtain ⟨ad, rfl, hx⟩ := Kd.at_int HC.out (i : Int) (Int.natCast_nonneg i) (Int.ofNat_lt.2 hii)
        obtain ⟨x, hxe⟩ : ∃ x, L.getD i 0 = x := ⟨_, rfl⟩
        rw [rd_ints, hxe, Int.toNat_natCast] at hx
        obtain ⟨s, hs⟩ : ∃ s, (L.take i).sum = s := ⟨_, rfl⟩
        have hn := sum_next hlt hxe
        rw [hs] at hn
        have HNX := Aside0.mk hn
        have HI := Aside0.mk hlt
        have hd := Aside0.mk (show wrap64 ((s : Int) + (x : Int)) = ((s + x : Nat) : Int) by have h1 := take_sum_le L (i + 1); have h2 := HF.out.w HK.out; rw [hn] at h1; unfold wrap64; omega)
        have hwi := Aside0.mk (Big.next_nat hlt (Nat.le_trans HF.out.n (by decide)))
        simp only [hs]
        clear hs hn hxe hlt
        go_wp2_with fail
        go_roundw
        case rel => exact ⟨i + 1, by rw [hwi.out], HI.out, by rw [HNX.out, hd.out], HR, HB⟩
        case measure => rw [hwi.out]; exact nat_dec HI.out
      · have hil : i = L.length := Nat.le_antisymm hi (Nat.le_of_not_lt hlt)
        have hii : ¬ i < (ints L).length := by rw [ints_length]; exact hlt
        have HE : Aside0 ((L.take i).sum = L.sum) := ⟨by rw [hil, List.take_length]⟩
        clear hil hlt hi
        go_wp2_with fail
        go_ret
        exact ⟨by rw [HE.out]; rfl, HB.out⟩
theorem rchoices_c {w : World} {v : Value} {kd : Int} {l : List Int} {i : Int} (hs : RefS w v kd l) (hk : kd ≠ 1) : Calls Try.prog 30 #[v, .int .i64 i] w fun e W' => e = .returned (.int .i64 (l.length : Int)) ∧ W' = w := by
  obtain ⟨g, A0, c0, rfl, b0, hC, hc0⟩ := hs
  obtain ⟨x0, x1, _, _⟩ := blkA2 b0
  have hk1 : (kd == 1) = false := beq_eq_false_iff_ne.2 hk
  clear hC hc0 b0 hk
  go_enter Try.func30, Try.ntmps30
  go_wp2_with fail
  go_ret
  exact ⟨rfl, rfl⟩
end Go.Proofs.Ytohpboblmmbjnaa.P
