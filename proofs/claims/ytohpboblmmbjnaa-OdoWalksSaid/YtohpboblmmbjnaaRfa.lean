/- The document's spaces in memory, and its great numbers. -/
import Derived.Test.YtohpboblmmbjnaaBigs
import Derived.Test.YtohpboblmmbjnaaP0
namespace Go.Proofs.Ytohpboblmmbjnaa.P
open Go Go.RowKit Go.Proofs.YtohpboblmmbjnaaW.PrintWords Go.Proofs.YtohpboblmmbjnaaW.PrintLast Go.Proofs.YtohpboblmmbjnaaW.PrintMore Go.Proofs.Odo
/-- A space of the document's. -/
def RefS (w : World) (v : Value) (kd : Int) (l : List Int) : Prop := ∃ (g : Nat) (A : Option Addr) (c : Nat), v = .pointer (some ⟨g, 0, none⟩) ∧ w.heap[g]? = some (.cells #[.int .i64 kd, .slice A l.length c] 74 (0, 0)) ∧ Kd.C (Kd.int .i64) w A l.length l ∧ l.length ≤ c
theorem RefS.below {w W : World} {v : Value} {kd : Int} {l : List Int} (h : RefS w v kd l) (hb : Below w.heap.size w W) : RefS W v kd l := by
  obtain ⟨g, A, c, e, h1, h2, h3⟩ := h
  exact ⟨g, A, c, e, (hb.block g (blk_lt h1)).trans h1, Kd.C_below h2 hb, h3⟩
/-- A great number that is read. -/
def BigC (W : World) (v : Value) (n N : Nat) : Prop := ∃ (A : Option Addr) (c : Nat) (r : List Nat), v = .slice A (ints r).length c ∧ Big.Good r ∧ Big.val r = n ∧ r.length ≤ N ∧ Kd.C (Kd.int .u64) W A (ints r).length (ints r) ∧ (ints r).length ≤ c
theorem BigC.below {w W : World} {v : Value} {n N : Nat} (h : BigC w v n N) (hb : Below w.heap.size w W) : BigC W v n N := by
  obtain ⟨A, c, r, e, h1, h2, h3, h4, h5⟩ := h
  exact ⟨A, c, r, e, h1, h2, h3, Kd.C_below h4 hb, h5⟩
theorem BigC.of {W : World} {B e : Nat} {ok : Nat → Prop} {v : Value} {r : List Nat} {n N : Nat} (h : Kd.R (Kd.int .u64) e W B ok v (ints r)) (h1 : Big.Good r) (h2 : Big.val r = n) (h3 : r.length ≤ N) : BigC W v n N := by
  obtain ⟨A, c, e, l, k⟩ := Kd.R_reads h
  exact ⟨A, c, r, e, h1, h2, h3, k, l⟩
theorem BigC.mono {W : World} {v : Value} {n N N' : Nat} (h : BigC W v n N) (hN : N ≤ N') : BigC W v n N' := by
  obtain ⟨A, c, r, e, h1, h2, h3, h4, h5⟩ := h
  exact ⟨A, c, r, e, h1, h2, Nat.le_trans h3 hN, h4, h5⟩
theorem times_c {W : World} {v : Value} {n N : Nat} {m : Int} {k : Nat} (h : BigC W v n N) (hm : m = (k : Int)) (hk : k < Big.M) (hN : N ≤ 800000) : Calls Try.prog 38 #[v, .int .u64 m] W fun e W' => ∃ v', e = .returned v' ∧ BigC W' v' (n * k) (N + 1) ∧ Below W.heap.size W W' := by
  obtain ⟨A, c, r, rfl, h1, h2, h3, h4, h5⟩ := h
  subst hm
  obtain ⟨q, q1, q2, q3, q4⟩ := Big.times_is h1 hk (by omega)
  obtain ⟨K, hK⟩ := q4.rounds
  refine (weirref03_times.calls K A c (ints r) k (ints q) W h4 h5 hK).mono ?_
  rintro e W' ⟨v', rfl, hR, hb⟩
  exact ⟨v', rfl, .of hR q1 (by rw [q2, h2]) (by omega), hb⟩
theorem over_c {W : World} {v : Value} {n N : Nat} {m : Int} {k : Nat} (h : BigC W v n N) (hm : m = (k : Int)) (hk : 0 < k) (hk2 : k ≤ 1000) (hN : N ≤ 800000) : Calls Try.prog 39 #[v, .int .u64 m] W fun e W' => ∃ v', e = .returned v' ∧ BigC W' v' (n / k) N ∧ Below W.heap.size W W' := by
  obtain ⟨A, c, r, rfl, h1, h2, h3, h4, h5⟩ := h
  subst hm
  obtain ⟨q, q1, q2, q3, q4⟩ := Big.over_is h1 hk hk2 (by omega)
  obtain ⟨K, hK⟩ := q4.rounds
  refine (weirref03_over.calls K A c (ints r) k (ints q) W h4 h5 hK).mono ?_
  rintro e W' ⟨v', rfl, hR, hb⟩
  exact ⟨v', rfl, .of hR q1 (by rw [q2, h2]) (by omega), hb⟩
theorem add_c {W : World} {v u : Value} {n m N : Nat} (h : BigC W v n N) (h' : BigC W u m N) (hN : N ≤ 800000) : Calls Try.prog 37 #[v, u] W fun e W' => ∃ v', e = .returned v' ∧ BigC W' v' (n + m) (N + 1) ∧ Below W.heap.size W W' := by
  obtain ⟨A, c, r, rfl, h1, h2, h3, h4, h5⟩ := h
  obtain ⟨A', c', r', rfl, h1', h2', h3', h4', h5'⟩ := h'
  obtain ⟨q, q1, q2, q3, q4⟩ := Big.add_is h1 h1' h3 h3' (by omega)
  obtain ⟨K, hK⟩ := q4.rounds
  refine (weirref03_add.calls K A c (ints r) A' c' (ints r') (ints q) W h4 h5 h4' h5' hK).mono ?_
  rintro e W' ⟨v', rfl, hR, hb⟩
  exact ⟨v', rfl, .of hR q1 (by rw [q2, h2, h2']) q3, hb⟩
theorem word_c {W : World} {v : Value} {n N : Nat} (h : BigC W v n N) (hN : N ≤ 800000) : Calls Try.prog 27 #[v] W fun e W' => e = .returned (.tuple #[.int .u64 (Big.wordR n).1, .bool (Big.wordR n).2]) ∧ Drawn0 W W' := by
  obtain ⟨A, c, r, rfl, h1, h2, h3, h4, h5⟩ := h
  subst h2
  obtain ⟨K, hK⟩ := (Big.word_is h1 (by omega)).rounds
  exact weirref03_word.calls K A c (ints r) _ _ W h4 h5 hK
theorem ints_nat {l : List Int} {L : List Nat} (e : l = ints L) (i : Nat) : rd l (i : Int) = ((L.getD i 0 : Nat) : Int) := by rw [e, rd_ints]
/-- Two words of a number. -/
theorem two_words (b n : Nat) : b * (n % Big.M) + Big.M * (b * (n / Big.M)) = b * n := by
  have := Nat.div_add_mod n Big.M
  rw [← Nat.mul_assoc, Nat.mul_comm Big.M b, Nat.mul_assoc, ← Nat.mul_add, Nat.add_comm, this]
theorem getD_prod {L : List Nat} {i : Nat} (h : i < L.length) : prod (L.drop i) = L.getD i 0 * prod (L.drop (i + 1)) := by
  rw [List.drop_eq_getElem_cons h, prod, List.getD_eq_getElem?_getD, List.getElem?_eq_getElem h]; rfl
theorem nat_dec {n j : Nat} (h : j < n) : n - (intOf (.int .i64 ((j + 1 : Nat) : Int))).toNat < n - (intOf (.int .i64 (j : Int))).toNat := by
  show n - (((j + 1 : Nat) : Int)).toNat < n - ((j : Int)).toNat
  omega
theorem getD_small {L : List Nat} (h : ∀ x ∈ L, x < 9223372036854775808) (i : Nat) : L.getD i 0 < 9223372036854775808 := by
  rw [List.getD_eq_getElem?_getD]
  cases hi : L[i]? with
  | none => decide
  | some x => exact h x (List.mem_of_getElem? hi)
set_option maxHeartbeats 4000000 in
set_option maxRecDepth 100000 in
/-- How many a product has, from a place on. -/
theorem countp_c {w : World} {v : Value} {l0 l : List Int} {L : List Nat} {A : Option Addr} {c a : Nat} (hs : RefS w v 1 l0) (hl : Kd.C (Kd.int .i64) w A l.length l) (hc : l.length ≤ c) (e : l = ints L) (hL : ∀ x ∈ L, x < 9223372036854775808) (hn : L.length ≤ 64) (ha : a ≤ L.length) :
    Calls Try.prog 28 #[v, .slice A l.length c, .int .i64 a] w fun e W' => ∃ v', e = .returned v' ∧ BigC W' v' (prod (L.drop a)) 400 ∧ Below w.heap.size w W' := by
  obtain ⟨g, A0, c0, rfl, b0, _, _⟩ := hs
  obtain ⟨x0, x1, _, _⟩ := blkA2 b0
  have B0 := Aside0.mk b0
  have X := Aside0.mk hl
  have E := Aside0.mk e
  have HL := Aside0.mk hL
  have HN := Aside0.mk hn
  have HA := Aside0.mk ha
  have hlen : l.length = L.length := by rw [e, ints_length]
  have LN := Aside0.mk hlen
  clear hl e hL hn ha b0 hlen
  go_enter Try.func28, Try.ntmps28
  go_upto_region 2 with ((with_reducible refine gate_dst (N := 13) rfl ?_); refine Kd.R_lit (Kd.int .u64) _ 25 ?hg (N := 13) ?hd (xs := ([1] : List Int)) (inner := [.int .u64 1]) (ok := fun _ => True) (okp := fun _ => True) ?hr ?hp (fun _ hk => hk) trivial (Below.refl _ _) (Nat.le_refl _) (by simp) ?_; (case hd => rfl); (case hg => rfl); (case hr => first | (go_simp; done) | (go_simp; rfl)); (case hp => exact (Reps.one (show Kd.M (Kd.int .u64) _ _ _ 1 [.int .u64 1] from rfl) (Reps.none _ _))); intro v1 w1 ho hb _ _; have HO := Aside0.mk (BigC.of (r := [1]) (n := 1) (N := 1) ho (Big.good_one (by decide)) (by simp [Big.val]) (Nat.le_refl _)); have HB := Aside0.mk hb; have hz0 := pw_cell_below hb x0; clear ho hb x0 x1)
  have HZ0 := Aside0.mk hz0
  go_wp2_with fail
  go_loopw [7, 8] (fun vb vi W => ∃ i : Nat, vi = .int .i64 i ∧ i ≤ l.length ∧ Aside0 (∃ n N, BigC W vb n N ∧ n * prod (L.drop i) = prod (L.drop a) ∧ N ≤ 3 * i + 1 ∧ Below w.heap.size w W)) (fun _ vi _ => l.length - (intOf vi).toNat)
  case atStart => exact ⟨a, rfl, by rw [LN.out]; exact HA.out, ⟨1, 1, HO.out, Nat.one_mul _, by omega, HB.out⟩⟩
  case round =>
    clear HO HB HZ0 hz0
    obtain ⟨i, rfl, hi, HX⟩ := hrel
    obtain ⟨n, N, hB, hP, hN, hW⟩ := HX.out
    have HO := Aside0.mk hB
    have HP := Aside0.mk hP
    have HN3 := Aside0.mk hN
    have HB := Aside0.mk hW
    clear HX hB hP hN hW
    by_cases hlt : i < l.length
    · obtain ⟨ad, rfl, hx⟩ := Kd.at_int (Kd.C_below X.out HB.out) (i : Int) (Int.natCast_nonneg i) (Int.ofNat_lt.2 hlt)
      obtain ⟨x, hxe⟩ : ∃ x, L.getD i 0 = x := ⟨_, rfl⟩
      rw [ints_nat E.out, hxe, Int.toNat_natCast] at hx
      have hxl : x < 9223372036854775808 := by rw [← hxe]; exact getD_small HL.out i
      have hw : IntKind.u64.wrap (x : Int) = (x : Int) := Big.wrap_nat (by omega)
      have HI := Aside0.mk hlt
      have HXE := Aside0.mk hxe
      have q1 := Aside0.mk (Big.mask_nat (x := x) (by omega))
      have q2 := Aside0.mk (Big.div_nat x)
      have q3 := Aside0.mk (show x / Big.M < Big.M from Nat.div_lt_of_lt_mul (Nat.lt_trans hxl (by decide)))
      have q4 := Aside0.mk (show N ≤ 800000 - 2 by have := HN3.out; have := HN.out; have := LN.out; omega)
      have q5 := Aside0.mk (show N + 2 ≤ 800000 by have := q4.out; omega)
      have q6 := Aside0.mk (show N + 1 ≤ N + 2 from Nat.le_succ _)
      have hwi := Aside0.mk (Big.next_nat hlt (by have := HN.out; have := LN.out; omega))
      clear hxl hxe
      go_wp2_with (first
        | (go_at_call 38; (with_reducible refine (times_c (k := x % Big.M) HO.out q1.out (Nat.mod_lt _ Big.M_pos) (Nat.le_trans q4.out (by decide))).mono ?_); rintro e w5 ⟨v5, rfl, h5, hb5⟩; have H5 := Aside0.mk h5; have HO5 := Aside0.mk (HO.out.below hb5); have HB5 := Aside0.mk (below_then HB.out HB.out.size hb5); clear h5 hb5)
        | ((with_reducible refine gate_dst (N := 35) rfl ?_); refine Kd.R_lit (Kd.int .u64) _ 25 ?hg (N := 35) ?hd (xs := ([0] : List Int)) (inner := [.int .u64 0]) (ok := fun _ => True) (okp := fun _ => True) ?hr ?hp (fun _ hk => hk) trivial (Below.refl _ _) (Nat.le_refl _) (by simp) ?_; (case hd => rfl); (case hg => rfl); (case hr => first | (go_simp; done) | (go_simp; rfl)); (case hp => exact (Reps.one (show Kd.M (Kd.int .u64) _ _ _ 0 [.int .u64 0] from rfl) (Reps.none _ _))); intro v6 w6 ho hb _ _; have H6 := Aside0.mk ho; have B6 := Aside0.mk hb; have HO6 := Aside0.mk (HO5.out.below hb); have H56 := Aside0.mk (H5.out.below hb); have HB6 := Aside0.mk (below_then HB5.out HB5.out.size hb); clear ho hb)
        | (go_at_call 38; (with_reducible refine (times_c (k := x / Big.M) HO6.out q2.out q3.out (Nat.le_trans q4.out (by decide))).mono ?_); rintro e w7 ⟨v7, rfl, h7, hb7⟩; obtain ⟨A7, c7, r7, rfl, g1, g2, g3, g4, g5⟩ := h7; have G1 := Aside0.mk g1; have G2 := Aside0.mk g2; have G3 := Aside0.mk g3; have G4 := Aside0.mk g4; have H57 := Aside0.mk (H56.out.below hb7); have H67 := Aside0.mk (R_mv H6.out (fun k hk hlt => ⟨hb7.block k hlt, trivial⟩)); have B7 := Aside0.mk (below_then B6.out B6.out.size hb7); have HB7 := Aside0.mk (below_then HB6.out HB6.out.size hb7); clear hb7 g1 g2 g3 g4 g5)
        | ((with_reducible refine gate_builtin (b := .append) (xs := #[.tmp 35, .tmp 39]) rfl ?_); at_builtin; refine Kd.R_append_rows (Kd.int .u64) (w0 := w5) w5.heap.size rfl (.tmp 35) (.tmp 39) 71 25 (.int .u64 0) 8 rfl Try.underlying71 info25 rfl (by decide) (by decide) v6 [0] (ints r7) _ _ _ (fun _ => True) (fun _ => False) rfl rfl H67.out G4.out (fun _ _ h => h) (fun _ h => h.elim) (fun _ _ => trivial) B7.out B7.out.size ?aL ?_; (case aL => rw [ints_length]; have := G3.out; have := q4.out; simp only [List.length_singleton]; omega); intro v8 w8 ho hb _ _; have H8 := Aside0.mk (BigC.of (r := 0 :: r7) (n := Big.M * (n * (x / Big.M))) (N := N + 2) ho (Big.good_cons Big.M_pos G1.out) (by rw [Big.val, G2.out, Nat.zero_add]) (by have := G3.out; rw [List.length_cons]; omega)); have H58 := Aside0.mk (H5.out.below hb); have HB8 := Aside0.mk (below_then HB5.out HB5.out.size hb); clear ho hb)
        | (go_at_call 37; (with_reducible refine (add_c (N := N + 2) (H58.out.mono q6.out) H8.out q5.out).mono ?_); rintro e w9 ⟨v9, rfl, h9, hb9⟩; have H9 := Aside0.mk h9; have HB9 := Aside0.mk (below_then HB8.out HB8.out.size hb9); clear h9 hb9))
      go_roundw
      case rel => exact ⟨i + 1, by rw [hwi.out], HI.out, ⟨_, _, H9.out, by rw [two_words, Nat.mul_assoc, ← HXE.out, ← getD_prod (by rw [← LN.out]; exact HI.out)]; exact HP.out, by have := HN3.out; omega, HB9.out⟩⟩
      case measure => rw [hwi.out]; exact nat_dec HI.out
    · have hil : i = l.length := Nat.le_antisymm hi (Nat.le_of_not_lt hlt)
      have HD : Aside0 (n = prod (L.drop a)) := ⟨by
        have := HP.out
        rw [hil, LN.out, List.drop_length, prod, Nat.mul_one] at this
        exact this⟩
      have HE := Aside0.mk (show N ≤ 400 by have := HN3.out; have := HN.out; have := LN.out; omega)
      go_wp2_with fail
      go_ret
      exact ⟨_, rfl, by rw [← HD.out]; exact HO.out.mono HE.out, HB.out⟩
end Go.Proofs.Ytohpboblmmbjnaa.P
/- How many weaves there are, by the document. -/
namespace Go.Proofs.Ytohpboblmmbjnaa.P
open Go Go.RowKit Go.Proofs.YtohpboblmmbjnaaW.PrintWords Go.Proofs.YtohpboblmmbjnaaW.PrintLast Go.Proofs.YtohpboblmmbjnaaW.PrintMore Go.Proofs.Odo
theorem sum_next {L : List Nat} {i x : Nat} (h : i < L.length) (e : L.getD i 0 = x) : (L.take (i + 1)).sum = (L.take i).sum + x := by
  rw [List.take_add_one, List.sum_append, ← e, List.getD_eq_getElem?_getD, List.getElem?_eq_getElem h]
  simp
theorem mc_next {L : List Nat} {i x s : Nat} (h : i < L.length) (e : L.getD i 0 = x) : mcA s (L.drop i) = ch (s + x) x * mcA (s + x) (L.drop (i + 1)) := by
  have e' : L[i] = x := by rw [← e, List.getD_eq_getElem?_getD, List.getElem?_eq_getElem h]; rfl
  rw [List.drop_eq_getElem_cons h, mcA, e']
theorem ch_div {B s k : Nat} : B * ch (s + k) k * (s + (k + 1)) / (k + 1) = B * ch (s + (k + 1)) (k + 1) := by
  rw [Nat.mul_assoc, Nat.mul_comm (ch _ _), ← ch_step, ← Nat.mul_assoc, Nat.mul_comm B, Nat.mul_assoc]
  exact Nat.mul_div_cancel_left _ (Nat.succ_pos k)
theorem take_sum_le (L : List Nat) (i : Nat) : (L.take i).sum ≤ L.sum := by
  have : L.sum = (L.take i).sum + (L.drop i).sum := by rw [← List.sum_append, List.take_append_drop]
  omega
theorem nat_dec1 {n j : Nat} (h : j < n) : (n + 1) - (intOf (.int .i64 ((j + 1 + 1 : Nat) : Int))).toNat < (n + 1) - (intOf (.int .i64 ((j + 1 : Nat) : Int))).toNat := by
  show (n + 1) - (((j + 1 + 1 : Nat) : Int)).toNat < (n + 1) - (((j + 1 : Nat) : Int)).toNat
  omega
set_option maxHeartbeats 4000000 in
set_option maxRecDepth 100000 in
theorem countw_c {w : World} {v : Value} {kd : Int} {l0 l : List Int} {L : List Nat} {A : Option Addr} {c : Nat} {a : Int} (hs : RefS w v kd l0) (hk : kd ≠ 1) (hl : Kd.C (Kd.int .i64) w A l.length l) (hc : l.length ≤ c) (e : l = ints L) (hS : L.sum ≤ 64) (hn : L.length ≤ 64) :
    Calls Try.prog 28 #[v, .slice A l.length c, .int .i64 a] w fun e W' => ∃ v', e = .returned v' ∧ BigC W' v' (mc L) 400 ∧ Below w.heap.size w W' := by
  obtain ⟨g, A0, c0, rfl, b0, _, _⟩ := hs
  obtain ⟨x0, x1, _, _⟩ := blkA2 b0
  have X := Aside0.mk hl
  have E := Aside0.mk e
  have HS := Aside0.mk hS
  have HN := Aside0.mk hn
  have hk1 : (kd == 1) = false := beq_eq_false_iff_ne.2 hk
  have hlen : l.length = L.length := by rw [e, ints_length]
  have LN := Aside0.mk hlen
  clear hl e hS hn b0 hlen hk
  go_enter Try.func28, Try.ntmps28
  go_upto_region 2 with ((with_reducible refine gate_dst (N := 13) rfl ?_); refine Kd.R_lit (Kd.int .u64) _ 25 ?hg (N := 13) ?hd (xs := ([1] : List Int)) (inner := [.int .u64 1]) (ok := fun _ => True) (okp := fun _ => True) ?hr ?hp (fun _ hk => hk) trivial (Below.refl _ _) (Nat.le_refl _) (by simp) ?_; (case hd => rfl); (case hg => rfl); (case hr => first | (go_simp; done) | (go_simp; rfl)); (case hp => exact (Reps.one (show Kd.M (Kd.int .u64) _ _ _ 1 [.int .u64 1] from rfl) (Reps.none _ _))); intro v1 w1 ho hb _ _; have HO := Aside0.mk (BigC.of (r := [1]) (n := 1) (N := 1) ho (Big.good_one (by decide)) (by simp [Big.val]) (Nat.le_refl _)); have HB := Aside0.mk hb; have hz0 := pw_cell_below hb x0; clear ho hb x0 x1)
  go_wp2_with fail
  clear hz0 hk1
  go_loopw [7, 10, 11] (fun vb vn vi W => ∃ i : Nat, vi = .int .i64 i ∧ i ≤ l.length ∧ vn = .int .i64 (((L.take i).sum : Nat) : Int) ∧ Aside0 (∃ n, BigC W vb n (1 + (L.take i).sum) ∧ n * mcA (L.take i).sum (L.drop i) = mc L ∧ Below w.heap.size w W)) (fun _ _ vi _ => l.length - (intOf vi).toNat)
  case atStart => exact ⟨0, rfl, Nat.zero_le _, rfl, ⟨1, HO.out, Nat.one_mul _, HB.out⟩⟩
  case round =>
    clear HO HB
    obtain ⟨i, rfl, hi, rfl, HX⟩ := hrel
    obtain ⟨n, hB, hP, hW⟩ := HX.out
    have HO := Aside0.mk hB
    have HP := Aside0.mk hP
    have HB := Aside0.mk hW
    obtain ⟨s, hs⟩ : ∃ s, (L.take i).sum = s := ⟨_, rfl⟩
    have HSS := Aside0.mk hs
    rw [hs] at HO HP
    simp only [hs]
    have hs64 := Aside0.mk (show s ≤ 64 by rw [← hs]; exact Nat.le_trans (take_sum_le L i) HS.out)
    clear HX hB hP hW hs
    by_cases hlt : i < l.length
    · obtain ⟨x, hxe⟩ : ∃ x, L.getD i 0 = x := ⟨_, rfl⟩
      have HXE := Aside0.mk hxe
      have HI := Aside0.mk hlt
      have hiL : i < L.length := by rw [← LN.out]; exact hlt
      have hsx := Aside0.mk (show s + x ≤ 64 by rw [← HSS.out, ← sum_next hiL hxe]; exact Nat.le_trans (take_sum_le L _) HS.out)
      have hwi := Aside0.mk (Big.next_nat hlt (by have := HN.out; have := LN.out; omega))
      clear hxe hiL
      go_wp2_with fail
      clear hlt
      go_loopw [7, 10, 12] (fun vb vn vk W => ∃ k : Nat, vk = .int .i64 ((k + 1 : Nat) : Int) ∧ k ≤ x ∧ vn = .int .i64 ((s + k : Nat) : Int) ∧ Aside0 (BigC W vb (n * ch (s + k) k) (1 + (s + k))) ∧ Aside0 (Below w.heap.size w W)) (fun _ _ vk _ => (x + 1) - (intOf vk).toNat)
      case atStart => exact ⟨0, rfl, Nat.zero_le _, rfl, ⟨by rw [ch_zero, Nat.mul_one]; exact HO.out⟩, HB⟩
      case round =>
        clear HO HB
        obtain ⟨k, rfl, hk, rfl, HO, HB⟩ := hrel
        obtain ⟨ad, rfl, hx⟩ := Kd.at_int (Kd.C_below X.out HB.out) (i : Int) (Int.natCast_nonneg i) (Int.ofNat_lt.2 HI.out)
        rw [ints_nat E.out, HXE.out, Int.toNat_natCast] at hx
        have hil : i < l.length := HI.out
        by_cases hlk : k < x
        · have d1 : decide ((k : Int) + 1 ≤ (x : Int)) = true := decide_eq_true (by omega)
          have m1 := Aside0.mk (show IntKind.u64.wrap (wrap64 ((s : Int) + (k : Int) + 1)) = ((s + (k + 1) : Nat) : Int) by have := hsx.out; rw [← Int.natCast_add, Big.next_nat (i := s + k) (n := 64) (by omega) (by decide), Big.wrap_nat (by omega)]; rfl)
          have m2 := Aside0.mk (show IntKind.u64.wrap ((k : Int) + 1) = ((k + 1 : Nat) : Int) from Big.wrap_nat (x := k + 1) (by have := hsx.out; omega))
          have m3 := Aside0.mk (show wrap64 ((s : Int) + (k : Int) + 1) = ((s + (k + 1) : Nat) : Int) by have := hsx.out; rw [← Int.natCast_add, Big.next_nat (i := s + k) (n := 64) (by omega) (by decide)]; rfl)
          have m4 := Aside0.mk (show wrap64 ((k : Int) + 1 + 1) = ((k + 1 + 1 : Nat) : Int) from Big.next_nat (i := k + 1) (n := 66) (by have := hsx.out; omega) (by decide))
          have m5 := Aside0.mk (show s + (k + 1) < Big.M by have := hsx.out; have h : Big.M = 4294967296 := rfl; omega)
          have m6 := Aside0.mk (show 1 + (s + k) ≤ 799999 by have := hsx.out; omega)
          have m7 := Aside0.mk (show k + 1 ≤ 1000 by have := hsx.out; omega)
          have HK := Aside0.mk hlk
          clear hlk hk
          go_wp2_with (first
            | (go_at_call 38; (with_reducible refine (times_c (k := s + (k + 1)) HO.out m1.out m5.out (Nat.le_trans m6.out (by decide))).mono ?_); rintro e w5 ⟨v5, rfl, h5, hb5⟩; have H5 := Aside0.mk h5; have HB5 := Aside0.mk (below_then HB.out HB.out.size hb5); clear h5 hb5)
            | (go_at_call 39; (with_reducible refine (over_c (k := k + 1) H5.out m2.out (Nat.succ_pos k) m7.out (Nat.succ_le_succ m6.out)).mono ?_); rintro e w6 ⟨v6, rfl, h6, hb6⟩; have H6 := Aside0.mk h6; have HB6 := Aside0.mk (below_then HB5.out HB5.out.size hb6); clear h6 hb6))
          go_roundw
          case rel => exact ⟨k + 1, by rw [m4.out], HK.out, by rw [m3.out], ⟨by rw [← ch_div]; exact H6.out⟩, HB6⟩
          case measure => rw [m4.out]; exact nat_dec1 HK.out
        · have hkx : k = x := Nat.le_antisymm hk (Nat.le_of_not_lt hlk)
          have d1 : decide ((k : Int) + 1 ≤ (x : Int)) = false := decide_eq_false (by omega)
          subst hkx
          clear hlk hk
          go_wp2_with fail
          go_roundw
          case rel => exact ⟨i + 1, by rw [hwi.out], HI.out, by rw [sum_next (by rw [← LN.out]; exact HI.out) HXE.out, HSS.out], ⟨_, by rw [sum_next (by rw [← LN.out]; exact HI.out) HXE.out, HSS.out]; exact HO.out, by rw [sum_next (by rw [← LN.out]; exact HI.out) HXE.out, HSS.out, Nat.mul_assoc, ← mc_next (by rw [← LN.out]; exact HI.out) HXE.out]; exact HP.out, HB.out⟩⟩
          case measure => rw [hwi.out]; exact nat_dec HI.out
    · have hil : i = l.length := Nat.le_antisymm hi (Nat.le_of_not_lt hlt)
      have HD : Aside0 (n = mc L) := ⟨by
        have := HP.out
        rw [hil, LN.out, List.drop_length, mcA, Nat.mul_one] at this
        exact this⟩
      have HE := Aside0.mk (show 1 + s ≤ 400 by have := hs64.out; omega)
      go_wp2_with fail
      go_ret
      exact ⟨_, rfl, by rw [← HD.out]; exact HO.out.mono HE.out, HB.out⟩
end Go.Proofs.Ytohpboblmmbjnaa.P
/- Len, Length and choices of the document's spaces. -/
namespace Go.Proofs.Ytohpboblmmbjnaa.P
open Go Go.RowKit Go.Proofs.YtohpboblmmbjnaaW.PrintWords Go.Proofs.YtohpboblmmbjnaaW.PrintLast Go.Proofs.YtohpboblmmbjnaaW.PrintMore Go.Proofs.Odo
/-- The lists that a space of a kind has, from a place on. -/
def cntV (kd : Int) (L : List Nat) (a : Nat) : Nat := if kd = 1 then prod (L.drop a) else mc L
structure FitL (kd : Int) (L : List Nat) : Prop where
  p : kd = 1 → ∀ x ∈ L, x < 9223372036854775808
  w : kd ≠ 1 → L.sum ≤ 64
  n : L.length ≤ 64
theorem count_c {w : World} {v : Value} {kd : Int} {l0 l : List Int} {L : List Nat} {A : Option Addr} {c a : Nat} {ai : Int} (hs : RefS w v kd l0) (hl : Kd.C (Kd.int .i64) w A l.length l) (hc : l.length ≤ c) (e : l = ints L) (F : FitL kd L) (ha : a ≤ L.length) (hi : ai = (a : Int)) :
    Calls Try.prog 28 #[v, .slice A l.length c, .int .i64 ai] w fun e W' => ∃ v', e = .returned v' ∧ BigC W' v' (cntV kd L a) 400 ∧ Below w.heap.size w W' := by
  subst hi
  unfold cntV
  by_cases h : kd = 1
  · subst h
    rw [if_pos rfl]
    exact countp_c hs hl hc e (F.p rfl) F.n ha
  · rw [if_neg h]
    exact countw_c hs h hl hc e (F.w h) F.n
theorem drawn_below {w W : World} (h : Drawn0 w W) : Below w.heap.size w W := by
  obtain ⟨n, rfl⟩ := h.out
  exact pw_below_drewN (Below.refl _ _) n
set_option maxHeartbeats 2000000 in
set_option maxRecDepth 100000 in
theorem rlen_c {w : World} {v : Value} {kd : Int} {L : List Nat} {n : Int} {b : Bool} (hs : RefS w v kd (ints L)) (F : FitL kd L) (hn : Big.wordR (cntV kd L 0) = (n, b)) :
    Calls Try.prog 10 #[v] w fun e W' => e = .returned (.tuple #[.int .u64 n, .int .i64 (if b = true then 0 else 30)]) ∧ Below w.heap.size w W' := by
  have HS := Aside0.mk hs
  obtain ⟨g, A0, c0, rfl, b0, hC, hc0⟩ := hs
  obtain ⟨x0, x1, _, _⟩ := blkA2 b0
  have HC := Aside0.mk hC
  have HL := Aside0.mk hc0
  have HF := Aside0.mk F
  have HN := Aside0.mk hn
  have hz : b = false → n = 0 := fun h => by
    unfold Big.wordR at hn
    split at hn
    · cases hn; cases h
    · cases hn; rfl
  have HZ := Aside0.mk hz
  have H0 := Aside0.mk (show (0 : Int) = ((0 : Nat) : Int) from rfl)
  clear hn hz hC hc0 F b0
  cases b with
  | true =>
    go_enter Try.func10, Try.ntmps10
    go_wp2_with (first
      | (go_at_call 28; (with_reducible refine (count_c (a := 0) HS.out HC.out HL.out rfl HF.out (Nat.zero_le _) H0.out).mono ?_); rintro e w1 ⟨v1, rfl, h1, hb1⟩; have H1 := Aside0.mk h1; have HB1 := Aside0.mk hb1; clear h1 hb1)
      | (go_at_call 27; (with_reducible refine (word_c H1.out (by decide)).mono ?_); rw [HN.out]; rintro e w2 ⟨rfl, h2⟩; have HB2 := Aside0.mk (below_then HB1.out HB1.out.size (drawn_below h2)); clear h2))
    go_ret2
    exact ⟨rfl, HB2.out⟩
  | false =>
    obtain rfl := HZ.out rfl
    go_enter Try.func10, Try.ntmps10
    go_wp2_with (first
      | (go_at_call 28; (with_reducible refine (count_c (a := 0) HS.out HC.out HL.out rfl HF.out (Nat.zero_le _) H0.out).mono ?_); rintro e w1 ⟨v1, rfl, h1, hb1⟩; have H1 := Aside0.mk h1; have HB1 := Aside0.mk hb1; clear h1 hb1)
      | (go_at_call 27; (with_reducible refine (word_c H1.out (by decide)).mono ?_); rw [HN.out]; rintro e w2 ⟨rfl, h2⟩; have HB2 := Aside0.mk (below_then HB1.out HB1.out.size (drawn_below h2)); clear h2))
    go_ret2
    exact ⟨rfl, HB2.out⟩
def lenV (kd : Int) (L : List Nat) : Nat := if kd = 1 then L.length else L.sum
set_option maxHeartbeats 2000000 in
set_option maxRecDepth 100000 in
theorem rlength_c {w : World} {v : Value} {kd : Int} {L : List Nat} (hs : RefS w v kd (ints L)) (F : FitL kd L) : Calls Try.prog 29 #[v] w fun e W' => e = .returned (.int .i64 ((lenV kd L : Nat) : Int)) ∧ Below w.heap.size w W' := by
  have HSS := Aside0.mk hs
  obtain ⟨g, A0, c0, rfl, b0, hC, hc0⟩ := hs
  obtain ⟨x0, x1, _, _⟩ := blkA2 b0
  have HC := Aside0.mk hC
  have HF := Aside0.mk F
  clear hC hc0 F b0
  unfold lenV
  by_cases hk : kd = 1
  · subst hk
    rw [if_pos rfl]
    go_enter Try.func29, Try.ntmps29
    go_wp2_with fail
    go_ret
    exact ⟨by rw [ints_length]; rfl, Below.refl _ _⟩
  · rw [if_neg hk]
    have hk1 : (kd == 1) = false := beq_eq_false_iff_ne.2 hk
    have HK := Aside0.mk hk
    clear hk
    go_enter Try.func29, Try.ntmps29
    go_wp2_with fail
    clear hk1 x0 x1
    go_loopw [3, 4] (fun vn vi W => ∃ i : Nat, vi = .int .i64 i ∧ i ≤ L.length ∧ vn = .int .i64 (((L.take i).sum : Nat) : Int) ∧ Aside0 (RefS W (.pointer (some ⟨g, 0, none⟩)) kd (ints L)) ∧ Aside0 (Below w.heap.size w W)) (fun _ vi _ => L.length - (intOf vi).toNat)
    case atStart => exact ⟨0, rfl, Nat.zero_le _, rfl, HSS, ⟨Below.refl _ _⟩⟩
    case round =>
      clear HSS HC
      obtain ⟨i, rfl, hi, rfl, HR, HB⟩ := hrel
      obtain ⟨g', A1, c1, e1, b1, hC, hc1⟩ := HR.out
      cases e1
      obtain ⟨x0, x1, _, _⟩ := blkA2 b1
      have HC := Aside0.mk hC
      clear hC hc1 b1
      by_cases hlt : i < L.length
      · have hii : i < (ints L).length := by rw [ints_length]; exact hlt
        obtain ⟨ad, rfl, hx⟩ := Kd.at_int HC.out (i : Int) (Int.natCast_nonneg i) (Int.ofNat_lt.2 hii)
        obtain ⟨x, hxe⟩ : ∃ x, L.getD i 0 = x := ⟨_, rfl⟩
        rw [rd_ints, hxe, Int.toNat_natCast] at hx
        obtain ⟨s, hs⟩ : ∃ s, (L.take i).sum = s := ⟨_, rfl⟩
        have hn := sum_next hlt hxe
        rw [hs] at hn
        have HNX := Aside0.mk hn
        have HI := Aside0.mk hlt
        have hd := Aside0.mk (show wrap64 ((s : Int) + (x : Int)) = ((s + x : Nat) : Int) by have h1 := take_sum_le L (i + 1); have h2 := HF.out.w HK.out; rw [hn] at h1; unfold wrap64; omega)
        have hwi := Aside0.mk (Big.next_nat hlt (Nat.le_trans HF.out.n (by decide)))
        simp only [hs]
        clear hs hn hxe hlt
        go_wp2_with fail
        go_roundw
        case rel => exact ⟨i + 1, by rw [hwi.out], HI.out, by rw [HNX.out, hd.out], HR, HB⟩
        case measure => rw [hwi.out]; exact nat_dec HI.out
      · have hil : i = L.length := Nat.le_antisymm hi (Nat.le_of_not_lt hlt)
        have hii : ¬ i < (ints L).length := by rw [ints_length]; exact hlt
        have HE : Aside0 ((L.take i).sum = L.sum) := ⟨by rw [hil, List.take_length]⟩
        clear hil hlt hi
        go_wp2_with fail
        go_ret
        exact ⟨by rw [HE.out]; rfl, HB.out⟩
theorem rchoices_c {w : World} {v : Value} {kd : Int} {l : List Int} {i : Int} (hs : RefS w v kd l) (hk : kd ≠ 1) : Calls Try.prog 30 #[v, .int .i64 i] w fun e W' => e = .returned (.int .i64 (l.length : Int)) ∧ W' = w := by
  obtain ⟨g, A0, c0, rfl, b0, hC, hc0⟩ := hs
  obtain ⟨x0, x1, _, _⟩ := blkA2 b0
  have hk1 : (kd == 1) = false := beq_eq_false_iff_ne.2 hk
  clear hC hc0 b0 hk
  go_enter Try.func30, Try.ntmps30
  go_wp2_with fail
  go_ret
  exact ⟨rfl, rfl⟩
end Go.Proofs.Ytohpboblmmbjnaa.P
/- What a function holds, part by part: each block it has made bears the number of the part it belongs to (its colour), so that parts are apart and each is written by itself. -/

namespace Go.Proofs.Ytohpboblmmbjnaa.P
open Go Go.RowKit Go.Proofs.YtohpboblmmbjnaaW.PrintWords Go.Proofs.YtohpboblmmbjnaaW.PrintLast Go.Proofs.YtohpboblmmbjnaaW.PrintMore

/-- A part: a row of elements, a row of rows, a block of cells, nothing. -/
inductive Part : Type 1
  | row {α : Type} (d : Kd α) (e : Nat) (v : Value) (xs : List α)
  | rows {α : Type} (d : Kd α) (e : Nat) (v : Value) (xs : List (List α)) (e1 : Nat)
  | box (g : Nat) (t : TypeId) (cs : Array Value)
  | none
/-- What is known of a part whose blocks are ok. -/
def Part.sem (B : Nat) : Part → (Nat → Prop) → World → Prop
  | .row d e v xs, ok, W => d.R e W B ok v xs
  | .rows d e v xs e1, ok, W => Kd.S (Kd.slice e1 d) e W B ok v xs
  | .box g t cs, ok, W => ok g ∧ B ≤ g ∧ W.heap[g]? = some (.cells cs t (0, 0))
  | .none, _, _ => True
theorem Part.sem.move {B : Nat} {p : Part} {ok ok' : Nat → Prop} {W W1 : World} (h : p.sem B ok W) (hm : ∀ k, ok k → k < W.heap.size → W1.heap[k]? = W.heap[k]? ∧ ok' k) : p.sem B ok' W1 := by
  cases p with
  | row d e v xs => exact R_mv h hm
  | rows d e v xs e1 => exact S_mv h hm
  | box g t cs => exact ⟨(hm g h.1 (blk_lt h.2.2)).2, h.2.1, (hm g h.1 (blk_lt h.2.2)).1.trans h.2.2⟩
  | none => trivial
theorem Part.sem.low {B B' : Nat} {p : Part} {ok : Nat → Prop} {W : World} (h : p.sem B ok W) (hb : B' ≤ B) : p.sem B' ok W := by
  cases p with
  | row d e v xs => exact Kd.R_lower h hb
  | rows d e v xs e1 => exact Kd.S_lower h hb
  | box g t cs => exact ⟨h.1, Nat.le_trans hb h.2.1, h.2.2⟩
  | none => trivial
theorem Part.sem.wide {B : Nat} {p : Part} {ok ok' : Nat → Prop} {W : World} (h : p.sem B ok W) (hm : ∀ k, ok k → ok' k) : p.sem B ok' W := h.move (fun k hk _ => ⟨rfl, hm k hk⟩)
/-- All parts, by a colouring. -/
def Cols (w : World) (ps : List Part) (col : Nat → Nat) (W : World) : Prop := Below w.heap.size w W ∧ ∀ (j : Nat) (p : Part), ps[j]? = some p → p.sem w.heap.size (fun k => col k = j) W
def Owned (w : World) (ps : List Part) (W : World) : Prop := ∃ col, Cols w ps col W
section
variable {w W W' : World} {ps : List Part} {col : Nat → Nat}
theorem Owned.nil (w : World) : Owned w [] w := ⟨fun _ => 0, Below.refl _ _, by simp⟩
theorem Owned.below (h : Owned w ps W) : Below w.heap.size w W := by obtain ⟨_, h, _⟩ := h; exact h
theorem Owned.get (h : Owned w ps W) {j : Nat} {p : Part} (hj : ps[j]? = some p) : p.sem w.heap.size (fun _ => True) W := by obtain ⟨_, _, h⟩ := h; exact (h j p hj).wide (fun _ _ => trivial)
theorem Owned.later (h : Owned w ps W) (hb : Below W.heap.size W W') : Owned w ps W' := by
  obtain ⟨col, h1, h2⟩ := h
  exact ⟨col, below_then h1 h1.size hb, fun j p hj => (h2 j p hj).move (fun k hk hlt => ⟨hb.block k hlt, hk⟩)⟩
theorem Owned.drew (h : Owned w ps W) : Owned w ps W.drew := h.later ⟨rfl, rfl, rfl, Nat.le_refl _, fun _ _ => rfl⟩
theorem Owned.drewN (h : Owned w ps W) (m : Nat) : Owned w ps (W.drewN m) := h.later ⟨rfl, rfl, rfl, Nat.le_refl _, fun _ _ => rfl⟩
/-- One part is written (it may take new blocks). -/
theorem Cols.upd (h : Cols w ps col W) {j : Nat} {p' : Part} (hj : j < ps.length) (new : p'.sem w.heap.size (fun k => col k = j ∨ W.heap.size ≤ k) W') (chg : ∀ k, k < W.heap.size → col k ≠ j → W'.heap[k]? = W.heap[k]?) (hb : Below w.heap.size w W') : Owned w (ps.set j p') W' := by
  refine ⟨fun k => if k < W.heap.size then col k else j, hb, fun i p hp => ?_⟩
  rw [List.getElem?_set] at hp
  split at hp
  · rename_i hij
    subst hij
    cases hp
    refine new.wide (fun k hk => ?_)
    rcases hk with hk | hk
    · by_cases hlt : k < W.heap.size
      · simp only [if_pos hlt]; exact hk
      · simp only [if_neg hlt]
    · simp only [if_neg (Nat.not_lt.2 hk)]
  · rename_i hij
    exact (h.2 i p hp).move (fun k hk hlt => ⟨chg k hlt (fun e => hij (e.symm.trans hk)), by simp only [if_pos hlt]; exact hk⟩)
/-- A part whose block or row grew. -/
theorem Cols.grown (h : Cols w ps col W) {j : Nat} {p' : Part} (hj : j < ps.length) {row : Option Nat} (hg : W.grownBy W' row) (hr : ∀ k, row = some k → col k = j) (hw : ∀ k, row = some k → w.heap.size ≤ k)
    (new : p'.sem w.heap.size (fun k => col k = j ∨ W.heap.size ≤ k) W') : Owned w (ps.set j p') W' :=
  h.upd hj new (fun k hlt hk => hg.block k hlt (fun e => hk (hr k e.symm))) (h.1.grown hg h.1.size hw)
/-- A new part. -/
theorem Owned.fresh (h : Owned w ps W) {p' : Part} (hb : Below W.heap.size W W') (new : p'.sem w.heap.size (fun k => W.heap.size ≤ k) W') : Owned w (ps ++ [p']) W' := by
  obtain ⟨col, h1, h2⟩ := h
  refine ⟨fun k => if k < W.heap.size then col k else ps.length, below_then h1 h1.size hb, fun i p hp => ?_⟩
  by_cases hi : i < ps.length
  · rw [List.getElem?_append_left hi] at hp
    exact (h2 i p hp).move (fun k hk hlt => ⟨hb.block k hlt, by simp only [if_pos hlt]; exact hk⟩)
  · rw [List.getElem?_append_right (Nat.le_of_not_lt hi)] at hp
    have hi2 : i = ps.length := by
      have := (List.getElem?_eq_some_iff.1 hp).1
      simp only [List.length_singleton] at this
      omega
    subst hi2
    rw [Nat.sub_self] at hp
    cases hp
    exact new.wide (fun k hk => by simp only [if_neg (Nat.not_lt.2 hk)])
/-- A block of one's own, made. -/
theorem Owned.box (h : Owned w ps W) (t : TypeId) (cs : Array Value) : Owned w (ps ++ [.box W.heap.size t cs]) (W.alloc (.cells cs t (0, 0))) :=
  h.fresh (below_alloc (Below.refl _ _) _) ⟨Nat.le_refl _, h.below.size, heap_alloc_new W _⟩
/-- One cell of a block is stored. -/
theorem Owned.cell (h : Owned w ps W) {j g : Nat} {t : TypeId} {cs : Array Value} (hj : ps[j]? = some (.box g t cs)) (i : Nat) (u : Value) : Owned w (ps.set j (.box g t (cs.setIfInBounds i u))) (W.setCell ⟨g, i, none⟩ u) := by
  obtain ⟨col, h1⟩ := h
  obtain ⟨c, l, b⟩ := h1.2 j _ hj
  have hg : W.grownBy (W.setCell ⟨g, i, none⟩ u) (some g) := ⟨rfl, rfl, rfl, by unfold World.setCell; simp, fun k hk hne => by
    unfold World.setCell
    simp only [Array.getElem?_modify]
    rw [if_neg (fun e => hne (by rw [← e]))]⟩
  exact h1.grown (List.getElem?_eq_some_iff.1 hj).1 hg (fun k e => by cases e; exact c) (fun k e => by cases e; exact l) ⟨.inl c, l, blk_set b i u⟩
theorem Owned.blk (h : Owned w ps W) {j g : Nat} {t : TypeId} {cs : Array Value} (hj : ps[j]? = some (.box g t cs)) : W.heap[g]? = some (.cells cs t (0, 0)) := (h.get hj).2.2
/-- A block is written anew by a call that keeps all else. -/
theorem Owned.call (h : Owned w ps W) {j g : Nat} {t : TypeId} {cs cs' : Array Value} (hj : ps[j]? = some (.box g t cs)) (hk : KeepBut W W' g none) (hb : Below w.heap.size w W') (new : W'.heap[g]? = some (.cells cs' t (0, 0))) : Owned w (ps.set j (.box g t cs')) W' := by
  obtain ⟨col, h1⟩ := h
  obtain ⟨c, l, _⟩ := h1.2 j _ hj
  exact h1.upd (List.getElem?_eq_some_iff.1 hj).1 ⟨.inl c, l, new⟩ (fun k hlt hne => hk.2 k hlt (fun e => hne (by rw [e]; exact c)) (by simp)) hb
/-- A number of a row of one's own is stored. -/
theorem Owned.num (h : Owned w ps W) {j e g c : Nat} {xs : List Int} {n : Nat} (hj : ps[j]? = some (.row (Kd.int .i64) e (.slice (some ⟨g, 0, none⟩) n c) xs)) (i : Nat) (x : Int) : Owned w (ps.set j (.row (Kd.int .i64) e (.slice (some ⟨g, 0, none⟩) n c) (xs.set i x))) (W.setCell ⟨g, i, none⟩ (.int .i64 x)) := by
  obtain ⟨col, h1⟩ := h
  have hr : (Kd.int .i64).R e W w.heap.size (fun k => col k = j) (.slice (some ⟨g, 0, none⟩) n c) xs := h1.2 j _ hj
  have h2 := Kd.R_putn (enc := Value.int .i64) hr (i : Int) x
  rw [Int.toNat_natCast] at h2
  have hg : W.grownBy (W.setCell ⟨g, i, none⟩ (.int .i64 x)) (some g) := ⟨rfl, rfl, rfl, by unfold World.setCell; simp, fun k hk hne => by
    unfold World.setCell
    simp only [Array.getElem?_modify]
    rw [if_neg (fun e => hne (by rw [← e]))]⟩
  exact h1.grown (List.getElem?_eq_some_iff.1 hj).1 hg (fun k e => by cases e; exact hr.1 g rfl) (fun k e => by cases e; exact Kd.R_base hr g rfl) (Kd.R_mono h2 (fun _ hk => .inl hk))
/-- A part is given up. -/
theorem Owned.drop (h : Owned w ps W) (j : Nat) : Owned w (ps.set j .none) W := by
  obtain ⟨col, h1, h2⟩ := h
  refine ⟨col, h1, fun i p hp => ?_⟩
  rw [List.getElem?_set] at hp
  split at hp
  · split at hp
    · cases hp; trivial
    · cases hp
  · exact h2 i p hp
end
end Go.Proofs.Ytohpboblmmbjnaa.P
/- Appends and makes over parts. -/
namespace Go.Proofs.Ytohpboblmmbjnaa.P
open Go Go.RowKit Go.Proofs.YtohpboblmmbjnaaW.PrintWords Go.Proofs.YtohpboblmmbjnaaW.PrintLast Go.Proofs.YtohpboblmmbjnaaW.PrintMore
section
variable {w W W' : World} {ps : List Part} {col : Nat → Nat}
variable {ops : Array Oper} {rest : List Oper} {o : Oper} {a : Act} {Q : Exit → Act → World → Prop} {Kc : Act → World → Prop} {α : Type}
theorem Owned.app (d : Kd α) (h : Owned w ps W) {j : Nat} {v : Value} {xs : List α} {e : TypeId} (hj : ps[j]? = some (.row d e v xs)) (p : α) (cs : List Value) (hp : ∀ okp, d.M W w.heap.size okp p cs) (s x : Operand) (t : TypeId) (z : Value) (bytes : Nat)
    (ht : Try.prog.underlying t = some (.slice e)) (hinfo : (Try.prog.info? e).map (fun i => (i.zero, i.size, i.bytes)) = some (some z, d.sz, bytes)) (hz : z.cells.size = d.sz) (hs0 : 0 < d.sz) (hb0 : 0 < bytes) (hl : (xs.length + 1) * bytes ≤ 140737488355328)
    (h1 : ∀ v1 w1, Owned w (ps.set j (.row d e v1 (xs ++ [p]))) w1 → wpList Try.prog ops Q rest (a.put o.dst v1) w1)
    (hgd : o.guard = none) (ho : o.op = .call { callee := .builtin .append, args := #[s, x], argTypes := #[t, t] }) (hs : a.eval s = v) (hx : a.eval x = .slice (some ⟨W.heap.size, 0, none⟩) 1 1) :
    wpList Try.prog ops Q (o :: rest) a (W.alloc (.cells cs.toArray e)) := by
  obtain ⟨col, hc⟩ := h
  have hr : d.R e W w.heap.size (fun k => col k = j) v xs := hc.2 j _ hj
  refine Kd.R_append d (w0 := w) w.heap.size hgd s x t e z bytes ho ht hinfo hz hs0 hb0 v xs p cs (fun k => col k = j ∨ W.heap.size ≤ k) (fun _ => False) hs hx (hp _) (fun _ hk => hk.elim) (fun _ hk => .inr hk) (Kd.R_mono hr (fun _ hk => .inl hk)) hc.1 hc.1.size hl ?_
  intro v1 w1 hr1 _ hg _
  exact h1 v1 w1 (hc.grown (List.getElem?_eq_some_iff.1 hj).1 hg (fun k hk => hr.1 k hk) (Kd.R_base hr) hr1)
end
end Go.Proofs.Ytohpboblmmbjnaa.P
/- At of the document's weaves. -/
namespace Go.Proofs.Ytohpboblmmbjnaa.P
open Go Go.RowKit Go.Proofs.YtohpboblmmbjnaaW.PrintWords Go.Proofs.YtohpboblmmbjnaaW.PrintLast Go.Proofs.YtohpboblmmbjnaaW.PrintMore Go.Proofs.Odo
theorem row_slice {B : Nat} {W : World} {α : Type} {d : Kd α} {e : Nat} {v : Value} {xs : List α} {ok : Nat → Prop} (h : (Part.row d e v xs).sem B ok W) : ∃ A c, v = .slice A xs.length c := Kd.R_slice (show d.R e W B ok v xs from h)
theorem row_at {w W : World} {ps : List Part} {j e n c k : Nat} {Y : Option Addr} {xs : List Int} (h : Owned w ps W) (hj : ps[j]? = some (.row (Kd.int .i64) e (.slice Y n c) xs)) (hk : k < n) :
    ∃ g, Y = some ⟨g, 0, none⟩ ∧ W.cell? ⟨g, k, none⟩ = some (.int .i64 (rd xs (k : Int))) ∧ W.frozen? ⟨g, k, none⟩ = false := by
  have hr : (Kd.int .i64).R e W w.heap.size (fun _ => True) (.slice Y n c) xs := h.get hj
  have ho := Kd.own_of_R hr
  rcases ho.2 with ⟨e1, _⟩ | ⟨g, cap, cur, e1, _, hh, hc, _, hz, ht⟩
  · injection e1 with _ e2; omega
  · injection e1 with e1 e2 _
    subst e1
    refine ⟨g, rfl, (blk_cell hh k).trans ?_, blk_frozen hh k⟩
    have hlt : k < xs.length := by omega
    have e3 : cur[k]? = (cur.toList.take (xs.length * 1))[k]? := by rw [List.getElem?_take, if_pos (by omega), Array.getElem?_toList]
    rw [e3, ht]
    simp only [encs, List.getElem?_map, rd, Int.toNat_natCast, List.getD_eq_getElem?_getD, List.getElem?_eq_getElem hlt]
    rfl
/-- An empty literal and what came in appended to it, in a plain region. -/
theorem Owned.clone {w W : World} {ps : List Part} {α : Type} {ops : Array Oper} {rest : List Oper} {o : Oper} {a : Act} {Q : Exit → Act → World → Prop} (d : Kd α) (h : Owned w ps W) {Rr : α → List Value → Prop} {ys : List α} {A : Option Addr} {m c : Nat} (s x : Operand) (t e : TypeId) (z : Value) (bytes : Nat)
    (ht : Try.prog.underlying t = some (.slice e)) (hinfo : (Try.prog.info? e).map (fun i => (i.zero, i.size, i.bytes)) = some (some z, d.sz, bytes)) (hz : z.cells.size = d.sz) (hs0 : 0 < d.sz) (hb0 : 0 < bytes) (hl : m * bytes ≤ 140737488355328)
    (hKM : ∀ x cs, Rr x cs → d.M (W.alloc (.cells #[] e)) w.heap.size (fun _ => False) x cs) (hread : ReadsRow Rr d.sz (W.alloc (.cells #[] e)) A m ys)
    (h1 : ∀ v1 w1, Owned w (ps ++ [.row d e v1 ys]) w1 → wpList Try.prog ops Q rest (a.put o.dst v1) w1)
    (hgd : o.guard = none) (ho : o.op = .call { callee := .builtin .append, args := #[s, x], argTypes := #[t, t] }) (hs : a.eval s = .slice (some ⟨W.heap.size, 0, none⟩) 0 0) (hx : a.eval x = .slice A m c) :
    wpList Try.prog ops Q (o :: rest) a (W.alloc (.cells #[] e)) := by
  have hb := h.below
  have hsz : (W.alloc (.cells #[] e)).heap.size = W.heap.size + 1 := Array.size_push _
  have hrow : d.R e (W.alloc (.cells #[] e)) w.heap.size (fun k => W.heap.size ≤ k) (.slice (some ⟨W.heap.size, 0, none⟩) 0 0) ([] : List α) := by
    refine ⟨fun k hk => ?_, [], ?_, Reps.none _ _⟩
    · have : W.heap.size = k := by simpa [Value.ownBlock] using hk
      subst this
      exact Nat.le_refl _
    · have h2 := World.ownsRow_lit (base := w.heap.size) (e := e) (size := d.sz) W #[] 0 hb.size (by decide) (by simp)
      simpa using h2
  refine Kd.R_append_rows d (w0 := w) w.heap.size hgd s x t e z bytes ho ht hinfo hz hs0 hb0 _ [] ys A m c (fun k => W.heap.size ≤ k) (fun _ => False) hs hx hrow hread hKM (fun _ h => h.elim) (fun k hk => by omega) (hb.alloc hb.size _) (by have := hb.size; omega) (by simpa using hl) ?_
  intro v1 w1 hr1 hb1 hg _
  refine h1 v1 w1 (h.fresh ?_ hr1)
  refine ⟨hb1.os.trans hb.os.symm, hb1.tape.trans hb.tape.symm, hb1.output.trans hb.output.symm, by have := hg.size; omega, fun k hk => ?_⟩
  rw [hg.block k (by omega) (fun e => by have : W.heap.size = k := by simpa [Value.ownBlock] using e.symm
                                         omega)]
  exact (below_alloc (Below.refl W.heap.size W) _).block k hk
theorem shares_step {f : List Nat} {k : Nat} (h : f.getD k 0 = 0) : shares f (k + 1) = shares f k := by rw [shares_succ, share, if_pos h, Nat.add_zero]
theorem shares_take {f : List Nat} {k : Nat} (h : f.getD k 0 ≠ 0) : shares f (k + 1) = shares f k + mc (less f k) := by rw [shares_succ, share, if_neg h]
theorem mcl_le {f : List Nat} {k : Nat} (h : f.getD k 0 ≠ 0) : mc (less f k) ≤ mc f := by
  have h1 := shares_take h
  have h2 := shares_le f (show k + 1 ≤ f.length from getD_lt h)
  rw [shares_all f (sum_pos h)] at h2
  omega
theorem word_ok {n : Nat} (h : n < 18446744073709551616) : Big.wordR n = ((n : Int), true) := by unfold Big.wordR; rw [if_pos h]
theorem less_ints (f : List Nat) (k x : Nat) (h : f.getD k 0 = x + 1) : (ints f).set k ((x : Nat) : Int) = ints (less f k) := by rw [Big.ints_set, less, h, Nat.add_sub_cancel]
theorem back_ints (f : List Nat) (k x : Nat) (h : f.getD k 0 = x + 1) : (ints (less f k)).set k ((x + 1 : Nat) : Int) = ints f := by
  have hk : k < f.length := getD_lt (by rw [h]; exact Nat.succ_ne_zero x)
  rw [Big.ints_set, less, List.set_set]
  congr 1
  refine List.ext_getElem (by simp) (fun j h1 h2 => ?_)
  rw [List.getElem_set]
  split
  · rename_i e
    subst e
    rw [← h, List.getD_eq_getElem?_getD, List.getElem?_eq_getElem hk]; rfl
  · rfl
theorem getD_le_sum : ∀ (f : List Nat) (k : Nat), f.getD k 0 ≤ f.sum
  | [], k => by simp
  | x :: f, 0 => by rw [List.sum_cons]; exact Nat.le_add_right _ _
  | x :: f, k + 1 => by rw [List.sum_cons]; exact Nat.le_trans (getD_le_sum f k) (Nat.le_add_left _ _)
theorem Owned.tail0 {w W : World} {p : Part} {ps : List Part} (h : Owned w (p :: ps) W) : Owned w ps W := by
  obtain ⟨col, h1, h2⟩ := h
  refine ⟨fun k => col k - 1, h1, fun j q hq => ?_⟩
  exact (h2 (j + 1) q (by rw [List.getElem?_cons_succ]; exact hq)).wide (fun k hk => by show col k - 1 = j; rw [hk]; omega)
theorem count_m {w W : World} {ps : List Part} {v u : Value} {kd : Int} {l0 : List Int} {L : List Nat} {j m c : Nat} {A : Option Addr} {e : Nat} {ai : Int} (hs : RefS w v kd l0) (h : Owned w ps W) (hj : ps[j]? = some (.row (Kd.int .i64) e u (ints L))) (hu : u = .slice A m c) (F : FitL kd L) (hi : ai = ((0 : Nat) : Int)) :
    Calls Try.prog 28 #[v, .slice A m c, .int .i64 ai] W fun e W' => ∃ v', e = .returned v' ∧ BigC W' v' (cntV kd L 0) 400 ∧ Owned w ps W' := by
  have hr : (Kd.int .i64).R e W w.heap.size (fun _ => True) u (ints L) := h.get hj
  obtain ⟨A', c', e', h1, h2⟩ := Kd.R_reads hr
  rw [hu] at e'
  injection e' with e1 e2 e3
  subst e1 e2 e3
  refine (count_c (hs.below h.below) h2 h1 rfl F (Nat.zero_le _) hi).mono ?_
  rintro e W' ⟨v', rfl, hB, hb⟩
  exact ⟨v', rfl, hB, h.later hb⟩
theorem fit_less {kd : Int} {L f : List Nat} {k : Nat} (F : FitL kd L) (hk : kd ≠ 1) (hl : f.length = L.length) (h : f.sum ≤ L.sum) (hne : f.getD k 0 ≠ 0) : FitL kd (less f k) :=
  ⟨fun e => absurd e hk, fun _ => by have := less_sum f k hne; have := F.w hk; omega, by rw [less_length, hl]; exact F.n⟩
set_option maxHeartbeats 8000000 in
set_option maxRecDepth 100000 in
theorem ratw_c {w : World} {v : Value} {kd : Int} {L x0 : List Nat} {n : Nat} (hs : RefS w v kd (ints L)) (hk : kd ≠ 1) (F : FitL kd L) (hm : mc L < 18446744073709551616) (hI : Is L x0) (hr : rank L x0 = n) :
    Calls Try.prog 12 #[v, .int .u64 n] w fun e W' => ∃ v1, e = .returned (.tuple #[v1, .int .i64 0]) ∧ Owned w [.row (Kd.int .i64) 3 v1 (ints x0)] W' := by
  have HS := Aside0.mk hs
  obtain ⟨g, A0, c0, rfl, b0, hC, hc0⟩ := hs
  have HC := Aside0.mk hC
  have HL := Aside0.mk hc0
  have HF := Aside0.mk F
  have HK := Aside0.mk hk
  have HM := Aside0.mk hm
  have HI := Aside0.mk hI
  have HR := Aside0.mk hr
  have hnm : n < mc L := by rw [← hr]; exact rank_lt hI
  have hge : decide ((mc L : Int) ≤ (n : Int)) = false := decide_eq_false (by omega)
  have hge2 : decide (mc L ≤ n) = false := decide_eq_false (by omega)
  have hW : Big.wordR (cntV kd L 0) = ((mc L : Int), true) := by unfold cntV; rw [if_neg hk, word_ok hm]
  have HW := Aside0.mk hW
  have HSM := Aside0.mk (F.w hk)
  have HLN := Aside0.mk F.n
  have HLV := Aside0.mk (show lenV kd L = L.sum by unfold lenV; rw [if_neg hk])
  clear hC hc0 F hk hm hI hr hW hnm b0
  go_enter Try.func12, Try.ntmps12
  go_upto_region 6 with (go_at_call 10; (with_reducible refine (rlen_c HS.out HF.out HW.out).mono ?_); rintro e w1 ⟨rfl, hb1⟩; have HB1 := Aside0.mk hb1; clear hb1)
  clear hge hge2
  have HO := Aside0.mk ((Owned.nil w).later HB1.out)
  obtain ⟨g', A1, c1, e1, b1, hC1, hc1⟩ := HS.out.below HB1.out
  cases e1
  obtain ⟨x0', x1', _, _⟩ := blkA2 b1
  have hxa : (w1.alloc (.cells #[] 3 (0, 0))).cell? ⟨g, 1, none⟩ = some (.slice A1 (ints L).length c1) := pw_cell_below (below_alloc (Below.refl _ _) _) x1'
  have hcl := Aside0.mk (show (ints L).length * 8 ≤ 140737488355328 by have := HLN.out; rw [ints_length]; omega)
  go_upto_region 7 with ((with_reducible refine gate_builtin (b := .append) (xs := #[.tmp 27, .tmp 31]) rfl ?_); at_builtin; refine Owned.clone (Kd.int .i64) HO.out (.tmp 27) (.tmp 31) 22 3 (.int .i64 0) 8 Try.underlying22 info3 rfl (by decide) (by decide) hcl.out (fun _ _ h => h) (Kd.C_alloc hC1 _) ?_ rfl rfl rfl rfl; intro v2 w2 h2; have HO2 := Aside0.mk h2; clear h2 x0' x1' hxa hC1 hc1 b1)
  obtain ⟨Y, cy, e8⟩ := row_slice (HO2.out.get (j := 0) rfl)
  subst e8
  have HO3 := Aside0.mk (HO2.out.fresh (p' := .row (Kd.int .i64) 3 (.slice none 0 0) []) (Below.refl _ _) (Kd.R_nil _ _ _ _ _))
  clear HO HO2
  have hk1 : (kd == 1) = false := beq_eq_false_iff_ne.2 HK.out
  have HK1 := Aside0.mk hk1
  have H0 := Aside0.mk (show (0 : Int) = ((0 : Nat) : Int) from rfl)
  clear hk1
  go_wp2_with fail
  go_loopw [1, 9, 10] (fun vn vo vi W => ∃ (i m : Nat), vi = .int .i64 i ∧ i ≤ L.sum ∧ vn = .int .u64 m ∧ Aside0 (∃ (f o y : List Nat), x0 = o ++ y ∧ o.length = i ∧ f.length = L.length ∧ f.sum + i = L.sum ∧ Is f y ∧ rank f y = m ∧ mc f ≤ mc L ∧ Owned w [.row (Kd.int .i64) 3 (.slice Y (ints L).length cy) (ints f), .row (Kd.int .i64) 3 vo (ints o)] W)) (fun _ _ vi _ => L.sum - (intOf vi).toNat)
  case atStart => exact ⟨0, n, rfl, Nat.zero_le _, rfl, ⟨L, [], x0, rfl, rfl, rfl, rfl, HI.out, HR.out, Nat.le_refl _, HO3.out⟩⟩
  case round =>
    clear HO3
    obtain ⟨i, m, rfl, hi, rfl, HX⟩ := hrel
    obtain ⟨f, o, y, ex, lo, lf, sf, hIs, hrk, hmc, hO⟩ := HX.out
    have HO := Aside0.mk hO
    have EX := Aside0.mk ex
    have LO := Aside0.mk lo
    have LF := Aside0.mk lf
    have SF := Aside0.mk sf
    have HIs := Aside0.mk hIs
    have HRK := Aside0.mk hrk
    have HMC := Aside0.mk hmc
    obtain ⟨O, co, rfl⟩ := row_slice (HO.out.get (j := 1) rfl)
    clear HX hO ex lo lf sf hIs hrk hmc
    by_cases hlt : i < L.sum
    · have hi2 := Aside0.mk hlt
      cases y with
      | nil => exact absurd (show f.sum = 0 from HIs.out) (by have := SF.out; omega)
      | cons k0 y' =>
        have HNE := Aside0.mk (show f.getD k0 0 ≠ 0 from HIs.out.1)
        have HIS2 := Aside0.mk (show Is (less f k0) y' from HIs.out.2)
        have HR2 := Aside0.mk (show shares f k0 + rank (less f k0) y' = m from HRK.out)
        have HK0 := Aside0.mk (show k0 < L.length by rw [← LF.out]; exact getD_lt HNE.out)
        have hfs := Aside0.mk (show f.sum ≤ L.sum by have := SF.out; omega)
        have hwi := Aside0.mk (Big.next_nat hlt (Nat.le_trans HSM.out (by decide)))
        obtain ⟨g2, A2, c2, e2, b2, _, _⟩ := HS.out.below HO.out.below
        cases e2
        go_upto_region 11 with (go_at_call 29; (with_reducible refine (rlength_c (HS.out.below HO.out.below) HF.out).mono ?_); rw [HLV.out]; rintro e w3 ⟨rfl, hb3⟩; have HO4 := Aside0.mk (HO.out.later hb3); have hkc : w3.cell? ⟨g, 0, none⟩ = some (.int .i64 kd) := (blk_cell ((hb3.block _ (blk_lt b2)).trans b2) 0).trans rfl; clear hb3)
        have hk1 := HK1.out
        go_wp2_with fail
        clear hlt b2 hk1 hkc HO
        go_loopw [1, 9, 13] (fun vn vo vk W => ∃ (k q : Nat), vk = .int .i64 k ∧ k ≤ k0 ∧ vn = .int .u64 q ∧ vo = .slice O (ints o).length co ∧ q + shares f k = m ∧ Aside0 (Owned w [.row (Kd.int .i64) 3 (.slice Y (ints L).length cy) (ints f), .row (Kd.int .i64) 3 (.slice O (ints o).length co) (ints o)] W)) (fun _ _ vk _ => L.length - (intOf vk).toNat)
        case atStart => exact ⟨0, m, rfl, Nat.zero_le _, rfl, rfl, rfl, HO4⟩
        case round =>
          clear HO4
          obtain ⟨k, q, rfl, hk, rfl, rfl, hq, HO⟩ := hrel
          have HQ := Aside0.mk hq
          have HKK := Aside0.mk hk
          have hkl : k < (ints L).length := by rw [ints_length]; exact Nat.lt_of_le_of_lt hk HK0.out
          obtain ⟨gl, rfl, hc, hf⟩ := row_at HO.out (j := 0) rfl hkl
          obtain ⟨x, hx⟩ : ∃ x, f.getD k 0 = x := ⟨_, rfl⟩
          have HX := Aside0.mk hx
          have HKL := Aside0.mk hkl
          rw [rd_ints, hx] at hc
          have hwk := Aside0.mk (Big.next_nat (show k < L.length by rw [← ints_length L]; exact hkl) (Nat.le_trans HLN.out (by decide)))
          clear hq hk hx
          go_upto_region 18 with (go_at_call 30; (with_reducible refine (rchoices_c (HS.out.below HO.out.below) HK.out).mono ?_); rintro e w4 ⟨rfl, rfl⟩)
          by_cases hx0 : x = 0
          · subst hx0
            go_wp2_with fail
            go_roundw
            case rel => exact ⟨k + 1, q, by rw [hwk.out], Nat.lt_of_le_of_ne HKK.out (fun e => HNE.out (by rw [← e]; exact HX.out)), rfl, rfl, by rw [shares_step HX.out]; exact HQ.out, HO⟩
            case measure => rw [hwk.out]; exact nat_dec (by rw [← ints_length L]; exact HKL.out)
          · obtain ⟨x', hx'⟩ : ∃ x', x = x' + 1 := ⟨x - 1, by omega⟩
            have hne : f.getD k 0 ≠ 0 := by rw [HX.out]; exact hx0
            have HNK := Aside0.mk hne
            have HXX := Aside0.mk (show f.getD k 0 = x' + 1 from HX.out.trans hx')
            have hx64 : x ≤ 64 := by
              have h1 := less_sum f k hne
              have h2 := hfs.out
              have h3 := HSM.out
              have h4 : f.getD k 0 ≤ f.sum := getD_le_sum f k
              rw [HX.out] at h4
              omega
            have hdec := Aside0.mk (show wrap64 ((x : Int) - 1) = ((x' : Nat) : Int) by rw [hx']; unfold wrap64; omega)
            have hinc := Aside0.mk (show wrap64 ((x' : Int) + 1) = ((x' + 1 : Nat) : Int) by unfold wrap64; omega)
            have d0 : ((x : Int) == 0) = false := beq_eq_false_iff_ne.2 (by omega)
            obtain ⟨M1, hM1⟩ : ∃ M1, mc (less f k) = M1 := ⟨_, rfl⟩
            have HM1 := Aside0.mk hM1
            have hm64 : M1 < 18446744073709551616 := by rw [← hM1]; exact Nat.lt_of_le_of_lt (Nat.le_trans (mcl_le hne) HMC.out) HM.out
            have hwl := Aside0.mk (show Big.wordR (cntV kd (less f k) 0) = ((M1 : Int), true) by unfold cntV; rw [if_neg HK.out, hM1, word_ok hm64])
            have HFL := Aside0.mk (fit_less HF.out HK.out LF.out hfs.out hne)
            clear hM1 hm64 hx64 hne hx'
            go_upto_region 20 with fail
            have HO5 := Aside0.mk (HO.out.num (j := 0) rfl k (wrap64 ((x : Int) - 1)))
            clear hc hf HO d0 hx0
            generalize World.setCell _ _ _ = W5 at HO5 ⊢
            have HO6 : Aside0 (Owned w [.row (Kd.int .i64) 3 (.slice (some ⟨gl, 0, none⟩) (ints L).length cy) (ints (less f k)), .row (Kd.int .i64) 3 (.slice O (ints o).length co) (ints o)] W5) := ⟨by
              have h := HO5.out
              rw [hdec.out, less_ints f k x' HXX.out] at h
              exact h⟩
            clear HO5
            go_upto_region 21 with (first
              | (go_at_call 28; (with_reducible refine (count_m HS.out HO6.out (j := 0) rfl rfl HFL.out H0.out).mono ?_); rintro e w6 ⟨v6, rfl, h6, h7⟩; have HB6 := Aside0.mk h6; have HO7 := Aside0.mk h7; clear h6 h7)
              | (go_at_call 27; (with_reducible refine (word_c HB6.out (by decide)).mono ?_); rw [hwl.out]; rintro e w7 ⟨rfl, h7⟩; have HO8 := Aside0.mk (HO7.out.later (drawn_below h7)); clear h7))
            clear HO6 HO7 HB6
            by_cases hqm : q < M1
            · have hkk : k = k0 := by
                rcases Nat.lt_or_ge k k0 with h | h
                · have h1 := shares_le f h
                  rw [Nat.succ_eq_add_one, shares_take HNK.out, HM1.out] at h1
                  have h2 := HQ.out
                  have h3 := HR2.out
                  omega
                · exact Nat.le_antisymm HKK.out h
              have hlo := Aside0.mk (show ((ints o).length + 1) * 8 ≤ 140737488355328 by have := LO.out; have := HSM.out; have := hi2.out; rw [ints_length]; omega)
              subst hkk
              clear hkl
              go_wp2_with ((with_reducible refine gate_builtin (b := .append) (xs := #[.tmp 94, .tmp 96]) rfl ?_); at_builtin; refine Owned.app (Kd.int .i64) HO8.out (j := 1) rfl ((k : Nat) : Int) [.int .i64 k] (fun _ => rfl) (.tmp 94) (.tmp 96) 22 (.int .i64 0) 8 Try.underlying22 info3 rfl (by decide) (by decide) hlo.out ?_ rfl rfl rfl rfl; intro v9 w9 h9; have HO9 := Aside0.mk h9; clear h9)
              go_roundw
              case rel => exact ⟨i + 1, q, by rw [hwi.out], hi2.out, rfl, ⟨less f k, o ++ [k], y', by rw [EX.out, List.append_assoc]; rfl, by rw [List.length_append, LO.out]; rfl, by rw [less_length, LF.out], by have := less_sum f k HNE.out; have := SF.out; omega, HIS2.out, by have := HQ.out; have := HR2.out; omega, Nat.le_trans (mcl_le HNE.out) HMC.out, by rw [← Big.ints_snoc]; exact HO9.out⟩⟩
              case measure => rw [hwi.out]; exact nat_dec hi2.out
            · have hkk : k ≠ k0 := fun h => by
                subst h
                have h1 := rank_lt HIS2.out
                rw [HM1.out] at h1
                have h2 := HQ.out
                have h3 := HR2.out
                omega
              have hsub := Aside0.mk (show IntKind.u64.wrap ((q : Int) - (M1 : Int)) = ((q - M1 : Nat) : Int) by
                have h1 : q < 18446744073709551616 := by have := HQ.out; have := rank_lt HIs.out; have := HRK.out; have := HMC.out; have := HM.out; omega
                rw [show (q : Int) - (M1 : Int) = ((q - M1 : Nat) : Int) by omega]
                exact Big.wrap_nat (by omega))
              have hq2 := Aside0.mk (show (q - M1) + shares f (k + 1) = m by rw [shares_take HNK.out, HM1.out]; have := HQ.out; omega)
              have HKN := Aside0.mk hkk
              obtain ⟨gm, eg, hc, hf⟩ := row_at HO8.out (j := 0) rfl hkl
              obtain rfl : gl = gm := by injection eg with eg; injection eg
              have hg1 : (less f k).getD k 0 = x' := by
                have h1 := getD_lt HNK.out
                rw [less, List.getD_eq_getElem?_getD, List.getElem?_set_self h1, HXX.out]; rfl
              rw [rd_ints, hg1] at hc
              clear hkk eg hg1
              go_upto_region 24 with fail
              go_wp2_with fail
              refine ⟨⟨k + 1, q - M1, by rw [hwk.out], Nat.lt_of_le_of_ne HKK.out HKN.out, by rw [hsub.out], rfl, hq2.out, ⟨?_⟩⟩, ?_⟩
              · have h := HO8.out.num (j := 0) rfl k (wrap64 ((x' : Int) + 1))
                have e : (ints (less f k)).set k (wrap64 ((x' : Int) + 1)) = ints f := by rw [hinc.out, back_ints f k x' HXX.out]
                rw [e] at h
                exact h
              · rw [hwk.out]
                exact nat_dec (by rw [← ints_length L]; exact HKL.out)
    · have hil : i = L.sum := Nat.le_antisymm hi (Nat.le_of_not_lt hlt)
      have hy : y = [] := by
        have h1 := is_length HIs.out
        have h2 := SF.out
        exact List.eq_nil_of_length_eq_zero (by omega)
      subst hy
      have HE := Aside0.mk (show x0 = o by rw [EX.out, List.append_nil])
      clear hil
      go_wp2_with (go_at_call 29; (with_reducible refine (rlength_c (HS.out.below HO.out.below) HF.out).mono ?_); rw [HLV.out]; rintro e w3 ⟨rfl, hb3⟩; have HO4 := Aside0.mk (HO.out.later hb3); clear hb3)
      go_ret2
      exact ⟨_, rfl, by rw [HE.out]; exact HO4.out.tail0⟩
end Go.Proofs.Ytohpboblmmbjnaa.P
