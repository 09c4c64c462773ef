/- Rank of the document's products. -/
import Derived.Test.YtohpboblmmbjnaaRfk
import Derived.Deep.QuietTactic
import Derived.BigQuiet
import Derived.Test.YtohpboblmmbjnaaMulti
import Derived.Laws.CopyOwn
import Derived.RangeFuncRecord
import Derived.Laws.Pointers
namespace Go.Proofs.Ytohpboblmmbjnaa.P
open Go Go.RowKit Go.Proofs.YtohpboblmmbjnaaW.PrintWords Go.Proofs.YtohpboblmmbjnaaW.PrintLast Go.Proofs.YtohpboblmmbjnaaW.PrintMore Go.Proofs.Odo
theorem isP_drop : ∀ {L x : List Nat} (i : Nat), IsP L x → i < x.length → x.getD i 0 < L.getD i 0 ∧ rankP (L.drop i) (x.drop i) = x.getD i 0 * prod (L.drop (i + 1)) + rankP (L.drop (i + 1)) (x.drop (i + 1)) ∧ rankP (L.drop i) (x.drop i) < prod (L.drop i) := by
  intro L x i
  induction i generalizing L x with
  | zero =>
    intro h hi
    match L, x, h with
    | p :: ps, y :: l, h => exact ⟨h.1, rfl, rankP_lt h⟩
    | [], [], h => exact absurd hi (by simp)
  | succ i ih =>
    intro h hi
    match L, x, h with
    | p :: ps, y :: l, h =>
      have := ih h.2 (by simpa using hi)
      simpa using this
    | [], [], h => exact absurd hi (by simp)
theorem rank_end {L x : List Nat} (h : IsP L x) : rankP (L.drop x.length) (x.drop x.length) = 0 := by
  have := isP_length h
  rw [this, List.drop_length, List.drop_eq_nil_of_le (by rw [this]; exact Nat.le_refl _)]
  rfl
theorem prod_suffix {L : List Nat} (i : Nat) (h : 0 < prod L) : 0 < prod (L.drop i) ∧ prod (L.drop i) ≤ prod L := by
  have e : prod L = prod (L.take i) * prod (L.drop i) := by rw [← prod_append, List.take_append_drop]
  have h1 : 0 < prod (L.drop i) := by
    rcases Nat.eq_zero_or_pos (prod (L.drop i)) with h0 | h0
    · rw [e, h0, Nat.mul_zero] at h; omega
    · exact h0
  have h2 : 0 < prod (L.take i) := by
    rcases Nat.eq_zero_or_pos (prod (L.take i)) with h0 | h0
    · rw [e, h0, Nat.zero_mul] at h; omega
    · exact h0
  exact ⟨h1, by rw [e]; exact Nat.le_mul_of_pos_left _ h2⟩
set_option maxHeartbeats 8000000 in
set_option maxRecDepth 100000 in
theorem rrankp_c {w : World} {v : Value} {L x0 : List Nat} {A : Option Addr} {c : Nat} (hs : RefS w v 1 (ints L)) (F : FitL 1 L) (hm : prod L < 18446744073709551616) (hI : IsP L x0) (hl : Kd.C (Kd.int .i64) w A (ints x0).length (ints x0))
    (his : ∀ W, Below w.heap.size w W → Calls Try.prog 31 #[v, .slice A (ints x0).length c] W fun e W' => e = .returned (.bool true) ∧ Below W.heap.size W W') :
    Calls Try.prog 15 #[v, .slice A (ints x0).length c] w fun e W' => e = .returned (.tuple #[.int .u64 ((rankP L x0 : Nat) : Int), .int .i64 0]) ∧ Below w.heap.size w W' := by
  have HS := Aside0.mk hs
  obtain ⟨g, A0, c0, rfl, b0, hC, hc0⟩ := hs
  have HF := Aside0.mk F
  have HM := Aside0.mk hm
  have HI := Aside0.mk hI
  have HA := Aside0.mk hl
  have HIS := Aside0.mk his
  have hW : Big.wordR (cntV 1 L 0) = ((prod L : Int), true) := by unfold cntV; rw [if_pos rfl, List.drop_zero, word_ok hm]
  have HW := Aside0.mk hW
  have HLN := Aside0.mk F.n
  have HLX := Aside0.mk (isP_length hI)
  have HPP := Aside0.mk (show 0 < prod L from Nat.lt_of_le_of_lt (Nat.zero_le _) (rankP_lt hI))
  clear hC hc0 F hm hI hW b0 hl his
  go_enter Try.func15, Try.ntmps15
  go_upto_region 6 with (first
    | (go_at_call 10; (with_reducible refine (rlen_c HS.out HF.out HW.out).mono ?_); rintro e w1 ⟨rfl, hb1⟩; have HB1 := Aside0.mk hb1; clear hb1)
    | (go_at_call 31; (with_reducible refine (HIS.out _ HB1.out).mono ?_); rintro e w2 ⟨rfl, hb2⟩; have HB2 := Aside0.mk (below_then HB1.out HB1.out.size hb2); clear hb2))
  have HO := Aside0.mk ((Owned.nil w).later HB2.out)
  obtain ⟨g', A1, c1, e1, b1, hC1, hc1⟩ := HS.out.below HB2.out
  cases e1
  obtain ⟨x0', x1', _, _⟩ := blkA2 b1
  have hxa : (w2.alloc (.cells #[] 3 (0, 0))).cell? ⟨g, 1, none⟩ = some (.slice A1 (ints L).length c1) := pw_cell_below (below_alloc (Below.refl _ _) _) x1'
  have hcl := Aside0.mk (show (ints L).length * 8 ≤ 140737488355328 by have := HLN.out; rw [ints_length]; omega)
  go_upto_region 7 with ((with_reducible refine gate_builtin (b := .append) (xs := #[.tmp 28, .tmp 32]) rfl ?_); at_builtin; refine Owned.clone (Kd.int .i64) HO.out (.tmp 28) (.tmp 32) 22 3 (.int .i64 0) 8 Try.underlying22 info3 rfl (by decide) (by decide) hcl.out (fun _ _ h => h) (Kd.C_alloc hC1 _) ?_ rfl rfl rfl rfl; intro v2 w3 h2; have HB3 := Aside0.mk h2.below; clear h2 x0' x1' hxa hC1 hc1 b1)
  clear HO HB1 HB2
  go_wp2_with fail
  go_loopw [9, 10] (fun vn vi W => ∃ (i m : Nat), vi = .int .i64 i ∧ i ≤ (ints x0).length ∧ vn = .int .u64 m ∧ Aside0 (m + rankP (L.drop i) (x0.drop i) = rankP L x0) ∧ Aside0 (Below w.heap.size w W)) (fun _ vi _ => (ints x0).length - (intOf vi).toNat)
  case atStart => exact ⟨0, 0, rfl, Nat.zero_le _, rfl, ⟨Nat.zero_add _⟩, HB3⟩
  case round =>
    clear HB3
    obtain ⟨i, m, rfl, hi, rfl, HRK, HB⟩ := hrel
    by_cases hlt : i < (ints x0).length
    · have hix : i < x0.length := by rw [← ints_length x0]; exact hlt
      obtain ⟨d1, d2, d3⟩ := isP_drop i HI.out hix
      obtain ⟨p1, p2⟩ := prod_suffix (i + 1) HPP.out
      obtain ⟨P1, hP1⟩ : ∃ P1, prod (L.drop (i + 1)) = P1 := ⟨_, rfl⟩
      obtain ⟨x, hx⟩ : ∃ x, x0.getD i 0 = x := ⟨_, rfl⟩
      rw [hx] at d1 d2
      rw [hP1] at p1 p2 d2
      have hrl := rankP_lt HI.out
      have HRK2 : m + x * P1 + rankP (L.drop (i + 1)) (x0.drop (i + 1)) = rankP L x0 := by rw [Nat.add_assoc, ← d2]; exact HRK.out
      have HR2 := Aside0.mk HRK2
      have hi2 := Aside0.mk hlt
      have hi3 := Aside0.mk (show i + 1 ≤ L.length by rw [← HLX.out]; exact hix)
      have hwi := Aside0.mk (Big.next_nat hlt (Nat.le_trans (by rw [ints_length, HLX.out]; exact HLN.out) (by decide)))
      have hwl := Aside0.mk (show Big.wordR (cntV 1 L (i + 1)) = ((P1 : Int), true) by unfold cntV; rw [if_pos rfl, hP1, word_ok (Nat.lt_of_le_of_lt p2 HM.out)])
      have hm2 := Aside0.mk (show m + x * P1 < 18446744073709551616 from Nat.lt_of_le_of_lt (Nat.le_trans (Nat.le_add_right _ _) (Nat.le_of_eq HRK2)) (Nat.lt_trans hrl HM.out))
      have hmx := Aside0.mk (show x * P1 < 18446744073709551616 from Nat.lt_of_le_of_lt (Nat.le_add_left _ _) hm2.out)
      have hx9 : x < 9223372036854775808 := Nat.lt_trans d1 (getD_small (HF.out.p rfl) i)
      have hw : IntKind.u64.wrap (x : Int) = (x : Int) := Big.wrap_nat (by clear d2 hP1 HRK2; omega)
      obtain ⟨ad, rfl, hxk⟩ := Kd.at_int (Kd.C_below HA.out HB.out) (i : Int) (Int.natCast_nonneg i) (Int.ofNat_lt.2 hlt)
      rw [rd_ints, hx, Int.toNat_natCast] at hxk
      have HXK := Aside0.mk hxk
      have HWX := Aside0.mk hw
      obtain ⟨g2, A2, c2, e2, b2, hC2, hc2⟩ := HS.out.below HB.out
      cases e2
      obtain ⟨hkc, hkl, _, _⟩ := blkA2 b2
      have HC3 := Aside0.mk hC2
      have HR3 := Aside0.mk (HS.out.below HB.out)
      clear hP1 d1 d2 d3 p1 p2 hx hrl HRK2 hx9 hC2 hix b2 hw hxk
      go_upto_region 13 with (first
        | (go_at_call 28; (with_reducible refine (count_c (a := i + 1) HR3.out HC3.out hc2 rfl HF.out hi3.out hwi.out).mono ?_); rintro e w6 ⟨v6, rfl, h6, h7⟩; have HB6 := Aside0.mk h6; have HW6 := Aside0.mk h7; clear h6 h7)
        | (go_at_call 27; (with_reducible refine (word_c HB6.out (by decide)).mono ?_); rw [hwl.out]; rintro e w7 ⟨rfl, h7⟩; have HW7 := Aside0.mk (below_then HW6.out HW6.out.size (drawn_below h7)); clear h7))
      have hxk := pw_cell_below HW7.out HXK.out
      have hw := HWX.out
      have HB7 := Aside0.mk (below_then HB.out HB.out.size HW7.out)
      clear HB6 HW6 hkc hkl HC3 HR3 hc2
      go_wp2_with fail
      exact ⟨⟨i + 1, m + x * P1, by rw [hwi.out], hi2.out, by rw [Mul64.mulN, Big.wrap_nat hmx.out, Mul64.addN, Big.wrap_nat hm2.out], HR2, HB7⟩, by rw [hwi.out]; exact nat_dec hi2.out⟩
    · have hil : i = x0.length := Nat.le_antisymm (by rw [← ints_length x0]; exact hi) (by rw [← ints_length x0]; exact Nat.le_of_not_lt hlt)
      have HE := Aside0.mk (show m = rankP L x0 by
        have h := HRK.out
        rw [hil, rank_end HI.out] at h
        exact h)
      clear hil
      go_wp2_with fail
      go_ret2
      exact ⟨by rw [← HE.out]; rfl, HB.out⟩
end Go.Proofs.Ytohpboblmmbjnaa.P
/- Is of the document's products. -/
namespace Go.Proofs.Ytohpboblmmbjnaa.P
open Go Go.RowKit Go.Proofs.YtohpboblmmbjnaaW.PrintWords Go.Proofs.YtohpboblmmbjnaaW.PrintLast Go.Proofs.YtohpboblmmbjnaaW.PrintMore Go.Proofs.Odo
/-- Are numbers below sizes? (lists of one length) -/
def isPb : List Nat → List Int → Bool
  | p :: ps, x :: xs => decide (0 ≤ x ∧ x < (p : Int)) && isPb ps xs
  | _, _ => true
theorem isPb_step {L : List Nat} {xs : List Int} {i : Nat} (h1 : i < L.length) (h2 : i < xs.length) : isPb (L.drop i) (xs.drop i) = (decide (0 ≤ rd xs (i : Int) ∧ rd xs (i : Int) < ((L.getD i 0 : Nat) : Int)) && isPb (L.drop (i + 1)) (xs.drop (i + 1))) := by
  rw [List.drop_eq_getElem_cons h1, List.drop_eq_getElem_cons h2, isPb]
  unfold rd
  rw [Int.toNat_natCast, List.getD_eq_getElem?_getD, List.getD_eq_getElem?_getD, List.getElem?_eq_getElem h1, List.getElem?_eq_getElem h2]
  rfl
theorem isPb_end {L : List Nat} {xs : List Int} : isPb (L.drop xs.length) (xs.drop xs.length) = true := by
  rw [List.drop_eq_nil_of_le (Nat.le_refl xs.length)]
  cases L.drop xs.length <;> rfl
theorem isPb_iff : ∀ {L : List Nat} {xs : List Int}, xs.length = L.length → (isPb L xs = true ↔ ∃ x, xs = ints x ∧ IsP L x)
  | [], [], _ => ⟨fun _ => ⟨[], rfl, trivial⟩, fun _ => rfl⟩
  | [], _ :: _, h => by simp at h
  | _ :: _, [], h => by simp at h
  | p :: ps, y :: ys, h => by
    have ih := isPb_iff (L := ps) (xs := ys) (by simpa using h)
    rw [isPb, Bool.and_eq_true, decide_eq_true_eq, ih]
    constructor
    · rintro ⟨⟨h0, h1⟩, x, rfl, hx⟩
      exact ⟨y.toNat :: x, by show y :: ints x = ((y.toNat : Nat) : Int) :: ints x; rw [Int.toNat_of_nonneg h0], by omega, hx⟩
    · rintro ⟨x, e, hx⟩
      match x, e, hx with
      | a :: x, e, hx =>
        have e' : y :: ys = (a : Int) :: ints x := e
        injection e' with e1 e2
        subst e1 e2
        exact ⟨⟨Int.natCast_nonneg a, Int.ofNat_lt.2 hx.1⟩, x, rfl, hx.2⟩
set_option maxHeartbeats 8000000 in
set_option maxRecDepth 100000 in
theorem risp_c {w : World} {v : Value} {L : List Nat} {xs : List Int} {A : Option Addr} {c : Nat} {b : Bool} (hs : RefS w v 1 (ints L)) (F : FitL 1 L) (hl : Kd.C (Kd.int .i64) w A xs.length xs) (hx : xs.length < 9223372036854775807) (hb : (decide (xs.length = L.length) && isPb L xs) = b) :
    Calls Try.prog 31 #[v, .slice A xs.length c] w fun e W' => e = .returned (.bool b) ∧ Below w.heap.size w W' := by
  have HS := Aside0.mk hs
  obtain ⟨g, A0, c0, rfl, b0, hC, hc0⟩ := hs
  have HF := Aside0.mk F
  have HA := Aside0.mk hl
  have HLN := Aside0.mk F.n
  have HX := Aside0.mk hx
  have HLV := Aside0.mk (show lenV 1 L = L.length by unfold lenV; rw [if_pos rfl])
  clear hC hc0 F b0 hl hx
  by_cases hlen : xs.length = L.length
  · rw [decide_eq_true hlen, Bool.true_and] at hb
    have HBB := Aside0.mk hb
    have HEL := Aside0.mk hlen
    have d0 : ((xs.length : Int) != (L.length : Int)) = false := by simp [hlen]
    have h8 := Aside0.mk (show (((ints L).length : Nat) : Int).toNat * 8 ≤ 281474976710656 by have := HLN.out; rw [ints_length, Int.toNat_natCast]; omega)
    clear hb hlen
    go_enter Try.func31, Try.ntmps31
    go_upto_region 3 with (go_at_call 29; (with_reducible refine (rlength_c HS.out HF.out).mono ?_); rw [HLV.out]; rintro e w1 ⟨rfl, hb1⟩; have HB1 := Aside0.mk hb1; clear hb1)
    have HO := Aside0.mk ((Owned.nil w).later HB1.out)
    obtain ⟨g', A1, c1, e1, b1, hC1, hc1⟩ := HS.out.below HB1.out
    cases e1
    obtain ⟨x0', x1', _, _⟩ := blkA2 b1
    clear d0
    go_upto_region 4 with ((with_reducible refine gate_dst (N := 17) rfl ?_); refine Owned.make (Kd.int .i64) HO.out 3 (N := 17) 22 (((ints L).length : Nat) : Int) (.int .i64 0) 8 0 (fun _ _ _ => rfl) _ _ Try.underlying22 info3 rfl (by decide) (by decide) (Int.natCast_nonneg _) h8.out ?_ rfl rfl rfl rfl rfl; intro v5 w5 h5; have HB5 := Aside0.mk h5.below; clear h5 x0' x1' hC1 hc1 b1)
    clear HO HB1
    go_wp2_with fail
    go_loopw [6] (fun vi W => ∃ (i : Nat), vi = .int .i64 i ∧ i ≤ xs.length ∧ Aside0 (isPb (L.drop i) (xs.drop i) = b) ∧ Aside0 (Below w.heap.size w W)) (fun vi _ => xs.length - (intOf vi).toNat)
    case atStart => exact ⟨0, rfl, Nat.zero_le _, HBB, HB5⟩
    case round =>
      clear HB5 HBB
      obtain ⟨i, rfl, hi, HBB, HB⟩ := hrel
      obtain ⟨g2, A2, c2, e2, b2, hC2, hc2⟩ := HS.out.below HB.out
      cases e2
      obtain ⟨hkc, hkl, _, _⟩ := blkA2 b2
      by_cases hlt : i < xs.length
      · have hst := isPb_step (L := L) (xs := xs) (by rw [← HEL.out]; exact hlt) hlt
        obtain ⟨y, hy⟩ : ∃ y, L.getD i 0 = y := ⟨_, rfl⟩
        obtain ⟨x, hx⟩ : ∃ x, rd xs (i : Int) = x := ⟨_, rfl⟩
        obtain ⟨ad, rfl, hxk⟩ := Kd.at_int (Kd.C_below HA.out HB.out) (i : Int) (Int.natCast_nonneg i) (Int.ofNat_lt.2 hlt)
        obtain ⟨bd, rfl, hyk⟩ := Kd.at_int hC2 (i : Int) (Int.natCast_nonneg i) (Int.ofNat_lt.2 (by rw [ints_length, ← HEL.out]; exact hlt))
        rw [hx, Int.toNat_natCast] at hxk
        rw [rd_ints, hy, Int.toNat_natCast] at hyk
        rw [hx, hy, HBB.out] at hst
        have HST := Aside0.mk hst
        have hii : i < (ints L).length := by rw [ints_length, ← HEL.out]; exact hlt
        have HI := Aside0.mk hlt
        have hwi := Aside0.mk (Big.next_nat hlt (by rw [HEL.out]; exact Nat.le_trans HLN.out (by decide)))
        clear hx hy hst hC2 hc2 b2
        go_upto_region 8 with fail
        by_cases hx0 : x < 0
        · have hb : b = false := by rw [HST.out, decide_eq_false (by omega)]; rfl
          subst hb
          have d1 : decide (x < 0) = true := decide_eq_true hx0
          go_quiet (fail)
          go_wp2_with fail
          go_ret
          exact ⟨rfl, pw_below_drewN HB.out _⟩
        · have d1 : decide (x < 0) = false := decide_eq_false hx0
          by_cases hxy : x < (y : Int)
          · have hb : isPb (L.drop (i + 1)) (xs.drop (i + 1)) = b := by rw [HST.out, decide_eq_true ⟨Int.not_lt.1 hx0, hxy⟩, Bool.true_and]
            have HBN := Aside0.mk hb
            have d2 : decide ((y : Int) ≤ x) = false := decide_eq_false (by omega)
            clear hb
            go_quiet (fail)
            go_wp2_with fail
            exact ⟨⟨i + 1, by rw [hwi.out], HI.out, HBN, ⟨pw_below_drewN HB.out _⟩⟩, by rw [hwi.out]; exact nat_dec HI.out⟩
          · have hb : b = false := by rw [HST.out, decide_eq_false (fun h => hxy h.2)]; rfl
            subst hb
            have d2 : decide ((y : Int) ≤ x) = true := decide_eq_true (by omega)
            go_quiet (fail)
            go_wp2_with fail
            go_ret
            exact ⟨rfl, pw_below_drewN HB.out _⟩
      · have hil : i = xs.length := Nat.le_antisymm hi (Nat.le_of_not_lt hlt)
        have hb : b = true := by rw [← HBB.out, hil, isPb_end]
        subst hb
        clear hil
        go_wp2_with fail
        go_ret
        exact ⟨rfl, HB.out⟩
  · have hb' : b = false := by rw [← hb, decide_eq_false hlen]; rfl
    subst hb'
    have d0 : ((xs.length : Int) != (L.length : Int)) = true := by simpa using (fun h => hlen (Int.ofNat_inj.1 h))
    clear hb
    go_enter Try.func31, Try.ntmps31
    go_wp2_with (go_at_call 29; (with_reducible refine (rlength_c HS.out HF.out).mono ?_); rw [HLV.out]; rintro e w1 ⟨rfl, hb1⟩; have HB1 := Aside0.mk hb1; clear hb1)
    go_ret
    exact ⟨rfl, HB1.out⟩
end Go.Proofs.Ytohpboblmmbjnaa.P
/- Is of the document's weaves. -/
namespace Go.Proofs.Ytohpboblmmbjnaa.P
open Go Go.RowKit Go.Proofs.YtohpboblmmbjnaaW.PrintWords Go.Proofs.YtohpboblmmbjnaaW.PrintLast Go.Proofs.YtohpboblmmbjnaaW.PrintMore Go.Proofs.Odo
/-- May numbers stand, one behind the other? -/
def isWb : List Nat → List Int → Bool
  | _, [] => true
  | f, x :: xs => decide (0 ≤ x ∧ x < (f.length : Int) ∧ f.getD x.toNat 0 ≠ 0) && isWb (less f x.toNat) xs
theorem isWb_step {f : List Nat} {xs : List Int} {i : Nat} (h2 : i < xs.length) : isWb f (xs.drop i) = (decide (0 ≤ rd xs (i : Int) ∧ rd xs (i : Int) < (f.length : Int) ∧ f.getD (rd xs (i : Int)).toNat 0 ≠ 0) && isWb (less f (rd xs (i : Int)).toNat) (xs.drop (i + 1))) := by
  rw [List.drop_eq_getElem_cons h2, isWb]
  unfold rd
  have e : xs.getD i 0 = xs[i] := by rw [List.getD_eq_getElem?_getD, List.getElem?_eq_getElem h2]; rfl
  rw [Int.toNat_natCast, e]
theorem isWb_iff : ∀ {xs : List Int} {f : List Nat}, xs.length = f.sum → (isWb f xs = true ↔ ∃ x, xs = ints x ∧ Is f x)
  | [], f, h => ⟨fun _ => ⟨[], rfl, h.symm⟩, fun _ => rfl⟩
  | y :: ys, f, h => by
    rw [isWb, Bool.and_eq_true, decide_eq_true_eq]
    constructor
    · rintro ⟨⟨h0, h1, h2⟩, hr⟩
      have hs := less_sum f y.toNat h2
      obtain ⟨x, rfl, hx⟩ := (isWb_iff (xs := ys) (f := less f y.toNat) (by rw [List.length_cons] at h; omega)).1 hr
      exact ⟨y.toNat :: x, by show y :: ints x = ((y.toNat : Nat) : Int) :: ints x; rw [Int.toNat_of_nonneg h0], h2, hx⟩
    · rintro ⟨x, e, hx⟩
      match x, e, hx with
      | a :: x, e, hx =>
        have e' : y :: ys = (a : Int) :: ints x := e
        injection e' with e1 e2
        subst e1
        rw [Int.toNat_natCast]
        have hs := less_sum f a hx.1
        exact ⟨⟨Int.natCast_nonneg a, Int.ofNat_lt.2 (getD_lt hx.1), hx.1⟩, (isWb_iff (xs := ys) (f := less f a) (by rw [List.length_cons] at h; omega)).2 ⟨x, e2, hx.2⟩⟩
theorem less_getD (f : List Nat) (j k : Nat) (h : f.getD j 0 ≠ 0) : (less f j).getD k 0 = if j = k then f.getD k 0 - 1 else f.getD k 0 := by
  have hj := getD_lt h
  rw [less, List.getD_eq_getElem?_getD, List.getElem?_set, if_pos hj]
  split
  · rename_i e
    subst e
    rfl
  · rw [List.getD_eq_getElem?_getD]
theorem incr_getD (s : List Nat) (j k : Nat) (hj : j < s.length) : (s.set j (s.getD j 0 + 1)).getD k 0 = if j = k then s.getD k 0 + 1 else s.getD k 0 := by
  rw [List.getD_eq_getElem?_getD, List.getElem?_set, if_pos hj]
  split
  · rename_i e
    subst e
    rfl
  · rw [List.getD_eq_getElem?_getD]
theorem rep_getD (n j : Nat) : (List.replicate n 0).getD j 0 = 0 := by
  rw [List.getD_eq_getElem?_getD, List.getElem?_replicate]
  split <;> rfl
set_option maxHeartbeats 8000000 in
set_option maxRecDepth 100000 in
theorem risw_c {w : World} {v : Value} {L : List Nat} {xs : List Int} {A : Option Addr} {c : Nat} {kd : Int} {b : Bool} (hs : RefS w v kd (ints L)) (hk : kd ≠ 1) (F : FitL kd L) (hl : Kd.C (Kd.int .i64) w A xs.length xs) (hx : xs.length < 9223372036854775807) (hb : (decide (xs.length = L.sum) && isWb L xs) = b) :
    Calls Try.prog 31 #[v, .slice A xs.length c] w fun e W' => e = .returned (.bool b) ∧ Below w.heap.size w W' := by
  have HS := Aside0.mk hs
  obtain ⟨g, A0, c0, rfl, b0, hC, hc0⟩ := hs
  have HF := Aside0.mk F
  have HA := Aside0.mk hl
  have HLN := Aside0.mk F.n
  have HX := Aside0.mk hx
  have HK := Aside0.mk hk
  have HSM := Aside0.mk (F.w hk)
  have HLV := Aside0.mk (show lenV kd L = L.sum by unfold lenV; rw [if_neg hk])
  clear hC hc0 F b0 hl hx hk
  by_cases hlen : xs.length = L.sum
  · rw [decide_eq_true hlen, Bool.true_and] at hb
    have HBB := Aside0.mk hb
    have HEL := Aside0.mk hlen
    have d0 : ((xs.length : Int) != (L.sum : Int)) = false := by simp [hlen]
    have h8 := Aside0.mk (show (((ints L).length : Nat) : Int).toNat * 8 ≤ 281474976710656 by have := HLN.out; rw [ints_length, Int.toNat_natCast]; omega)
    clear hb hlen
    go_enter Try.func31, Try.ntmps31
    go_upto_region 3 with (go_at_call 29; (with_reducible refine (rlength_c HS.out HF.out).mono ?_); rw [HLV.out]; rintro e w1 ⟨rfl, hb1⟩; have HB1 := Aside0.mk hb1; clear hb1)
    have HO := Aside0.mk ((Owned.nil w).later HB1.out)
    obtain ⟨g', A1, c1, e1, b1, hC1, hc1⟩ := HS.out.below HB1.out
    cases e1
    obtain ⟨x0', x1', _, _⟩ := blkA2 b1
    clear d0
    go_upto_region 4 with ((with_reducible refine gate_dst (N := 17) rfl ?_); refine Owned.make (Kd.int .i64) HO.out 3 (N := 17) 22 (((ints L).length : Nat) : Int) (.int .i64 0) 8 0 (fun _ _ _ => rfl) _ _ Try.underlying22 info3 rfl (by decide) (by decide) (Int.natCast_nonneg _) h8.out ?_ rfl rfl rfl rfl rfl; intro v5 w5 h5; rw [Int.toNat_natCast] at h5; obtain ⟨Y, cy, e5⟩ := row_slice (h5.get (j := 0) rfl); rw [List.length_replicate] at e5; subst e5; rw [Big.ints_rep] at h5; have HO5 := Aside0.mk h5; clear h5 x0' x1' hC1 hc1 b1)
    clear HO HB1
    have hk1 : (kd == 1) = false := beq_eq_false_iff_ne.2 HK.out
    have HK1 := Aside0.mk hk1
    clear hk1
    go_wp2_with fail
    go_loopw [6] (fun vi W => ∃ (i : Nat), vi = .int .i64 i ∧ i ≤ xs.length ∧ Aside0 (∃ f s : List Nat, isWb f (xs.drop i) = b ∧ f.length = L.length ∧ s.length = L.length ∧ (∀ j, s.getD j 0 + f.getD j 0 = L.getD j 0) ∧ Owned w [.row (Kd.int .i64) 3 (.slice Y (ints L).length cy) (ints s)] W)) (fun vi _ => xs.length - (intOf vi).toNat)
    case atStart => exact ⟨0, rfl, Nat.zero_le _, ⟨L, List.replicate (ints L).length 0, HBB.out, rfl, by rw [List.length_replicate, ints_length], fun j => by rw [rep_getD, Nat.zero_add], HO5.out⟩⟩
    case round =>
      clear HO5 HBB
      obtain ⟨i, rfl, hi, HX1⟩ := hrel
      obtain ⟨f, s, hw, lf, ls, hsf, hO⟩ := HX1.out
      have HO := Aside0.mk hO
      have LF := Aside0.mk lf
      have LS := Aside0.mk ls
      have HSF := Aside0.mk hsf
      have HBB := Aside0.mk hw
      clear HX1 hO lf ls hsf hw
      obtain ⟨g2, A2, c2, e2, b2, hC2, hc2⟩ := HS.out.below HO.out.below
      cases e2
      obtain ⟨hkc, hkl, _, _⟩ := blkA2 b2
      by_cases hlt : i < xs.length
      · have hst := isWb_step (f := f) (xs := xs) hlt
        obtain ⟨x, hx⟩ : ∃ x, rd xs (i : Int) = x := ⟨_, rfl⟩
        obtain ⟨ad, rfl, hxk⟩ := Kd.at_int (Kd.C_below HA.out HO.out.below) (i : Int) (Int.natCast_nonneg i) (Int.ofNat_lt.2 hlt)
        rw [hx, Int.toNat_natCast] at hxk
        have HXI := Aside0.mk hx
        rw [hx, HBB.out, LF.out] at hst
        have HST := Aside0.mk hst
        have HI := Aside0.mk hlt
        have hwi := Aside0.mk (Big.next_nat hlt (by rw [HEL.out]; exact Nat.le_trans HSM.out (by decide)))
        have hk1 := HK1.out
        clear hx hst hc2 b2
        go_upto_region 10 with fail
        by_cases hx0 : x < 0
        · have hb : b = false := by rw [HST.out, decide_eq_false (fun h => absurd h.1 (Int.not_le.2 hx0))]; rfl
          subst hb
          have d1 : decide (x < 0) = true := decide_eq_true hx0
          go_quiet (fail)
          go_wp2_with fail
          go_ret
          exact ⟨rfl, pw_below_drewN HO.out.below _⟩
        · obtain ⟨j, rfl⟩ : ∃ j : Nat, x = j := ⟨x.toNat, by omega⟩
          have d1 : decide ((j : Int) < 0) = false := decide_eq_false hx0
          by_cases hjl : j < L.length
          · have hjl2 : j < (ints L).length := by rw [ints_length]; exact hjl
            have d2 : decide (((ints L).length : Int) ≤ (j : Int)) = false := decide_eq_false (by omega)
            have d2' : decide ((ints L).length ≤ j) = false := decide_eq_false (by omega)
            obtain ⟨bd, rfl, hyk⟩ := Kd.at_int hC2 (j : Int) (Int.natCast_nonneg j) (Int.ofNat_lt.2 hjl2)
            obtain ⟨gl, rfl, hc, hf⟩ := row_at HO.out (j := 0) rfl hjl2
            obtain ⟨y, hy⟩ : ∃ y, L.getD j 0 = y := ⟨_, rfl⟩
            obtain ⟨z, hz⟩ : ∃ z, s.getD j 0 = z := ⟨_, rfl⟩
            rw [rd_ints, hy, Int.toNat_natCast] at hyk
            rw [rd_ints, hz] at hc
            have hsum := HSF.out j
            rw [hy, hz] at hsum
            have HSU := Aside0.mk hsum
            have HZ := Aside0.mk hz
            have HJ := Aside0.mk hjl
            clear hy hz hsum hjl hC2
            by_cases hzy : z = y
            · have hb : b = false := by rw [HST.out, decide_eq_false (fun h => h.2.2 (by rw [Int.toNat_natCast]; have := HSU.out; omega))]; rfl
              subst hb
              have d3 : ((z : Int) == (y : Int)) = true := beq_iff_eq.2 (by omega)
              go_quiet (fail)
              go_wp2_with fail
              go_ret
              exact ⟨rfl, pw_below_drewN HO.out.below _⟩
            · have hfj : f.getD j 0 ≠ 0 := by have := HSU.out; omega
              have HFJ := Aside0.mk hfj
              have hb : isWb (less f j) (xs.drop (i + 1)) = b := by rw [HST.out, decide_eq_true ⟨Int.natCast_nonneg j, Int.ofNat_lt.2 HJ.out, by rw [Int.toNat_natCast]; exact hfj⟩, Bool.true_and, Int.toNat_natCast]
              have HBN := Aside0.mk hb
              have d3 : ((z : Int) == (y : Int)) = false := beq_eq_false_iff_ne.2 (by omega)
              have hinc := Aside0.mk (show wrap64 ((z : Int) + 1) = ((z + 1 : Nat) : Int) by
                have h1 := HSU.out
                have h2 := HSF.out j
                rw [HZ.out] at h2
                have h3 := getD_le_sum L j
                have h4 := HSM.out
                unfold wrap64
                omega)
              clear hb hfj
              go_quiet (fail)
              have HOd := Aside0.mk (HO.out.drewN nq)
              clear HO hxk hc hf hyk d1 d2 d2' d3 hkc hkl hk1
              generalize World.drewN _ _ = W6 at HOd ⊢
              obtain ⟨ad', ea, hxk⟩ := Kd.at_int (Kd.C_below HA.out HOd.out.below) (i : Int) (Int.natCast_nonneg i) (Int.ofNat_lt.2 HI.out)
              cases ea
              rw [HXI.out, Int.toNat_natCast] at hxk
              obtain ⟨gm, eg, hc, hf⟩ := row_at HOd.out (j := 0) rfl hjl2
              obtain rfl : gl = gm := by injection eg with eg; injection eg
              rw [rd_ints, HZ.out] at hc
              clear eg
              go_wp2_with fail
              refine ⟨⟨i + 1, by rw [hwi.out], HI.out, ⟨less f j, s.set j (s.getD j 0 + 1), HBN.out, by rw [less_length, LF.out], by rw [List.length_set, LS.out], fun k => ?_, ?_⟩⟩, by rw [hwi.out]; exact nat_dec HI.out⟩
              · rw [less_getD f j k HFJ.out, incr_getD s j k (by rw [LS.out]; exact HJ.out)]
                have h1 := HSF.out k
                by_cases e : j = k
                · subst e
                  rw [if_pos rfl, if_pos rfl]
                  have h2 := HFJ.out
                  omega
                · rw [if_neg e, if_neg e]; exact h1
              · have h := HOd.out.num (j := 0) rfl j (wrap64 ((z : Int) + 1))
                have e : (ints s).set j (wrap64 ((z : Int) + 1)) = ints (s.set j (s.getD j 0 + 1)) := by rw [hinc.out, Big.ints_set, HZ.out]
                rw [e] at h
                exact h
          · have hb : b = false := by rw [HST.out, decide_eq_false (fun h => hjl (Int.ofNat_lt.1 h.2.1))]; rfl
            subst hb
            have hjl2 : ¬ j < (ints L).length := by rw [ints_length]; exact hjl
            have d2 : decide (((ints L).length : Int) ≤ (j : Int)) = true := decide_eq_true (by omega)
            have d2' : decide ((ints L).length ≤ j) = true := decide_eq_true (by omega)
            clear hjl
            go_quiet (fail)
            go_wp2_with fail
            go_ret
            exact ⟨rfl, pw_below_drewN HO.out.below _⟩
      · have hil : i = xs.length := Nat.le_antisymm hi (Nat.le_of_not_lt hlt)
        have hb : b = true := by rw [← HBB.out, hil, List.drop_length]; rfl
        subst hb
        clear hil
        go_wp2_with fail
        go_ret
        exact ⟨rfl, HO.out.below⟩
  · have hb' : b = false := by rw [← hb, decide_eq_false hlen]; rfl
    subst hb'
    have d0 : ((xs.length : Int) != (L.sum : Int)) = true := by simpa using (fun h => hlen (Int.ofNat_inj.1 h))
    clear hb
    go_enter Try.func31, Try.ntmps31
    go_wp2_with (go_at_call 29; (with_reducible refine (rlength_c HS.out HF.out).mono ?_); rw [HLV.out]; rintro e w1 ⟨rfl, hb1⟩; have HB1 := Aside0.mk hb1; clear hb1)
    go_ret
    exact ⟨rfl, HB1.out⟩
end Go.Proofs.Ytohpboblmmbjnaa.P
/- The contract of slices.Repeat at a list of one number, and of Orders. -/
namespace Go.Proofs.Ytohpboblmmbjnaa.P
open Go.RowKit Go.Proofs.YtohpboblmmbjnaaW.PrintWords Go.Proofs.YtohpboblmmbjnaaW.PrintLast Go.Proofs.YtohpboblmmbjnaaW.PrintMore

/-- A row of n cells, of which the first m are filled. -/
def fill (n m : Nat) (x : Int) : List Value := List.replicate m (.int .i64 x) ++ List.replicate (n - m) (.int .i64 0)
theorem fill_length {n m : Nat} (x : Int) (h : m ≤ n) : (fill n m x).length = n := by simp [fill]; omega
theorem fill_splice {n m k : Nat} (x : Int) (h : m + k ≤ n) : splice (fill n m x) m (List.replicate k (.int .i64 x)) = fill n (m + k) x := by
  unfold splice fill
  rw [List.take_append_of_le_length (by simp), List.take_of_length_le (by simp), List.length_replicate, ← List.append_assoc, List.replicate_append_replicate, List.drop_append]
  rw [List.drop_of_length_le (by simp), List.nil_append, List.length_replicate, List.drop_replicate]
  congr 2
  omega
theorem fill_at {n m j : Nat} (x : Int) (h : j < m) : (fill n m x)[j]? = some (.int .i64 x) := by
  unfold fill
  rw [List.getElem?_append_left (by simpa using h), List.getElem?_replicate]
  simp [h]
theorem fill_full (n : Nat) (x : Int) : fill n n x = encs (Value.int .i64) (List.replicate n x) := by simp [fill, encs]

/-- The first copy: of the one element, if there is room. -/
theorem first_copy (x : Int) (n : Nat) (ad : Addr) (c : Nat) (w : World) (hx : w.cell? (ad.add 0) = some (.int .i64 x)) (nd : Nat) :
    ∃ w2 : World, (Builtin.copy_ #[22, 22] 3 #[.slice (some ⟨w.heap.size, 0, none⟩) n n, .slice (some ad) 1 c]).run Try.prog ((w.drewN nd).alloc (.cells (madeCells #[.int .i64 0] n) 3)) = .ok (goInt (Nat.min 1 n)) w2 ∧
      w2.heap[w.heap.size]? = some (.cells (fill n (Nat.min 1 n) x).toArray 3 (0, 0)) ∧ Below w.heap.size w w2 := by
  have hsz : (Try.prog.info? 3).map (·.size) = some 1 := by kernel_rfl
  have hB : Below w.heap.size w ((w.drewN nd).alloc (.cells (madeCells #[.int .i64 0] n) 3)) := below_alloc (pw_below_drewN (Below.refl _ _) _) _
  have hg : ((w.drewN nd).alloc (.cells (madeCells #[.int .i64 0] n) 3)).heap[w.heap.size]? = some (.cells (fill n 0 x).toArray 3 (0, 0)) := by
    have h := World.alloc_heap_new (w.drewN nd) (.cells (madeCells #[.int .i64 0] n) 3)
    have e : madeCells #[Value.int .i64 0] n = (fill n 0 x).toArray := by
      rw [← Array.toArray_toList (xs := madeCells #[Value.int .i64 0] n), toList_madeCells_one]
      simp [fill]
    rw [e] at h ⊢
    exact h
  rcases Nat.eq_zero_or_pos n with h | h
  · subst h
    exact ⟨_, run_copy_none _ 22 22 3 3 _ _ 0 0 1 c Try.underlying22 hsz rfl, hg, hB⟩
  · have hm : Nat.min 1 n = 1 := Nat.min_eq_left h
    rw [hm]
    refine ⟨_, run_copy_row (P := Try.prog) _ 22 22 3 3 w.heap.size 0 n n ad 1 c (fill n 0 x).toArray 3 [.int .i64 x] Try.underlying22 hsz hg (by simp [hm]) ?_ ?_ ?_, ?_, below_setRow hB (Nat.le_refl _) _⟩
    · intro j v hj
      obtain ⟨h1, h2⟩ := List.getElem?_eq_some_iff.1 hj
      simp at h1
      subst h1
      simp at h2
      rw [← h2]
      exact pw_cell_below hB hx
    · simp [fill]; omega
    · intro v hv
      simp at hv
      rw [hv]; rfl
    · show (World.setRow _ w.heap.size (splice (fill n 0 x) 0 (List.replicate 1 (.int .i64 x))).toArray).heap[w.heap.size]? = _
      rw [fill_splice x (by omega)]
      exact setRow_heap _ w.heap.size _ _ 3 _ hg

set_option maxHeartbeats 2000000 in
set_option maxRecDepth 100000 in
theorem slices_Repeat_one (x : Int) (n : Nat) (hn : n ≤ 64) (A : Option Addr) (c : Nat) (w : World) (hC : Kd.C (Kd.int .i64) w A 1 [x]) :
    Calls Try.prog 33 #[.slice A 1 c, .int .i64 n] w fun e w' => ∃ v, e = .returned v ∧ Kd.R (Kd.int .i64) 3 w' w.heap.size (fun _ => True) v (List.replicate n x) ∧ Below w.heap.size w w' := by
  have hmul : Aside0 (bits_Mul.f 1 (n : Int) = some (0, (n : Int))) := ⟨by
    unfold bits_Mul.f
    have h := mul64_is 1 n (by omega) (by omega)
    rw [Nat.one_mul, Nat.div_eq_of_lt (by omega), Nat.mod_eq_of_lt (by omega)] at h
    rw [show ((1 : Nat) : Int) = 1 from rfl] at h
    rw [h]; rfl⟩
  obtain ⟨ad, rfl, hx0⟩ := Kd.at_int hC 0 (by decide) (by decide)
  have hcp := first_copy x n ad c w hx0
  clear hx0 hC
  obtain ⟨f2, hf2⟩ := Classical.axiomOfChoice hcp
  have hrun := fun nd => (hf2 nd).1
  have HF := Aside0.mk (fun nd => (hf2 nd).2)
  clear hf2 hcp
  have hsz : (Try.prog.info? 3).map (·.size) = some 1 := by kernel_rfl
  have hmk := print_make_of (P := Try.prog) 22 3 (.int .i64 0) 8 Try.underlying22 info3 rfl (by decide) n (by omega)
  have b0 : decide ((n : Int) < 0) = false := decide_eq_false (by omega)
  have b1 : decide ((9223372036854775807 : Int) < n) = false := decide_eq_false (by omega)
  obtain ⟨m0, hm0⟩ : ∃ m0, Nat.min 1 n = m0 := ⟨_, rfl⟩
  have hm1 : m0 ≤ n := by rw [← hm0]; exact Nat.min_le_right _ _
  have hm2 : Aside0 (m0 = n ∨ 1 ≤ m0) := ⟨by
    rcases Nat.eq_zero_or_pos n with h | h
    · left; rw [← hm0, h]; rfl
    · right; rw [← hm0]; exact Nat.le_min.2 ⟨Nat.le_refl _, h⟩⟩
  rw [hm0] at hrun HF
  clear hm0
  go_enter Try.func33, Try.ntmps33
  go_wp2_with (go_at_call 40; refine (bits_Mul.calls 1 n 0 n _ hmul.out).mono ?_; rintro e w1 ⟨rfl, ⟨nd, rfl⟩⟩)
  obtain ⟨HG, HB⟩ : Aside0 ((f2 nd).heap[w.heap.size]? = some (.cells (fill n m0 x).toArray 3 (0, 0))) ∧ Aside0 (Below w.heap.size w (f2 nd)) := ⟨⟨(HF.out nd).1⟩, ⟨(HF.out nd).2⟩⟩
  obtain ⟨W0, hW0⟩ : ∃ W0, f2 nd = W0 := ⟨_, rfl⟩
  rw [hW0] at HG HB ⊢
  clear HF hrun hmk hW0
  go_loopw [8] (fun v W => ∃ m : Nat, v = .int .i64 m ∧ m ≤ n ∧ Aside0 (m = n ∨ 1 ≤ m) ∧ Aside0 (W.heap[w.heap.size]? = some (.cells (fill n m x).toArray 3 (0, 0))) ∧ Aside0 (Below w.heap.size w W)) (fun v _ => n - (intOf v).toNat)
  case atStart => exact ⟨m0, rfl, hm1, hm2, HG, HB⟩
  case round =>
    obtain ⟨m, rfl, hm, hm12, hg, hb⟩ := hrel
    by_cases hlt : m < n
    · have h1m : 1 ≤ m := by
        rcases hm12.out with h | h
        · omega
        · exact h
      obtain ⟨q, hq⟩ : ∃ q, Nat.min m (n - m) = q := ⟨_, rfl⟩
      have hq1 : 1 ≤ q := by rw [← hq]; exact Nat.le_min.2 ⟨h1m, by omega⟩
      have hq2 : m + q ≤ n := by
        have : q ≤ n - m := by rw [← hq]; exact Nat.min_le_right _ _
        omega
      have hqm : q ≤ m := by rw [← hq]; exact Nat.min_le_left _ _
      obtain ⟨cs, hcs⟩ : ∃ cs, List.replicate q (Value.int .i64 x) = cs := ⟨_, rfl⟩
      have hcl : cs.length = q := by rw [← hcs]; simp
      have s0 := Aside0.mk hcl
      have s1 : Aside0 (cs.length = Nat.min m (n - m)) := ⟨by rw [hcl, hq]⟩
      have s2 : Aside0 (∀ j v, cs[j]? = some v → wr.cell? ((⟨w.heap.size, 0, none⟩ : Addr).add j) = some v) := ⟨fun j v hj => by
        rw [← hcs] at hj
        obtain ⟨h1, h2⟩ := List.getElem?_eq_some_iff.1 hj
        rw [List.length_replicate] at h1
        rw [List.getElem_replicate] at h2
        rw [add_plain, blk_cell hg.out, ← h2]
        have := fill_at (n := n) x (show j < m by omega)
        simpa using this⟩
      have s3 : Aside0 (m + cs.length ≤ (fill n m x).length) := ⟨by rw [fill_length x hm, hcl]; exact hq2⟩
      have s4 : Aside0 (∀ v ∈ cs, v.oneCell' = true) := ⟨fun v hv => by
        rw [← hcs] at hv
        rw [(List.mem_replicate.1 hv).2]; rfl⟩
      have s5 : Aside0 (splice (fill n m x) m cs = fill n (m + q) x) := ⟨by rw [← hcs]; exact fill_splice x hq2⟩
      have hne : ¬ n = m := by omega
      clear hcs hcl hq
      go_wp2_with fail
      go_region_law (refine step_copy_splice rfl (.tmp 41) (.tmp 44) 22 22 rfl 3 Try.underlying22 hsz (some ⟨w.heap.size, m, none⟩) (some ⟨w.heap.size, 0, none⟩) (n - m) (n - m) m n (by simp [Act.eval, Act.put]) (by simp [Act.eval, Act.put]) w.heap.size m (fill n m x) 3 hg.out cs s1.out (fun _ => ⟨rfl, _, rfl, s2.out⟩) s3.out s4.out w.heap.size w (below_drew hb.out) (Nat.le_refl _) ?_; intro w4 hg4 hb4; rw [s0.out])
      rw [s5.out] at hg4
      have HG4 := Aside0.mk hg4.out
      have HB4 := Aside0.mk hb4
      clear hg4 hb4
      simp [Act.put]
      rw [show IntKind.i64.wrap ((m : Int) + (q : Int)) = ((m + q : Nat) : Int) from by rw [IntKind.wrap_i64]; omega]
      go_roundw
      case rel => exact ⟨_, _, _, _, _, _, _, _, _, _, _, _, _, _, ⟨m + q, rfl, hq2, ⟨.inr (by omega)⟩, HG4, HB4⟩, rfl⟩
      case measure => simp [intOf]; omega
    · have hge : n ≤ m := by omega
      obtain rfl : m = n := by omega
      go_wp2
      go_ret
      refine ⟨_, rfl, Kd.R_of_own ⟨by simp [encs], .inr ⟨w.heap.size, m, (fill m m x).toArray, by simp, Nat.le_refl _, hg.out, by simp, by unfold maxLen; omega, by simp [fill_length x (Nat.le_refl m)], ?_⟩⟩ (fun _ _ => trivial), hb.out⟩
      rw [fill_full]
      simp [encs]
end Go.Proofs.Ytohpboblmmbjnaa.P
/- The contracts of Orders, of the statements' awake and weaves. -/
namespace Go.Proofs.Ytohpboblmmbjnaa.P
open Go.RowKit Go.Proofs.YtohpboblmmbjnaaW.PrintWords Go.Proofs.YtohpboblmmbjnaaW.PrintLast Go.Proofs.YtohpboblmmbjnaaW.PrintMore

/-- A list that has just been written out. -/
theorem lit_C (W : World) (xs : List Int) (h : xs.length ≤ 9223372036854775807) : Kd.C (Kd.int .i64) (W.alloc (.cells (nums .i64 xs).toArray 3)) (some ⟨W.heap.size, 0, none⟩) xs.length xs :=
  (Kd.R_reads' (d := Kd.int .i64) (Kd.R_of_own (ok := fun _ => True) (own_lit W 0 3 .i64 xs (Nat.zero_le _) h) (fun _ _ => trivial))).2.2

def odo_Orders.f (n : Int) : Option (List Int) × Int := if 0 ≤ n ∧ n ≤ 64 then (some (List.replicate n.toNat 1), 0) else (none, 4)

set_option maxHeartbeats 1000000 in
set_option maxRecDepth 100000 in
theorem odo_Orders.calls (n : Int) (w : World) :
    Calls Try.prog 19 #[.int .i64 n] w fun e w' => ∃ v, e = .returned (.tuple #[v, .int .i64 (odo_Orders.f n).2]) ∧ SpO 82 w' v (odo_Orders.f n).1 ∧ Below w.heap.size w w' := by
  by_cases h0 : n < 0
  · have hf : odo_Orders.f n = (none, 4) := by unfold odo_Orders.f; rw [if_neg (by omega)]
    rw [hf]
    clear hf
    have b0 : decide (n < 0) = true := decide_eq_true h0
    go_enter Try.func19, Try.ntmps19
    go_wp2
    go_ret2
    exact ⟨_, rfl, rfl, Below.refl _ _⟩
  · have b0 : decide (n < 0) = false := decide_eq_false h0
    by_cases h1 : 64 < n
    · have hf : odo_Orders.f n = (none, 4) := by unfold odo_Orders.f; rw [if_neg (by omega)]
      rw [hf]
      clear hf
      have b1 : decide (64 < n) = true := decide_eq_true h1
      go_enter Try.func19, Try.ntmps19
      go_wp2
      go_ret2
      exact ⟨_, rfl, rfl, Below.refl _ _⟩
    · have b1 : decide (64 < n) = false := decide_eq_false h1
      obtain ⟨m, rfl⟩ := Int.eq_ofNat_of_zero_le (show 0 ≤ n by omega)
      have hf : odo_Orders.f m = (some (List.replicate m 1), 0) := by unfold odo_Orders.f; rw [if_pos (by omega)]; rfl
      rw [hf]
      clear hf
      have hm : m ≤ 64 := by omega
      have hC := Aside0.mk (lit_C w [1] (by decide))
      go_enter Try.func19, Try.ntmps19
      go_wp2_with (go_at_call 33; refine (slices_Repeat_one 1 m hm _ _ _ hC.out).mono ?_; rintro e w1 ⟨v1, rfl, hR1, hB1⟩)
      have hz := hB1.size
      obtain ⟨A1, c1, rfl, hc1, hC1⟩ := Kd.R_reads hR1
      have HC1 := Aside0.mk hC1
      have HL1 := Aside0.mk hc1
      have HB1 := Aside0.mk (below_then (below_alloc (Below.refl _ w) _) (by simp) hB1)
      clear hC1 hc1 hB1 hR1
      go_wp2
      go_ret2
      exact ⟨_, rfl, SpAt.made HL1.out HC1.out, HB1.out.alloc (by simp at hz; omega) _⟩

theorem pt26 : Try.prog.underlying 26 = some (.pointer (Try.prog.pointee 26)) := by unfold Program.pointee; rw [Try.underlying26]
/-- A pointer held against nil. -/
theorem ptr26 : (∀ (op : BinOp) (W : World) (p q : Option Addr) (x y : Operand), (eqGuard op 26 x y (.pointer p) (.pointer q)).run Try.prog W = .ok () W) ∧
    (∀ (W : World) (p : Option Addr), (binOp .eql 26 (.pointer p) (.pointer none)).run Try.prog W = .ok (.bool p.isNone) W) ∧
    (∀ (W : World) (p : Option Addr), (binOp .neq 26 (.pointer p) (.pointer none)).run Try.prog W = .ok (.bool (!p.isNone)) W) :=
  ⟨fun op W p q x y => by cases op <;> rfl, fun W p => run_eql_pointer_nil W 26 p pt26, fun W p => run_neq_pointer_nil W 26 p pt26⟩
end Go.Proofs.Ytohpboblmmbjnaa.P
/- New of the document's spaces. -/
namespace Go.Proofs.Ytohpboblmmbjnaa.P
open Go Go.RowKit Go.Proofs.YtohpboblmmbjnaaW.PrintWords Go.Proofs.YtohpboblmmbjnaaW.PrintLast Go.Proofs.YtohpboblmmbjnaaW.PrintMore Go.Proofs.Odo
/-- A space made in memory of its own, or nil. -/
def NewR (w W : World) (v : Value) (kd : Int) : Option (List Int) → Prop
  | none => v = .pointer none ∧ Below w.heap.size w W
  | some l => ∃ (g : Nat) (A : Option Addr) (c : Nat), v = .pointer (some ⟨g, 0, none⟩) ∧ Owned w [.row (Kd.int .i64) 3 (.slice A l.length c) l, .box g 74 #[.int .i64 kd, .slice A l.length c]] W
theorem cl_small {n : Nat} (h : n ≤ 64) : n * 8 ≤ 140737488355328 := by omega
set_option maxHeartbeats 8000000 in
set_option maxRecDepth 100000 in
theorem rnewp_c {w : World} {l : List Int} {A : Option Addr} {c : Nat} (hl : Kd.C (Kd.int .i64) w A l.length l) :
    Calls Try.prog 25 #[.int .i64 1, .slice A l.length c] w fun e W' => ∃ v, e = .returned (.tuple #[v, .int .i64 (odo_Product.f l).2]) ∧ NewR w W' v 1 (odo_Product.f l).1 := by
  have HA := Aside0.mk hl
  clear hl
  by_cases h64 : 64 < l.length
  · have hf : odo_Product.f l = (none, 1) := by unfold odo_Product.f; rw [if_pos h64]
    rw [hf]
    clear hf
    have c3 : decide (64 < (l.length : Int)) = true := decide_eq_true (by omega)
    go_enter Try.func25, Try.ntmps25
    go_wp2_with fail
    go_ret2
    exact ⟨_, rfl, rfl, Below.refl _ _⟩
  · have c3 : decide (64 < (l.length : Int)) = false := decide_eq_false (by omega)
    have hlen := Aside0.mk (show l.length ≤ 64 by omega)
    have h64' := Aside0.mk h64
    clear h64
    go_enter Try.func25, Try.ntmps25
    go_wp2_with fail
    clear c3
    go_loopw [8] (fun vi W => ∃ k : Nat, vi = .int .i64 k ∧ k ≤ l.length ∧ Aside0 (anyNeg (l.take k) = false) ∧ Aside0 (W = w ∨ False)) (fun vi _ => l.length - (intOf vi).toNat)
    case atStart => exact ⟨0, rfl, Nat.zero_le _, ⟨by simp [anyNeg]⟩, ⟨by simp⟩⟩
    case round =>
      obtain ⟨k, rfl, hk, ha, hw⟩ := hrel
      obtain rfl := hw.out.resolve_right id
      by_cases hlt : k < l.length
      · obtain ⟨ad, rfl, hxk⟩ := Kd.at_int HA.out (k : Int) (Int.natCast_nonneg k) (Int.ofNat_lt.2 hlt)
        rw [Int.toNat_natCast] at hxk
        have hs := anyNeg_take hlt
        rw [ha.out, Bool.false_or] at hs
        have hwk := Aside0.mk (Big.next_nat hlt (Nat.le_trans hlen.out (by decide)))
        have HLT := Aside0.mk hlt
        by_cases hn : rd l k < 0
        · have hfin : Aside0 (odo_Product.f l = (none, 4)) := ⟨by
            unfold odo_Product.f
            rw [if_neg h64'.out, if_pos (anyNeg_more (k := k + 1) (by rw [hs]; exact decide_eq_true hn))]⟩
          clear hs
          have hnb : decide (rd l k < 0) = true := decide_eq_true hn
          clear hn
          go_wp2_with fail
          go_ret2
          rw [hfin.out]
          exact ⟨_, rfl, rfl, Below.refl _ _⟩
        · have hs' : Aside0 (anyNeg (l.take (k + 1)) = false) := ⟨by rw [hs]; exact decide_eq_false hn⟩
          clear hs
          have hnb : decide (rd l k < 0) = false := decide_eq_false hn
          clear hn
          go_wp2_with fail
          go_roundw
          case rel => exact ⟨k + 1, by rw [hwk.out], HLT.out, hs', ⟨by simp⟩⟩
          case measure => rw [hwk.out]; exact nat_dec HLT.out
      · have hfin : Aside0 (odo_Product.f l = (some l, 0)) := ⟨by
          unfold odo_Product.f
          have := ha.out
          rw [List.take_of_length_le (Nat.le_of_not_lt hlt)] at this
          rw [if_neg h64'.out, if_neg (by rw [this]; decide)]⟩
        have hcl := Aside0.mk (cl_small hlen.out)
        go_wp2_with (first | ((with_reducible refine gate_builtin (b := .append) (xs := #[.tmp 79, .tmp 80]) rfl ?_); at_builtin; refine Owned.clone (Kd.int .i64) (Owned.nil wr) (.tmp 79) (.tmp 80) 22 3 (.int .i64 0) 8 Try.underlying22 info3 rfl (by decide) (by decide) hcl.out (fun _ _ h => h) (Kd.C_alloc HA.out _) ?_ rfl rfl rfl rfl; intro v2 w3 h2; obtain ⟨Y, cy, e2⟩ := row_slice (h2.get (j := 0) rfl); subst e2; have HO := Aside0.mk (h2.box 74 #[.int .i64 1, .slice Y l.length cy]); clear h2))
        go_ret2
        rw [hfin.out]
        exact ⟨_, rfl, _, Y, cy, rfl, HO.out⟩
set_option maxHeartbeats 8000000 in
set_option maxRecDepth 100000 in
theorem rneww_c {w : World} {l : List Int} {A : Option Addr} {c : Nat} (hl : Kd.C (Kd.int .i64) w A l.length l) :
    Calls Try.prog 25 #[.int .i64 3, .slice A l.length c] w fun e W' => ∃ v, e = .returned (.tuple #[v, .int .i64 (odo_Weaves.f l).2]) ∧ NewR w W' v 3 (odo_Weaves.f l).1 := by
  have HA := Aside0.mk hl
  clear hl
  by_cases h64 : 64 < l.length
  · have hf : odo_Weaves.f l = (none, 1) := by unfold odo_Weaves.f; rw [if_pos h64]
    rw [hf]
    clear hf
    have c3 : decide (64 < (l.length : Int)) = true := decide_eq_true (by omega)
    go_enter Try.func25, Try.ntmps25
    go_wp2_with fail
    go_ret2
    exact ⟨_, rfl, rfl, Below.refl _ _⟩
  · have c3 : decide (64 < (l.length : Int)) = false := decide_eq_false (by omega)
    have hlen := Aside0.mk (show l.length ≤ 64 by omega)
    have h64' := Aside0.mk h64
    clear h64
    go_enter Try.func25, Try.ntmps25
    go_wp2_with fail
    clear c3
    go_loopw [8] (fun vi W => ∃ k : Nat, vi = .int .i64 k ∧ k ≤ l.length ∧ Aside0 (anyNeg (l.take k) = false) ∧ Aside0 (W = w ∨ False)) (fun vi _ => l.length - (intOf vi).toNat)
    case atStart => exact ⟨0, rfl, Nat.zero_le _, ⟨by simp [anyNeg]⟩, ⟨by simp⟩⟩
    case round =>
      obtain ⟨k, rfl, hk, ha, hw⟩ := hrel
      obtain rfl := hw.out.resolve_right id
      by_cases hlt : k < l.length
      · obtain ⟨ad, rfl, hxk⟩ := Kd.at_int HA.out (k : Int) (Int.natCast_nonneg k) (Int.ofNat_lt.2 hlt)
        rw [Int.toNat_natCast] at hxk
        have hs := anyNeg_take hlt
        rw [ha.out, Bool.false_or] at hs
        have hwk := Aside0.mk (Big.next_nat hlt (Nat.le_trans hlen.out (by decide)))
        have HLT := Aside0.mk hlt
        by_cases hn : rd l k < 0
        · have hfin : Aside0 (odo_Weaves.f l = (none, 4)) := ⟨by
            unfold odo_Weaves.f
            rw [if_neg h64'.out, if_pos (anyNeg_more (k := k + 1) (by rw [hs]; exact decide_eq_true hn))]⟩
          clear hs
          have hnb : decide (rd l k < 0) = true := decide_eq_true hn
          clear hn
          go_wp2_with fail
          go_ret2
          rw [hfin.out]
          exact ⟨_, rfl, rfl, Below.refl _ _⟩
        · have hs' : Aside0 (anyNeg (l.take (k + 1)) = false) := ⟨by rw [hs]; exact decide_eq_false hn⟩
          clear hs
          have hnb : decide (rd l k < 0) = false := decide_eq_false hn
          clear hn
          go_wp2_with fail
          go_roundw
          case rel => exact ⟨k + 1, by rw [hwk.out], HLT.out, hs', ⟨by simp⟩⟩
          case measure => rw [hwk.out]; exact nat_dec HLT.out
      · have hneg := Aside0.mk (show anyNeg l = false by
          have := ha.out
          rw [List.take_of_length_le (Nat.le_of_not_lt hlt)] at this
          exact this)
        go_wp2_with fail
        clear hlt hk ha
        go_loopw [9, 10] (fun vs vi W => ∃ k : Nat, vi = .int .i64 k ∧ k ≤ l.length ∧ vs = .int .i64 (l.take k).sum ∧ Aside0 ((l.take k).sum ≤ 64) ∧ Aside0 (W = wr ∨ False)) (fun _ vi _ => l.length - (intOf vi).toNat)
        case atStart => exact ⟨0, rfl, Nat.zero_le _, rfl, ⟨by simp⟩, ⟨by simp⟩⟩
        case round =>
          rename_i wr0 _ _ _ _
          obtain ⟨k, rfl, hk, rfl, hs64, hw⟩ := hrel
          obtain rfl := hw.out.resolve_right id
          obtain ⟨s, hs⟩ : ∃ s, (l.take k).sum = s := ⟨_, rfl⟩
          have HSS := Aside0.mk hs
          rw [hs] at hs64
          simp only [hs]
          have hs0 := Aside0.mk (show 0 ≤ s by rw [← hs]; exact (sum_le hneg.out k).1)
          have hw1 : wrap64 (64 - s) = 64 - s := by have := hs0.out; have := hs64.out; unfold wrap64; omega
          by_cases hlt : k < l.length
          · obtain ⟨ad, rfl, hxk⟩ := Kd.at_int HA.out (k : Int) (Int.natCast_nonneg k) (Int.ofNat_lt.2 hlt)
            rw [Int.toNat_natCast] at hxk
            obtain ⟨x, hx⟩ : ∃ x, rd l (k : Int) = x := ⟨_, rfl⟩
            rw [hx] at hxk
            have hst := Aside0.mk (show (l.take (k + 1)).sum = s + x by rw [sum_take hlt, hs, hx])
            have hwk := Aside0.mk (Big.next_nat hlt (Nat.le_trans hlen.out (by decide)))
            have HLT := Aside0.mk hlt
            by_cases hn : x > 64 - s
            · have hfin : Aside0 (odo_Weaves.f l = (none, 1)) := ⟨by
                unfold odo_Weaves.f
                have h1 := (sum_le hneg.out (k + 1)).2
                rw [hst.out] at h1
                rw [if_neg h64'.out, if_neg (by rw [hneg.out]; decide), if_pos (by omega)]⟩
              have hnb : decide (64 - s < x) = true := decide_eq_true hn
              clear hn hs
              go_wp2_with fail
              go_ret2
              rw [hfin.out]
              exact ⟨_, rfl, rfl, Below.refl _ _⟩
            · have hnb : decide (64 - s < x) = false := decide_eq_false hn
              have hns := Aside0.mk (show s + x ≤ 64 by omega)
              have h0 := Aside0.mk (show 0 ≤ s + x by rw [← hst.out]; exact (sum_le hneg.out (k + 1)).1)
              have hw2 := Aside0.mk (show wrap64 (s + x) = s + x by have := hns.out; have := h0.out; unfold wrap64; omega)
              clear hn hs
              go_wp2_with fail
              go_roundw
              case rel => exact ⟨k + 1, by rw [hwk.out], HLT.out, by rw [hw2.out, hst.out], ⟨by rw [hst.out]; exact hns.out⟩, ⟨by simp⟩⟩
              case measure => rw [hwk.out]; exact nat_dec HLT.out
          · have hfin : Aside0 (odo_Weaves.f l = (some l, 0)) := ⟨by
              unfold odo_Weaves.f
              have h1 := hs64.out
              rw [← hs, List.take_of_length_le (Nat.le_of_not_lt hlt)] at h1
              rw [if_neg h64'.out, if_neg (by rw [hneg.out]; decide), if_neg (by omega)]⟩
            clear hs hw1
            have hcl := Aside0.mk (cl_small hlen.out)
            go_wp2_with (first | ((with_reducible refine gate_builtin (b := .append) (xs := #[.tmp 79, .tmp 80]) rfl ?_); at_builtin; refine Owned.clone (Kd.int .i64) (Owned.nil wr) (.tmp 79) (.tmp 80) 22 3 (.int .i64 0) 8 Try.underlying22 info3 rfl (by decide) (by decide) hcl.out (fun _ _ h => h) (Kd.C_alloc HA.out _) ?_ rfl rfl rfl rfl; intro v2 w3 h2; obtain ⟨Y, cy, e2⟩ := row_slice (h2.get (j := 0) rfl); subst e2; have HO := Aside0.mk (h2.box 74 #[.int .i64 3, .slice Y l.length cy]); clear h2))
            go_ret2
            rw [hfin.out]
            exact ⟨_, rfl, _, Y, cy, rfl, HO.out⟩
set_option maxHeartbeats 8000000 in
set_option maxRecDepth 100000 in
theorem rnewo_c {w : World} {n : Int} {A : Option Addr} {c : Nat} (hl : Kd.C (Kd.int .i64) w A 1 [n]) :
    Calls Try.prog 25 #[.int .i64 2, .slice A 1 c] w fun e W' => ∃ v, e = .returned (.tuple #[v, .int .i64 (odo_Orders.f n).2]) ∧ NewR w W' v 2 (odo_Orders.f n).1 := by
  have HA := Aside0.mk hl
  obtain ⟨ad, rfl, hx⟩ := Kd.at_int hl 0 (Int.le_refl 0) (by decide)
  have hx0 : w.cell? (ad.add 0) = some (.int .i64 n) := hx
  clear hx
  have hx : w.cell? ad = some (.int .i64 n) := by rw [show ad.add 0 = ad from by cases ad; simp [Addr.add]] at hx0; exact hx0
  clear hx0
  have HX := Aside0.mk hx
  clear hl
  by_cases h0 : n < 0
  · have hf : odo_Orders.f n = (none, 4) := by unfold odo_Orders.f; rw [if_neg (by omega)]
    rw [hf]
    have d1 : decide (n < 0) = true := decide_eq_true h0
    clear hf h0
    go_enter Try.func25, Try.ntmps25
    go_wp2_with fail
    go_ret2
    exact ⟨_, rfl, rfl, Below.refl _ _⟩
  · have d1 : decide (n < 0) = false := decide_eq_false h0
    by_cases h64 : 64 < n
    · have hf : odo_Orders.f n = (none, 4) := by unfold odo_Orders.f; rw [if_neg (by omega)]
      rw [hf]
      have d2 : decide (64 < n) = true := decide_eq_true h64
      clear hf h0 h64
      go_enter Try.func25, Try.ntmps25
      go_wp2_with fail
      go_ret2
      exact ⟨_, rfl, rfl, Below.refl _ _⟩
    · have d2 : decide (64 < n) = false := decide_eq_false h64
      have hf : odo_Orders.f n = (some (List.replicate n.toNat 1), 0) := by unfold odo_Orders.f; rw [if_pos (by omega)]
      obtain ⟨m, rfl⟩ : ∃ m : Nat, n = m := ⟨n.toNat, by omega⟩
      rw [hf, Int.toNat_natCast]
      have hm := Aside0.mk (show m ≤ 64 by omega)
      clear hf h0 h64
      go_enter Try.func25, Try.ntmps25
      go_upto_region 5 with fail
      have HO := Aside0.mk (((Owned.nil w).fresh (p' := .row (Kd.int .i64) 3 (.slice none 0 0) []) (Below.refl _ _) (Kd.R_nil _ _ _ _ _)).box 74 #[.int .i64 2, .slice none 0 0])
      clear d1 d2 hx
      generalize hg : w.heap.size = g at HO ⊢
      go_wp2_with fail
      go_loopw [7] (fun vi W => ∃ i : Nat, vi = .int .i64 i ∧ i ≤ m ∧ Aside0 (∃ (vl : Value) (X : List Int), X = List.replicate i 1 ∧ Owned w [.row (Kd.int .i64) 3 vl X, .box g 74 #[.int .i64 2, vl]] W)) (fun vi _ => m - (intOf vi).toNat)
      case atStart => exact ⟨0, rfl, Nat.zero_le _, ⟨_, [], rfl, HO.out⟩⟩
      case round =>
        clear HO
        obtain ⟨i, rfl, hi, HX1⟩ := hrel
        obtain ⟨vl, X, hX, hO⟩ := HX1.out
        have HO := Aside0.mk hO
        have EX := Aside0.mk hX
        obtain ⟨Y, cy, rfl⟩ := row_slice (HO.out.get (j := 0) rfl)
        clear HX1 hX hO
        obtain ⟨y0, y1, f0, f1⟩ := blkA2 (HO.out.blk (j := 1) rfl)
        have hx := pw_cell_below HO.out.below HX.out
        by_cases hlt : i < m
        · have hwi := Aside0.mk (Big.next_nat hlt (Nat.le_trans hm.out (by decide)))
          have HI := Aside0.mk hlt
          have hl8 := Aside0.mk (show (X.length + 1) * 8 ≤ 140737488355328 by rw [EX.out, List.length_replicate]; have := hm.out; have := HI.out; omega)
          go_wp2_with ((with_reducible refine gate_builtin (b := .append) (xs := #[.tmp 37, .tmp 38]) rfl ?_); at_builtin; refine Owned.app (Kd.int .i64) HO.out (j := 0) rfl 1 [.int .i64 1] (fun _ => rfl) (.tmp 37) (.tmp 38) 22 (.int .i64 0) 8 Try.underlying22 info3 rfl (by decide) (by decide) hl8.out ?_ rfl rfl rfl rfl; intro v1 W7 h7; clear y0 y1 f0 f1; obtain ⟨Z, e7, ez⟩ := row_slice (h7.get (j := 0) rfl); rw [List.length_append, List.length_singleton] at ez; subst ez; have H7 := Aside0.mk h7; obtain ⟨y0, y1, f0, f1⟩ := blkA2 (h7.blk (j := 1) rfl); clear h7)
          go_roundw
          case rel => exact ⟨i + 1, by rw [hwi.out], HI.out, ⟨.slice Z (X.length + 1) e7, X ++ [1], by rw [EX.out, List.replicate_succ'], H7.out.cell (j := 1) rfl 1 (.slice Z (X.length + 1) e7)⟩⟩
          case measure => rw [hwi.out]; exact nat_dec HI.out
        · have him : i = m := Nat.le_antisymm hi (Nat.le_of_not_lt hlt)
          have hX := EX.out
          rw [him] at hX
          have EX2 := Aside0.mk hX
          clear him hX
          go_wp2_with fail
          go_ret2
          refine ⟨_, rfl, ?_⟩
          have h := HO.out
          rw [EX2.out] at h
          exact ⟨g, Y, cy, rfl, h⟩
end Go.Proofs.Ytohpboblmmbjnaa.P
