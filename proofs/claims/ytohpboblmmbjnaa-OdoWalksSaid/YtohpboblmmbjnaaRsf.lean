/- How the document makes the next list of weaves: the least greater number behind a place, and the rest by number. -/
import Derived.Test.YtohpboblmmbjnaaRep
import Derived.Test.YtohpboblmmbjnaaCna
import Derived.Test.YtohpboblmmbjnaaP0
import Derived.Test.YtohpboblmmbjnaaBigs
set_option linter.unusedVariables false
set_option linter.unusedSimpArgs false
set_option linter.unnecessarySimpa false
namespace Go.Proofs.Ytohpboblmmbjnaa.P
open Go Go.RowKit Go.Proofs.YtohpboblmmbjnaaW.PrintWords Go.Proofs.YtohpboblmmbjnaaW.PrintLast Go.Proofs.YtohpboblmmbjnaaW.PrintMore Go.Proofs.Odo

/-- So far searched: up to q; what the best is. -/
def BestI (x : List Nat) (j q : Nat) (bst : Int) : Prop :=
  (bst = -1 ∧ ∀ t, j < t → t < q → x.getD t 0 ≤ x.getD j 0) ∨
  ∃ m : Nat, bst = m ∧ j < m ∧ m < q ∧ x.getD j 0 < x.getD m 0 ∧ ∀ t, j < t → t < q → x.getD j 0 < x.getD t 0 → x.getD m 0 ≤ x.getD t 0
theorem best_0 (x : List Nat) (j : Nat) : BestI x j (j + 1) (-1) := .inl ⟨rfl, fun t h1 h2 => absurd h2 (by omega)⟩
theorem best_keep {x : List Nat} {j q : Nat} {bst : Int} (h : BestI x j q bst) (hq : x.getD q 0 ≤ x.getD j 0) : BestI x j (q + 1) bst := by
  rcases h with ⟨h1, h2⟩ | ⟨m, h1, h2, h3, h4, h5⟩
  · exact .inl ⟨h1, fun t a b => if e : t = q then by rw [e]; exact hq else h2 t a (by omega)⟩
  · exact .inr ⟨m, h1, h2, by omega, h4, fun t a b c => if e : t = q then by rw [e] at c; omega else h5 t a (by omega) c⟩
theorem best_first {x : List Nat} {j q : Nat} (h : BestI x j q (-1)) (hj : j < q) (hq : x.getD j 0 < x.getD q 0) : BestI x j (q + 1) (q : Int) := by
  rcases h with ⟨_, h2⟩ | ⟨m, h1, _⟩
  · exact .inr ⟨q, rfl, hj, by omega, hq, fun t a b c => if e : t = q then by rw [e]; exact Nat.le_refl _ else absurd (h2 t a (by omega)) (by omega)⟩
  · omega
theorem best_new {x : List Nat} {j q m : Nat} (h : BestI x j q (m : Int)) (hj : j < q) (hq : x.getD j 0 < x.getD q 0) (hm : x.getD q 0 < x.getD m 0) : BestI x j (q + 1) (q : Int) := by
  rcases h with ⟨h1, _⟩ | ⟨m', h1, h2, h3, h4, h5⟩
  · omega
  · obtain rfl : m = m' := by omega
    exact .inr ⟨q, rfl, hj, by omega, hq, fun t a b c => if e : t = q then by rw [e]; exact Nat.le_refl _ else Nat.le_of_lt (Nat.lt_of_lt_of_le hm (h5 t a (by omega) c))⟩
theorem best_old {x : List Nat} {j q m : Nat} (h : BestI x j q (m : Int)) (hm : ¬ x.getD q 0 < x.getD m 0) : BestI x j (q + 1) (m : Int) := by
  rcases h with ⟨h1, _⟩ | ⟨m', h1, h2, h3, h4, h5⟩
  · omega
  · obtain rfl : m = m' := by omega
    exact .inr ⟨m, rfl, h2, by omega, h4, fun t a b c => if e : t = q then by rw [e]; omega else h5 t a (by omega) c⟩
theorem best_lt {x : List Nat} {j q m : Nat} (h : BestI x j q (m : Int)) : j < m ∧ m < q := by
  rcases h with ⟨h1, _⟩ | ⟨m', h1, h2, h3, _⟩
  · omega
  · omega
theorem best_or {x : List Nat} {j q : Nat} {bst : Int} (h : BestI x j q bst) : bst = -1 ∨ ∃ m : Nat, bst = m ∧ m < q := by
  rcases h with ⟨h1, _⟩ | ⟨m, h1, _, h3, _⟩
  · exact .inl h1
  · exact .inr ⟨m, h1, h3⟩
theorem mem_drop_getD {x : List Nat} {j y : Nat} (h : y ∈ x.drop j) : ∃ t, j ≤ t ∧ t < x.length ∧ x.getD t 0 = y := by
  obtain ⟨i, hi, e⟩ := List.getElem_of_mem h
  rw [List.length_drop] at hi
  rw [List.getElem_drop] at e
  exact ⟨j + i, by omega, by omega, by rw [List.getD_eq_getElem?_getD, List.getElem?_eq_getElem (by omega)]; exact e⟩
theorem best_none {x : List Nat} {j : Nat} (hj : j < x.length) (h : BestI x j x.length (-1)) (hd : Desc (x.drop (j + 1))) : Desc (x.drop j) := by
  rcases h with ⟨_, h2⟩ | ⟨m, h1, _⟩
  · rw [dropC hj]
    refine List.pairwise_cons.2 ⟨fun y hy => ?_, hd⟩
    obtain ⟨t, h1, h3, rfl⟩ := mem_drop_getD hy
    exact h2 t (by omega) h3
  · omega
/-- How many of the places from j up to q, but m, hold v. -/
def cu (x : List Nat) (j m v q : Nat) : Nat := ((List.range q).filter (fun k => decide (j ≤ k ∧ k ≠ m ∧ x.getD k 0 = v))).length
theorem cu_next (x : List Nat) (j m v q : Nat) : cu x j m v (q + 1) = cu x j m v q + if j ≤ q ∧ q ≠ m ∧ x.getD q 0 = v then 1 else 0 := by
  unfold cu
  rw [List.range_succ, List.filter_append, List.length_append]
  by_cases h : j ≤ q ∧ q ≠ m ∧ x.getD q 0 = v
  · rw [if_pos h, List.filter_cons, if_pos (decide_eq_true h)]; rfl
  · rw [if_neg h, List.filter_cons, if_neg (by rw [decide_eq_false h]; decide)]; rfl
theorem cu_start (x : List Nat) (j m v : Nat) : cu x j m v j = 0 := by
  unfold cu
  rw [List.length_eq_zero_iff, List.filter_eq_nil_iff]
  intro k hk
  have := List.mem_range.1 hk
  simp; omega
theorem cu_le (x : List Nat) (j m v q : Nat) : cu x j m v q ≤ q := by
  unfold cu
  have := List.length_filter_le (fun k => decide (j ≤ k ∧ k ≠ m ∧ x.getD k 0 = v)) (List.range q)
  rwa [List.length_range] at this
theorem cu_count (x : List Nat) (j m v : Nat) (hjm : j < m) : ∀ d, j + d ≤ x.length → cu x j m v (j + d) + (if m < j + d ∧ x.getD m 0 = v then 1 else 0) = ((x.drop j).take d).count v := by
  intro d
  induction d with
  | zero => intro _; rw [Nat.add_zero, cu_start, if_neg (by omega)]; simp
  | succ d ih =>
    intro h
    have ih := ih (by omega)
    have e : (x.drop j).take (d + 1) = (x.drop j).take d ++ [x.getD (j + d) 0] := by
      rw [take_up (by rw [List.length_drop]; omega)]
      congr 2
      rw [List.getD_eq_getElem?_getD, List.getD_eq_getElem?_getD, List.getElem?_drop]
    rw [e, List.count_append, ← ih, show j + (d + 1) = j + d + 1 from rfl, cu_next, List.count_singleton]
    by_cases h1 : j + d = m
    · rw [if_neg (by omega), if_neg (show ¬ (m < j + d ∧ x.getD m 0 = v) by omega), h1]
      by_cases h2 : x.getD m 0 = v
      · rw [if_pos ⟨by omega, h2⟩, if_pos (by rw [h2]; simp)]
      · rw [if_neg (fun h => h2 h.2), if_neg (by simpa using h2)]
    · have e2 : (m < j + d + 1 ∧ x.getD m 0 = v) ↔ (m < j + d ∧ x.getD m 0 = v) := ⟨fun h => ⟨by omega, h.2⟩, fun h => ⟨by omega, h.2⟩⟩
      by_cases h2 : x.getD (j + d) 0 = v
      · rw [if_pos ⟨by omega, h1, h2⟩, if_pos (show (x.getD (j + d) 0 == v) = true by rw [h2]; simp)]
        by_cases h3 : m < j + d ∧ x.getD m 0 = v
        · rw [if_pos h3, if_pos (e2.2 h3)]
        · rw [if_neg h3, if_neg (fun h => h3 (e2.1 h))]
      · rw [if_neg (fun h => h2 h.2.2), if_neg (show ¬ (x.getD (j + d) 0 == v) = true by simpa using h2)]
        by_cases h3 : m < j + d ∧ x.getD m 0 = v
        · rw [if_pos h3, if_pos (e2.2 h3)]
        · rw [if_neg h3, if_neg (fun h => h3 (e2.1 h))]
theorem asc_unique {A B : List Nat} (hA : A.Pairwise (fun x y => x ≤ y)) (hB : B.Pairwise (fun x y => x ≤ y)) (h : ∀ v, A.count v = B.count v) : A = B := by
  induction A generalizing B with
  | nil =>
    cases B with
    | nil => rfl
    | cons b B => have := h b; rw [List.count_cons_self] at this; simp at this
  | cons a A ih =>
    cases B with
    | nil => have := h a; rw [List.count_cons_self] at this; simp at this
    | cons b B =>
      obtain ⟨a1, a2⟩ := List.pairwise_cons.1 hA
      obtain ⟨b1, b2⟩ := List.pairwise_cons.1 hB
      have hab : a = b := by
        have h1 : 0 < (b :: B).count a := by rw [← h a, List.count_cons_self]; omega
        have h2 : 0 < (a :: A).count b := by rw [h b, List.count_cons_self]; omega
        rcases List.mem_cons.1 (List.count_pos_iff.1 h1) with e | e
        · exact e
        · rcases List.mem_cons.1 (List.count_pos_iff.1 h2) with e' | e'
          · exact e'.symm
          · have := b1 a e; have := a1 b e'; omega
      subst hab
      rw [ih a2 b2 (fun v => by
        have := h v
        rw [List.count_cons, List.count_cons] at this
        omega)]
/-- What the document makes at a place: all that the walk asks. -/
theorem best_found {x : List Nat} {N j m : Nat} (hj : j < x.length) (h : BestI x j x.length (m : Int)) (hd : Desc (x.drop (j + 1))) (hN : ∀ a ∈ x, a < N) :
    nextW x = some (x.take j ++ [x.getD m 0] ++ firstA 0 ((List.range N).map (fun v => cu x j m v x.length))) := by
  obtain ⟨hjm, hml⟩ := best_lt h
  rcases h with ⟨h1, _⟩ | ⟨m', h1, _, _, h4, h5⟩
  · omega
  obtain rfl : m = m' := by omega
  obtain ⟨a, ha⟩ : ∃ a, x.getD j 0 = a := ⟨_, rfl⟩
  obtain ⟨b, hb⟩ : ∃ b, x.getD m 0 = b := ⟨_, rfl⟩
  obtain ⟨S, T, e1, e2, e3⟩ := desc_split hd a
  have hbm : b ∈ x.drop (j + 1) := by
    rw [← hb, List.getD_eq_getElem?_getD, List.getElem?_eq_getElem hml]
    have : x[m] = (x.drop (j + 1))[m - (j + 1)]'(by rw [List.length_drop]; omega) := by rw [List.getElem_drop]; congr 1; omega
    rw [Option.getD_some, this]
    exact List.getElem_mem _
  have hbS : b ∈ S := by
    rw [e1] at hbm
    rcases List.mem_append.1 hbm with h | h
    · exact h
    · have := e3 b h; omega
  rcases List.eq_nil_or_concat S with rfl | ⟨S', c, rfl⟩
  · cases hbS
  rw [List.concat_eq_append] at e1 e2 hbS
  have hd2 := hd
  unfold Desc at hd2
  rw [e1] at hd2
  obtain ⟨hd3, hd4, hd5⟩ := List.pairwise_append.1 hd2
  obtain ⟨_, _, hd6⟩ := List.pairwise_append.1 hd3
  have hca : a < c := e2 c (by simp)
  have hcb : c = b := by
    have h6 : c ≤ b := by
      rcases List.mem_append.1 hbS with h | h
      · exact hd6 b h c (by simp)
      · rw [List.mem_singleton.1 h]; exact Nat.le_refl _
    have h7 : c ∈ x.drop (j + 1) := by rw [e1]; simp
    obtain ⟨t, t1, t2, t3⟩ := mem_drop_getD h7
    have := h5 t (by omega) t2 (by rw [ha, t3]; exact hca)
    rw [hb, t3] at this
    omega
  subst hcb
  have hS' : ∀ y ∈ S', a < y := fun y hy => e2 y (by simp [hy])
  rw [List.append_assoc, List.singleton_append] at e1
  have hp := pick_split hS' hca e3
  have h1 : nextW (x.drop j) = some (c :: (S' ++ a :: T).reverse) := by
    rw [dropC hj, ha, nextW, desc_none hd, e1]; exact hp
  rw [nextW_up j (Nat.le_of_lt hj) h1, hb, List.append_assoc, List.singleton_append]
  congr 3
  refine asc_unique ?_ (firstA_asc _ 0) (fun v => ?_)
  · rw [List.pairwise_reverse]
    refine List.pairwise_append.2 ⟨(List.pairwise_append.1 hd3).1, List.pairwise_cons.2 ⟨e3, hd4⟩, fun y hy z hz => ?_⟩
    have := hS' y hy
    rcases List.mem_cons.1 hz with rfl | hz
    · omega
    · have := e3 z hz; omega
  · rw [firstA_count, if_neg (by omega), Nat.sub_zero, List.count_reverse]
    have hcc := cu_count x j m v hjm (x.length - j) (by omega)
    rw [show j + (x.length - j) = x.length by omega, List.take_of_length_le (by rw [List.length_drop]; exact Nat.le_refl _), dropC hj, ha, e1, hb] at hcc
    have hperm : (a :: (S' ++ c :: T)).count v = (S' ++ a :: T).count v + if c = v then 1 else 0 := by
      rw [List.count_cons, List.count_append, List.count_append, List.count_cons, List.count_cons]
      by_cases h : c = v
      · rw [if_pos h, if_pos (by rw [h]; simp)]; omega
      · rw [if_neg h, if_neg (by simpa using h)]; omega
    rw [hperm] at hcc
    have hcu : cu x j m v x.length = (S' ++ a :: T).count v := by
      by_cases h : c = v
      · rw [if_pos ⟨hml, h⟩, if_pos h] at hcc; omega
      · rw [if_neg (fun h' => h h'.2), if_neg h] at hcc; omega
    by_cases hv : v < N
    · rw [List.getD_eq_getElem?_getD, List.getElem?_map, List.getElem?_range hv]
      simp only [Option.map_some, Option.getD_some]
      rw [hcu]
    · rw [List.getD_eq_getElem?_getD, List.getElem?_eq_none (by simp; omega), Option.getD_none, ← hcu]
      unfold cu
      rw [List.length_eq_zero_iff, List.filter_eq_nil_iff]
      intro k hk
      have hk2 := List.mem_range.1 hk
      have : x.getD k 0 < N := by rw [List.getD_eq_getElem?_getD, List.getElem?_eq_getElem hk2]; exact hN _ (List.getElem_mem hk2)
      simp only [decide_eq_true_eq]
      intro hh
      omega
end Go.Proofs.Ytohpboblmmbjnaa.P
/- The document's Next of products. -/
namespace Go.Proofs.Ytohpboblmmbjnaa.P
open Go Go.RowKit Go.Proofs.YtohpboblmmbjnaaW.PrintWords Go.Proofs.YtohpboblmmbjnaaW.PrintLast Go.Proofs.YtohpboblmmbjnaaW.PrintMore Go.Proofs.Odo
theorem Owned.nil_row {w W : World} (h : Below w.heap.size w W) : Owned w [.row (Kd.int .i64) 3 (.slice none 0 0) []] W := ⟨fun _ => 0, h, fun j q hj => by
  match j, hj with
  | 0, hj => cases hj; exact Kd.R_nil (Kd.int .i64) 3 W w.heap.size _
  | j + 1, hj => cases hj⟩
theorem rnp_none {p x : List Nat} {j : Nat} (hl : x.length = p.length) (hj : j < x.length) (h : nextP (p.drop (j + 1)) (x.drop (j + 1)) = none) (hb : ¬ x.getD j 0 + 1 < p.getD j 0) : nextP (p.drop j) (x.drop j) = none := by
  rw [nextP_at hl hj h, if_neg hb]
theorem rnp_some {p x : List Nat} {j : Nat} (hl : x.length = p.length) (hj : j < x.length) (h : nextP (p.drop (j + 1)) (x.drop (j + 1)) = none) (hb : x.getD j 0 + 1 < p.getD j 0) : nextP p x = some ((x.take (j + 1)).set j (x.getD j 0 + 1) ++ List.replicate (x.length - (j + 1)) 0) := by
  have h1 := nextP_at hl hj h
  rw [if_pos hb] at h1
  rw [nextP_up hl j (Nat.le_of_lt hj) h1]
  have e := set_take (n := 0) (y := x.getD j 0 + 1) hj
  simp only [List.replicate_zero, List.append_nil] at e
  rw [e, List.append_assoc]
  rfl
theorem ints_set (x : List Nat) (j a : Nat) : (ints x).set j ((a : Nat) : Int) = ints (x.set j a) := by unfold ints; rw [List.map_set]; rfl
def lenOf : Value → Nat
  | .slice _ n _ => n
  | _ => 0
theorem rnp_more (y : List Nat) {s j : Nat} (h : j ≤ s) : ints (y ++ List.replicate (s - j) 0) ++ [((0 : Nat) : Int)] = ints (y ++ List.replicate (s + 1 - j) 0) := by
  rw [show s + 1 - j = s - j + 1 by omega, List.replicate_succ']
  simp [ints]
theorem rnp_dec {n s : Nat} {A B : Option Addr} {c d : Nat} (h : s < n) : n - lenOf (.slice A (s + 1) c) < n - lenOf (.slice B s d) := by
  simp only [lenOf]; omega
theorem ints_take (x : List Nat) (n : Nat) : (ints x).take n = ints (x.take n) := by unfold ints; rw [List.map_take]
set_option maxHeartbeats 8000000 in
set_option maxRecDepth 100000 in
theorem rnextp_c {w : World} {v : Value} {p x : List Nat} {A : Option Addr} {c : Nat} (hs : RefS w v 1 (ints p)) (hI : IsP p x) (hp : ∀ a ∈ p, a < 9223372036854775808) (hn : x.length ≤ 64) (hx : Kd.C (Kd.int .i64) w A (ints x).length (ints x)) (hc : (ints x).length ≤ c) :
    Calls Try.prog 34 #[v, .slice A (ints x).length c] w fun e W' => ∃ v1, e = .returned (.tuple #[v1, .bool (nextP p x).isSome]) ∧ Owned w [.row (Kd.int .i64) 3 v1 (ints ((nextP p x).getD []))] W' := by
  have HS := Aside0.mk hs
  obtain ⟨g, A0, c0, rfl, b0, hC, hc0⟩ := hs
  have HI := Aside0.mk hI
  have HP := Aside0.mk hp
  have HN := Aside0.mk hn
  have HX := Aside0.mk hx
  have HC := Aside0.mk hc
  have HL := Aside0.mk (isP_length hI)
  have hl0 := Aside0.mk (i64_dec (ints x).length (by rw [ints_length]; omega))
  clear hC hc0 b0 hI hp hn hx hc
  go_enter Try.func34, Try.ntmps34
  go_wp2_with fail
  go_loopw [6] (fun vi W => ∃ k : Nat, k ≤ x.length ∧ vi = .int .i64 ((k : Int) - 1) ∧ Aside0 (nextP (p.drop k) (x.drop k) = none) ∧ Aside0 (Below w.heap.size w W)) (fun vi _ => (intOf vi + 1).toNat)
  case atStart =>
    refine ⟨x.length, Nat.le_refl _, by rw [hl0.out, ints_length], ⟨?_⟩, ⟨Below.refl _ _⟩⟩
    rw [List.drop_length, List.drop_eq_nil_of_le (by rw [HL.out]; exact Nat.le_refl _)]; rfl
  case round =>
    obtain ⟨k, hk, rfl, HNO, HB⟩ := hrel
    match k, hk, HNO with
    | 0, _, HNO =>
      have hm1 : ((0 : Nat) : Int) - 1 = -1 := rfl
      rw [hm1]
      have HE := HNO
      rw [List.drop_zero, List.drop_zero] at HE
      go_wp2_with fail
      go_ret2
      rw [HE.out]
      exact ⟨_, rfl, Owned.nil_row HB.out⟩
    | j + 1, hk, HNO =>
      have hj : ((j + 1 : Nat) : Int) - 1 = (j : Int) := by omega
      rw [hj]
      clear hj
      obtain ⟨g', A1, c1, e1, b1, hC1, hc1⟩ := HS.out.below HB.out
      cases e1
      obtain ⟨y0, y1, _, _⟩ := blkA2 b1
      obtain ⟨ad1, e1, hx1⟩ := Kd.at_int (Kd.C_below HX.out HB.out) (j : Int) (by omega) (by rw [ints_length]; omega)
      cases e1
      obtain ⟨ad2, e2, hx2⟩ := Kd.at_int hC1 (j : Int) (by omega) (by rw [ints_length, ← HL.out]; omega)
      cases e2
      rw [Int.toNat_natCast, rd_ints] at hx1 hx2
      obtain ⟨a, ha⟩ : ∃ a, x.getD j 0 = a := ⟨_, rfl⟩
      obtain ⟨b, hb⟩ : ∃ b, p.getD j 0 = b := ⟨_, rfl⟩
      rw [ha] at hx1
      rw [hb] at hx2
      have HA := Aside0.mk ha
      have HBB := Aside0.mk hb
      have hb1 : b < 9223372036854775808 := by rw [← hb]; exact getD_lt_of HP.out (by decide)
      have hab : a < b := by rw [← ha, ← hb]; exact (isP_drop j HI.out hk).1
      obtain ⟨a1, HA1⟩ : ∃ a1 : Int, Aside0 (a1 = ((a + 1 : Nat) : Int)) := ⟨_, ⟨rfl⟩⟩
      have hinc : wrap64 ((a : Int) + 1) = a1 := by rw [HA1.out]; exact i64_inc a (by omega)
      have hjj : j < (ints x).length := by rw [ints_length]; exact hk
      have hjp : j < (ints p).length := by rw [ints_length, ← HL.out]; exact hk
      have hdec := i64_dec j (by have := HN.out; omega)
      have HK := Aside0.mk hk
      clear ha hb hC1 hc1 b1 hk
      by_cases hlt2 : a + 1 < b
      · have hb2 : decide (a1 < (b : Int)) = true := decide_eq_true (by rw [HA1.out]; omega)
        have HNX := Aside0.mk (rnp_some HL.out HK.out HNO.out (by rw [HA.out, HBB.out]; exact hlt2))
        rw [HA.out] at HNX
        clear hlt2 hb1 hab hdec
        go_wp2_with fail
        go_quiet (fail)
        clear y0 y1 hx1 hx2
        have HB2 := Aside0.mk (pw_below_drewN HB.out nq)
        clear HB
        generalize wr.drewN nq = W2 at HB2 ⊢
        obtain ⟨j1, HJ1⟩ : ∃ j1 : Nat, Aside0 (j1 = j + 1) := ⟨_, ⟨rfl⟩⟩
        have hj1 : wrap64 ((j : Int) + 1) = (j1 : Int) := by rw [HJ1.out]; exact i64_inc j (by have := HN.out; have := HK.out; omega)
        have hj1l : j1 ≤ (ints x).length := by rw [HJ1.out, ints_length]; exact HK.out
        have hj1c : j1 ≤ c := Nat.le_trans hj1l HC.out
        obtain ⟨y1, hy1⟩ : ∃ y1, x.take (j + 1) = y1 := ⟨_, rfl⟩
        have hyl : y1.length = j1 := by rw [← hy1, HJ1.out, List.length_take]; have := HK.out; omega
        have hct := Kd.C_take (m := j1) (Kd.C_below HX.out HB2.out) hj1l
        rw [show (ints x).take j1 = ints y1 by rw [← hy1, HJ1.out]; exact ints_take x (j + 1)] at hct
        have hct2 : Kd.C (Kd.int .i64) W2 (some ad1) j1 (ints y1) := by rw [ints_length, hyl] at hct; exact hct
        have HCT := Aside0.mk hct2
        have HYL := Aside0.mk hyl
        rw [hy1] at HNX
        have hya : Aside0 (y1.getD j 0 = a) := ⟨by rw [← hy1, ← HA.out]; have := rd_take (n := 0) HK.out; simpa using this⟩
        have hcl := Aside0.mk (show j1 * 8 ≤ 140737488355328 by rw [HJ1.out]; have := HN.out; have := HK.out; omega)
        have HO := Aside0.mk ((Owned.nil w).later HB2.out)
        have HINC := Aside0.mk hinc
        clear hct hct2 hyl hy1 hinc
        go_upto_region 7 with ((with_reducible refine gate_builtin (b := .append) (xs := #[.tmp 38, .tmp 42]) rfl ?_); at_builtin; refine Owned.clone (Kd.int .i64) HO.out (.tmp 38) (.tmp 42) 22 3 (.int .i64 0) 8 Try.underlying22 info3 rfl (by decide) (by decide) hcl.out (fun _ _ h => h) (Kd.C_alloc HCT.out _) ?_ rfl rfl rfl rfl; intro v2 w3 h2; have HO3 := Aside0.mk h2; clear h2)
        obtain ⟨A3, c3, e3⟩ := row_slice (HO3.out.get (j := 0) rfl)
        subst e3
        have hjy : j < (ints y1).length := by rw [ints_length, HYL.out, HJ1.out]; exact Nat.lt_succ_self _
        obtain ⟨g3, rfl, hc3, hf3⟩ := row_at HO3.out (j := 0) rfl hjy
        rw [rd_ints, hya.out] at hc3
        have hinc : wrap64 ((a : Int) + 1) = a1 := HINC.out
        have HO4 := Aside0.mk (HO3.out.num (j := 0) rfl j a1)
        obtain ⟨y2, hy2⟩ : ∃ y2, y1.set j (a + 1) = y2 := ⟨_, rfl⟩
        rw [show (ints y1).set j a1 = ints y2 by rw [← hy2, HA1.out]; exact ints_set y1 j (a + 1)] at HO4
        have HY2 := Aside0.mk (show y2.length = j1 by rw [← hy2, List.length_set]; exact HYL.out)
        have HL2 := Aside0.mk (show (ints y1).length = (ints y2).length by rw [ints_length, ints_length, HY2.out, HYL.out])
        rw [hy2] at HNX
        have HJY := Aside0.mk hjy
        go_wp2_with fail
        clear hc3 hf3 HO3 hinc hjy hy2 HO
        rw [HL2.out] at HO4 ⊢
        generalize w3.setCell ⟨g3, j, none⟩ (.int .i64 a1) = W4 at HO4 ⊢
        have hlx := Aside0.mk (ints_length x)
        go_loopw [7] (fun vm W => ∃ s : Nat, s ≤ (ints x).length ∧ Aside0 (j1 ≤ s) ∧ Aside0 (Owned w [.row (Kd.int .i64) 3 vm (ints (y2 ++ List.replicate (s - j1) 0))] W) ∧ ∃ A' c', vm = .slice A' s c') (fun vm _ => (ints x).length - lenOf vm)
        case atStart => exact ⟨j1, hj1l, ⟨Nat.le_refl _⟩, by rw [Nat.sub_self]; simpa using HO4, _, _, by rw [ints_length, HY2.out]⟩
        case round =>
          clear HO4
          obtain ⟨s, hs, HJS, HO5, A5, c5, rfl⟩ := hrel
          by_cases hsl : s < (ints x).length
          · have hd1 : decide ((s : Int) < ((ints x).length : Int)) = true := decide_eq_true (by omega)
            have hd2 : decide (s < (ints x).length) = true := decide_eq_true hsl
            have HSL := Aside0.mk hsl
            have hcl2 := Aside0.mk (show ((ints (y2 ++ List.replicate (s - j1) 0)).length + 1) * 8 ≤ 140737488355328 by rw [ints_length, List.length_append, List.length_replicate, HY2.out]; have := HN.out; have := hlx.out; have := HJS.out; omega)
            have HEX := Aside0.mk (rnp_more y2 HJS.out)
            clear hsl hs
            go_wp2_with ((with_reducible refine gate_builtin (b := .append) (xs := #[.tmp 55, .tmp 56]) rfl ?_); at_builtin; refine Owned.app (Kd.int .i64) HO5.out (j := 0) rfl ((0 : Nat) : Int) [.int .i64 0] (fun _ => rfl) (.tmp 55) (.tmp 56) 22 (.int .i64 0) 8 Try.underlying22 info3 rfl (by decide) (by decide) hcl2.out ?_ rfl rfl rfl rfl; intro v9 w9 h9; have HO9 := Aside0.mk h9; clear h9)
            rw [HEX.out] at HO9
            obtain ⟨A9, c9, e9⟩ := row_slice (HO9.out.get (j := 0) rfl)
            have hl9 : (ints (y2 ++ List.replicate (s + 1 - j1) 0)).length = s + 1 := by rw [ints_length, List.length_append, List.length_replicate, HY2.out]; have := HJS.out; omega
            rw [hl9] at e9
            subst e9
            exact ⟨⟨s + 1, HSL.out, ⟨Nat.le_succ_of_le HJS.out⟩, HO9, _, _, rfl⟩, rnp_dec HSL.out⟩
          · have hse : s = (ints x).length := by omega
            subst hse
            have hd1 : decide (((ints x).length : Int) < ((ints x).length : Int)) = false := decide_eq_false (by omega)
            have hd2 : decide ((ints x).length < (ints x).length) = false := decide_eq_false hsl
            have HFI := Aside0.mk (show (nextP p x).getD [] = y2 ++ List.replicate ((ints x).length - j1) 0 by rw [HNX.out, hlx.out, HJ1.out]; rfl)
            have HFS := Aside0.mk (show (nextP p x).isSome = true by rw [HNX.out]; rfl)
            clear hs hsl
            go_wp2_with fail
            go_ret2
            rw [HFI.out, HFS.out]
            exact ⟨_, rfl, HO5.out⟩
      · have hb2 : decide (a1 < (b : Int)) = false := decide_eq_false (by rw [HA1.out]; omega)
        have HNX := Aside0.mk (rnp_none HL.out HK.out HNO.out (by rw [HA.out, HBB.out]; exact hlt2))
        clear hlt2 hb1 hab
        go_wp2_with fail
        go_quiet (fail)
        clear y0 y1 hx1 hx2 hinc
        go_wp2_with fail
        exact ⟨⟨j, Nat.le_of_lt HK.out, by rw [hdec], HNX, ⟨pw_below_drewN HB.out _⟩⟩, by simp only [intOf]; rw [hdec]; exact down_dec⟩
end Go.Proofs.Ytohpboblmmbjnaa.P
/- The document's Next of weaves. -/
namespace Go.Proofs.Ytohpboblmmbjnaa.P
open Go Go.RowKit Go.Proofs.YtohpboblmmbjnaaW.PrintWords Go.Proofs.YtohpboblmmbjnaaW.PrintLast Go.Proofs.YtohpboblmmbjnaaW.PrintMore Go.Proofs.Odo
theorem desc_end (x : List Nat) : Desc (x.drop x.length) := by rw [List.drop_length]; exact List.Pairwise.nil
theorem rnw_take {x cn : List Nat} {N j m v : Nat} (h : (List.range N).map (fun v => cu x j m v x.length) = cn) (hv : v < N) : firstA 0 (cn.take (v + 1)) = firstA 0 (cn.take v) ++ List.replicate (cu x j m v x.length) v := by
  have hl : cn.length = N := by rw [← h]; simp
  rw [take_up (by omega), firstA_append, Nat.zero_add, List.length_take, Nat.min_eq_left (by omega)]
  have : cn.getD v 0 = cu x j m v x.length := by rw [← h, List.getD_eq_getElem?_getD, List.getElem?_map, List.getElem?_range hv]; rfl
  rw [this]
  simp [firstA]
theorem rnw_sum {cn : List Nat} (h : ∀ a ∈ cn, a ≤ 64) : cn.sum ≤ cn.length * 64 := by
  induction cn with
  | nil => simp
  | cons a cn ih => have := ih (fun b hb => h b (by simp [hb])); have := h a (by simp); simp; omega
theorem rnw_len {x cn pre : List Nat} {N j m v : Nat} (h : (List.range N).map (fun v => cu x j m v x.length) = cn) (hp : pre.length = j + 1) (hv : v ≤ N) (hN : N ≤ 64) (hx : x.length ≤ 64) : (pre ++ firstA 0 (cn.take v)).length ≤ j + 1 + 4096 := by
  rw [List.length_append, hp, firstA_length]
  have h1 := rnw_sum (cn := cn.take v) (fun a ha => by
    have := List.mem_of_mem_take ha
    rw [← h] at this
    obtain ⟨t, _, e⟩ := List.mem_map.1 this
    rw [← e]
    exact Nat.le_trans (cu_le _ _ _ _ _) hx)
  rw [List.length_take] at h1
  have : min v cn.length * 64 ≤ 64 * 64 := Nat.mul_le_mul_right _ (by omega)
  omega
theorem rnw_room {l : List Nat} {n q v j : Nat} (h : l.length ≤ j + 1 + 4096) (hn : n ≤ q) (hq : q ≤ 64) (hj : j ≤ 64) : ((ints (l ++ List.replicate n v)).length + 1) * 8 ≤ 140737488355328 := by
  rw [ints_length, List.length_append, List.length_replicate]; omega
theorem rnw_snoc (l : List Nat) (n v : Nat) : ints (l ++ List.replicate n v) ++ [((v : Nat) : Int)] = ints (l ++ List.replicate (n + 1) v) := by
  rw [List.replicate_succ']; simp [ints]
set_option maxHeartbeats 16000000 in
set_option maxRecDepth 100000 in
theorem rnextw_c {w : World} {v : Value} {kd : Int} {p x : List Nat} {A : Option Addr} {c : Nat} (hs : RefS w v kd (ints p)) (hkd : (kd == 1) = false) (hN : ∀ a ∈ x, a < p.length) (hn : x.length ≤ 64) (hp : p.length ≤ 64) (hx : Kd.C (Kd.int .i64) w A (ints x).length (ints x)) (hc : (ints x).length ≤ c) :
    Calls Try.prog 34 #[v, .slice A (ints x).length c] w fun e W' => ∃ v1, e = .returned (.tuple #[v1, .bool (nextW x).isSome]) ∧ Owned w [.row (Kd.int .i64) 3 v1 (ints ((nextW x).getD []))] W' := by
  have HS := Aside0.mk hs
  obtain ⟨g, A0, c0, rfl, b0, hC, hc0⟩ := hs
  have HN := Aside0.mk hn
  have HE := Aside0.mk hN
  have HP := Aside0.mk hp
  have HX := Aside0.mk hx
  have HC := Aside0.mk hc
  have hlx := Aside0.mk (ints_length x)
  have hl0 := Aside0.mk (i64_dec (ints x).length (by rw [ints_length]; omega))
  clear hC hc0 b0 hN hn hp hx hc
  go_enter Try.func34, Try.ntmps34
  go_wp2_with fail
  go_loopw [6] (fun vi W => ∃ k : Nat, k ≤ (ints x).length ∧ vi = .int .i64 ((k : Int) - 1) ∧ Aside0 (Desc (x.drop k)) ∧ Aside0 (Below w.heap.size w W)) (fun vi _ => (intOf vi + 1).toNat)
  case atStart => exact ⟨(ints x).length, Nat.le_refl _, by rw [hl0.out], ⟨by rw [hlx.out]; exact desc_end x⟩, ⟨Below.refl _ _⟩⟩
  case round =>
    obtain ⟨k, hk, rfl, HD, HB⟩ := hrel
    match k, hk, HD with
    | 0, _, HD =>
      have hm1 : ((0 : Nat) : Int) - 1 = -1 := rfl
      rw [hm1]
      have HE := Aside0.mk (desc_none (by have h := HD.out; rwa [List.drop_zero] at h : Desc x))
      go_wp2_with fail
      go_ret2
      rw [HE.out]
      exact ⟨_, rfl, Owned.nil_row HB.out⟩
    | j + 1, hk, HD =>
      have hj : ((j + 1 : Nat) : Int) - 1 = (j : Int) := by omega
      rw [hj]
      clear hj
      obtain ⟨g', A1, c1, e1, b1, hC1, hc1⟩ := HS.out.below HB.out
      cases e1
      obtain ⟨y0, y1, _, _⟩ := blkA2 b1
      have hjj : j < (ints x).length := hk
      obtain ⟨ad1, e1, hx1⟩ := Kd.at_int (Kd.C_below HX.out HB.out) (j : Int) (by omega) (by omega)
      cases e1
      rw [Int.toNat_natCast, rd_ints] at hx1
      obtain ⟨a, ha⟩ : ∃ a, x.getD j 0 = a := ⟨_, rfl⟩
      have HA := Aside0.mk ha
      have hdec := i64_dec j (by have := HN.out; have := hlx.out; omega)
      have HK := Aside0.mk hk
      have hw1 := Aside0.mk (i64_inc j (by have := HN.out; have := hlx.out; omega))
      clear ha hC1 hc1 b1 hk hx1
      go_wp2_with fail
      clear y0 y1
      go_loopw [8, 9] (fun vb vq W => ∃ (q : Nat) (bst : Int), vq = .int .i64 (q : Int) ∧ vb = .int .i64 bst ∧ q ≤ (ints x).length ∧ Aside0 (j < q) ∧ Aside0 (BestI x j q bst) ∧ Aside0 (Below w.heap.size w W)) (fun _ vq _ => (ints x).length - (intOf vq).toNat)
      case atStart => exact ⟨j + 1, -1, by rw [hw1.out], rfl, HK.out, ⟨Nat.lt_succ_self j⟩, ⟨best_0 x j⟩, HB⟩
      case round =>
        clear HB
        obtain ⟨q, bst, rfl, rfl, hq, HJQ, HBI, HB⟩ := hrel
        by_cases hql : q < (ints x).length
        · have hxC := Kd.C_below HX.out HB.out
          obtain ⟨ad2, e2, hx1⟩ := Kd.at_int hxC (j : Int) (by omega) (by omega)
          cases e2
          obtain ⟨ad2, e2, hx2⟩ := Kd.at_int hxC (q : Int) (by omega) (by omega)
          cases e2
          rw [Int.toNat_natCast, rd_ints] at hx1 hx2
          obtain ⟨cc, hcc⟩ : ∃ cc, x.getD q 0 = cc := ⟨_, rfl⟩
          rw [HA.out] at hx1
          rw [hcc] at hx2
          have HCC := Aside0.mk hcc
          have HQL := Aside0.mk hql
          have hwq := Aside0.mk (i64_inc q (by have := HN.out; have := hlx.out; omega))
          clear hcc
          by_cases hca : cc ≤ a
          · have hd1 : decide ((a : Int) < (cc : Int)) = false := decide_eq_false (by omega)
            have hd2 : decide (a < cc) = false := decide_eq_false (by omega)
            have HBI2 := Aside0.mk (best_keep HBI.out (by rw [HCC.out, HA.out]; exact hca))
            clear hca hxC
            go_wp2_with fail
            go_quiet (fail)
            clear hx1 hx2
            go_wp2_with fail
            exact ⟨⟨q + 1, _, by rw [hwq.out], rfl, HQL.out, ⟨Nat.lt_succ_of_lt HJQ.out⟩, HBI2, ⟨pw_below_drewN HB.out _⟩⟩, by rw [hwq.out]; exact nat_dec HQL.out⟩
          · have hd1 : decide ((a : Int) < (cc : Int)) = true := decide_eq_true (by omega)
            have hd2 : decide (a < cc) = true := decide_eq_true (by omega)
            have HCA := Aside0.mk (show x.getD j 0 < x.getD q 0 by rw [HCC.out, HA.out]; omega)
            clear hca
            rcases best_or HBI.out with rfl | ⟨m, rfl, hmq⟩
            · have HBI2 := Aside0.mk (best_first HBI.out HJQ.out HCA.out)
              clear hxC
              go_wp2_with fail
              go_quiet (fail)
              clear hx1 hx2
              go_wp2_with fail
              exact ⟨⟨q + 1, _, by rw [hwq.out], rfl, HQL.out, ⟨Nat.lt_succ_of_lt HJQ.out⟩, HBI2, ⟨pw_below_drewN HB.out _⟩⟩, by rw [hwq.out]; exact nat_dec HQL.out⟩
            · have hml : m < (ints x).length := by omega
              obtain ⟨ad3, e3, hx3⟩ := Kd.at_int hxC (m : Int) (by omega) (by omega)
              cases e3
              rw [Int.toNat_natCast, rd_ints] at hx3
              obtain ⟨b, hb⟩ : ∃ b, x.getD m 0 = b := ⟨_, rfl⟩
              rw [hb] at hx3
              have HBB := Aside0.mk hb
              have hm0 : decide ((m : Int) < 0) = false := decide_eq_false (by omega)
              clear hb hmq hxC
              by_cases hcb : cc < b
              · have hd3 : decide ((cc : Int) < (b : Int)) = true := decide_eq_true (by omega)
                have hd4 : decide (cc < b) = true := decide_eq_true hcb
                have HBI2 := Aside0.mk (best_new HBI.out HJQ.out HCA.out (by rw [HCC.out, HBB.out]; exact hcb))
                clear hcb
                go_wp2_with fail
                go_quiet (fail)
                clear hx1 hx2 hx3
                go_wp2_with fail
                exact ⟨⟨q + 1, _, by rw [hwq.out], rfl, HQL.out, ⟨Nat.lt_succ_of_lt HJQ.out⟩, HBI2, ⟨pw_below_drewN HB.out _⟩⟩, by rw [hwq.out]; exact nat_dec HQL.out⟩
              · have hd3 : decide ((cc : Int) < (b : Int)) = false := decide_eq_false (by omega)
                have hd4 : decide (cc < b) = false := decide_eq_false hcb
                have HBI2 := Aside0.mk (best_old HBI.out (by rw [HCC.out, HBB.out]; exact hcb))
                clear hcb
                go_wp2_with fail
                go_quiet (fail)
                clear hx1 hx2 hx3
                go_wp2_with fail
                exact ⟨⟨q + 1, _, by rw [hwq.out], rfl, HQL.out, ⟨Nat.lt_succ_of_lt HJQ.out⟩, HBI2, ⟨pw_below_drewN HB.out _⟩⟩, by rw [hwq.out]; exact nat_dec HQL.out⟩
        · have hqe : q = (ints x).length := by omega
          subst hqe
          have HBI3 : Aside0 (BestI x j x.length bst) := ⟨by have h := HBI.out; rwa [hlx.out] at h⟩
          rcases best_or HBI.out with rfl | ⟨m, rfl, hml⟩
          · have HDD := Aside0.mk (best_none (by rw [← hlx.out]; exact HK.out) HBI3.out HD.out)
            clear hq hql
            go_wp2_with fail
            exact ⟨⟨j, Nat.le_of_lt HK.out, by rw [hdec], HDD, HB⟩, by simp only [intOf]; rw [hdec]; exact down_dec⟩
          · have hm0 : decide ((m : Int) < 0) = false := decide_eq_false (by omega)
            have HF := Aside0.mk (best_found (by rw [← hlx.out]; exact HK.out) HBI3.out HD.out HE.out)
            obtain ⟨hjm, -⟩ := best_lt HBI3.out
            have HJM := Aside0.mk hjm
            have hxC := Kd.C_below HX.out HB.out
            obtain ⟨b, hb⟩ : ∃ b, x.getD m 0 = b := ⟨_, rfl⟩
            have HBB := Aside0.mk hb
            have hct := Kd.C_take (m := j) hxC (Nat.le_of_lt hjj)
            obtain ⟨y1, hy1⟩ : ∃ y1, x.take j = y1 := ⟨_, rfl⟩
            have hyl : y1.length = j := by rw [← hy1, List.length_take]; have := hlx.out; omega
            rw [ints_take, hy1, ints_length, hyl] at hct
            have HCT := Aside0.mk hct
            have hjc : j ≤ c := Nat.le_trans (Nat.le_of_lt hjj) HC.out
            have hjl : j ≤ (ints x).length := Nat.le_of_lt hjj
            have hcl := Aside0.mk (show j * 8 ≤ 140737488355328 by have := HN.out; have := hlx.out; omega)
            have HO := Aside0.mk ((Owned.nil w).later HB.out)
            have HYL := Aside0.mk hyl
            obtain ⟨cn, hcn⟩ : ∃ cn, (List.range p.length).map (fun v => cu x j m v x.length) = cn := ⟨_, rfl⟩
            rw [hy1, hb, hcn] at HF
            have HCN := Aside0.mk hcn
            have HML := Aside0.mk hml
            have HJ0 := Aside0.mk hjj
            clear hb hct hy1 hyl hxC hq hql hcn
            go_upto_region 19 with ((with_reducible refine gate_builtin (b := .append) (xs := #[.tmp 94, .tmp 97]) rfl ?_); at_builtin; refine Owned.clone (Kd.int .i64) HO.out (.tmp 94) (.tmp 97) 22 3 (.int .i64 0) 8 Try.underlying22 info3 rfl (by decide) (by decide) hcl.out (fun _ _ h => h) (Kd.C_alloc HCT.out _) ?_ rfl rfl rfl rfl; intro v2 w3 h2; have HO3 := Aside0.mk h2; clear h2)
            obtain ⟨ad3, e3, hx3⟩ := Kd.at_int (Kd.C_below HX.out HO3.out.below) (m : Int) (by omega) (by omega)
            cases e3
            rw [Int.toNat_natCast, rd_ints, HBB.out] at hx3
            have hcl3 := Aside0.mk (show ((ints y1).length + 1) * 8 ≤ 140737488355328 by rw [ints_length, HYL.out]; have := HN.out; have := hlx.out; have := HJ0.out; omega)
            go_wp2_with ((with_reducible refine gate_builtin (b := .append) (xs := #[.tmp 99, .tmp 104]) rfl ?_); at_builtin; refine Owned.app (Kd.int .i64) HO3.out (j := 0) rfl ((b : Nat) : Int) [.int .i64 b] (fun _ => rfl) (.tmp 99) (.tmp 104) 22 (.int .i64 0) 8 Try.underlying22 info3 rfl (by decide) (by decide) hcl3.out ?_ rfl rfl rfl rfl; intro v9 w9 h9; have HO9 := Aside0.mk h9; clear h9)
            have e9 : ints y1 ++ [((b : Nat) : Int)] = ints (y1 ++ [b]) := by simp [ints]
            obtain ⟨pre, hpre⟩ : ∃ pre, y1 ++ [b] = pre := ⟨_, rfl⟩
            rw [e9, hpre] at HO9
            rw [hpre] at HF
            have HPL := Aside0.mk (show pre.length = j + 1 by rw [← hpre, List.length_append, HYL.out]; rfl)
            clear e9 hpre HO3 hx3
            go_loopw [10, 11, 12] (fun vm vv _ W => ∃ v : Nat, vv = .int .i64 (v : Int) ∧ v ≤ (ints p).length ∧ Aside0 (Owned w [.row (Kd.int .i64) 3 vm (ints (pre ++ firstA 0 (cn.take v)))] W)) (fun _ vv _ _ => (ints p).length - (intOf vv).toNat)
            case atStart => exact ⟨0, rfl, Nat.zero_le _, by simpa [firstA] using HO9⟩
            case round =>
              clear HO9 HO HCT
              obtain ⟨v, rfl, hv, HO⟩ := hrel
              obtain ⟨g', A1, c1, e1, b1, hC1, hc1⟩ := HS.out.below HO.out.below
              cases e1
              obtain ⟨y0, y1', _, _⟩ := blkA2 b1
              clear hC1 hc1 b1
              by_cases hvl : v < (ints p).length
              · have hv1 : decide ((v : Int) < ((ints p).length : Int)) = true := decide_eq_true (by omega)
                have hv2 : decide (v < (ints p).length) = true := decide_eq_true hvl
                have HVL := Aside0.mk hvl
                have hwv := Aside0.mk (i64_inc v (by have := HP.out; rw [ints_length] at hvl; omega))
                have HFL := Aside0.mk (rnw_len HCN.out HPL.out (show v ≤ p.length by rw [ints_length] at hvl; omega) HP.out (show x.length ≤ 64 from HN.out))
                have HCV := Aside0.mk (rnw_take HCN.out (show v < p.length by rw [ints_length] at hvl; exact hvl))
                clear hvl hv
                go_wp2_with fail
                clear y0 y1'
                go_loopw [10, 12] (fun vm vq W => ∃ q : Nat, vq = .int .i64 (q : Int) ∧ q ≤ (ints x).length ∧ Aside0 (j ≤ q) ∧ Aside0 (Owned w [.row (Kd.int .i64) 3 vm (ints (pre ++ firstA 0 (cn.take v) ++ List.replicate (cu x j m v q) v))] W)) (fun _ vq _ => (ints x).length - (intOf vq).toNat)
                case atStart => exact ⟨j, rfl, Nat.le_of_lt HJ0.out, ⟨Nat.le_refl _⟩, by rw [cu_start]; simpa using HO⟩
                case round =>
                  clear HO
                  obtain ⟨q, rfl, hq, HJQ, HO⟩ := hrel
                  by_cases hql : q < (ints x).length
                  · have HQL := Aside0.mk hql
                    have hq1 : decide ((q : Int) < ((ints x).length : Int)) = true := decide_eq_true (by omega)
                    have hq2 : decide (q < (ints x).length) = true := decide_eq_true hql
                    have hwq := Aside0.mk (i64_inc q (by have := HN.out; have := hlx.out; omega))
                    obtain ⟨ad4, e4, hx4⟩ := Kd.at_int (Kd.C_below HX.out HO.out.below) (q : Int) (by omega) (by omega)
                    cases e4
                    rw [Int.toNat_natCast, rd_ints] at hx4
                    obtain ⟨cc, hcc⟩ : ∃ cc, x.getD q 0 = cc := ⟨_, rfl⟩
                    rw [hcc] at hx4
                    have hstep := cu_next x j m v q
                    rw [hcc] at hstep
                    have HST := Aside0.mk hstep
                    clear hcc hstep hq
                    by_cases hqm : q = m
                    · have hm1 : ((q : Int) != (m : Int)) = false := by simp [hqm]
                      have hm2 : (q != m) = false := by simp [hqm]
                      have HS2 := Aside0.mk (show cu x j m v (q + 1) = cu x j m v q by rw [HST.out, if_neg (fun h => h.2.1 hqm)]; rfl)
                      clear hqm hql
                      go_wp2_with fail
                      exact ⟨⟨q + 1, by rw [hwq.out], HQL.out, ⟨Nat.le_succ_of_le HJQ.out⟩, by rw [HS2.out]; exact HO⟩, by rw [hwq.out]; exact nat_dec HQL.out⟩
                    · have hm1 : ((q : Int) != (m : Int)) = true := by simp; omega
                      have hm2 : (q != m) = true := by simpa using hqm
                      by_cases hcv : cc = v
                      · have hv3 : ((cc : Int) == (v : Int)) = true := by simp [hcv]
                        have hv4 : (cc == v) = true := by simp [hcv]
                        have HS2 := Aside0.mk (show cu x j m v (q + 1) = cu x j m v q + 1 by rw [HST.out, if_pos ⟨HJQ.out, hqm, hcv⟩])
                        have hcl4 := Aside0.mk (rnw_room (v := v) HFL.out (cu_le x j m v q) (show q ≤ 64 by have := HN.out; have := hlx.out; omega) (show j ≤ 64 by have := HN.out; have := hlx.out; have := HJ0.out; omega))
                        clear hqm hcv
                        go_wp2_with ((with_reducible refine gate_builtin (b := .append) (xs := #[.tmp 133, .tmp 135]) rfl ?_); at_builtin; refine Owned.app (Kd.int .i64) HO.out (j := 0) rfl ((v : Nat) : Int) [.int .i64 v] (fun _ => rfl) (.tmp 133) (.tmp 135) 22 (.int .i64 0) 8 Try.underlying22 info3 rfl (by decide) (by decide) hcl4.out ?_ rfl rfl rfl rfl; intro v9 w9 h9; have HO9 := Aside0.mk h9; clear h9)
                        have e9 := rnw_snoc (pre ++ firstA 0 (cn.take v)) (cu x j m v q) v
                        rw [e9, ← HS2.out] at HO9
                        exact ⟨⟨q + 1, by rw [hwq.out], HQL.out, ⟨Nat.le_succ_of_le HJQ.out⟩, HO9⟩, by rw [hwq.out]; exact nat_dec HQL.out⟩
                      · have hv3 : ((cc : Int) == (v : Int)) = false := by simp; omega
                        have hv4 : (cc == v) = false := by simpa using hcv
                        have HS2 := Aside0.mk (show cu x j m v (q + 1) = cu x j m v q by rw [HST.out, if_neg (fun h => hcv h.2.2)]; rfl)
                        clear hqm hcv
                        go_wp2_with fail
                        exact ⟨⟨q + 1, by rw [hwq.out], HQL.out, ⟨Nat.le_succ_of_le HJQ.out⟩, by rw [HS2.out]; exact HO⟩, by rw [hwq.out]; exact nat_dec HQL.out⟩
                  · have hqe : q = (ints x).length := by omega
                    subst hqe
                    have hq1 : decide (((ints x).length : Int) < ((ints x).length : Int)) = false := decide_eq_false (by omega)
                    have hq2 : decide ((ints x).length < (ints x).length) = false := decide_eq_false hql
                    clear hq hql
                    go_wp2_with fail
                    exact ⟨⟨v + 1, by rw [hwv.out], HVL.out, by rw [HCV.out, ← List.append_assoc, ← hlx.out]; exact HO⟩, by rw [hwv.out]; exact nat_dec HVL.out⟩
              · have hve : v = (ints p).length := by omega
                subst hve
                have hv1 : decide (((ints p).length : Int) < ((ints p).length : Int)) = false := decide_eq_false (by omega)
                have hv2 : decide ((ints p).length < (ints p).length) = false := decide_eq_false hvl
                have HFI := Aside0.mk (show (nextW x).getD [] = pre ++ firstA 0 (cn.take (ints p).length) by rw [HF.out, ints_length, ← HCN.out, List.take_of_length_le (by simp)]; rfl)
                have HFS := Aside0.mk (show (nextW x).isSome = true by rw [HF.out]; rfl)
                clear hv hvl
                go_wp2_with fail
                go_ret2
                rw [HFI.out, HFS.out]
                exact ⟨_, rfl, HO.out⟩
end Go.Proofs.Ytohpboblmmbjnaa.P
/- What the document's pointer to a space holds, for readers alone; written by a small program out of the printed text's facts. -/
namespace Go.Proofs.Ytohpboblmmbjnaa.P
open Go.RowKit Go.Proofs.YtohpboblmmbjnaaW.PrintWords Go.Proofs.YtohpboblmmbjnaaW.PrintLast Go.Proofs.YtohpboblmmbjnaaW.PrintMore
def IsRf (w0 W : World) (g : Nat) (f0 : Int) (f1 : List Int) : Prop := ∃ A1 c1, W.heap[g]? = some (.cells #[.int .i64 f0, .slice A1 f1.length c1] 74 (0, 0)) ∧ True ∧ Kd.C (Kd.int .i64) w0 A1 f1.length f1
theorem IsRf.grown {w0 W : World} {g : Nat} {f0 : Int} {f1 : List Int} {W1 : World} {row : Option Nat} (h : IsRf w0 W g f0 f1) (hw : W.grownBy W1 row) (hne : some g ≠ row) : IsRf w0 W1 g f0 f1 := by
  obtain ⟨A1, c1, hb, hg, hr1⟩ := h
  exact ⟨A1, c1, blk_grown hb hw hne, hg, hr1⟩
theorem IsRf.fresh {w0 W : World} {g : Nat} {f0 : Int} {f1 : List Int} (h : IsRf w0 W g f0 f1) : ∀ k, W.heap.size ≤ k → k ≠ g := by
  obtain ⟨A1, c1, hb, hg, hr1⟩ := h
  exact Kd.freshB hb
theorem IsRf.kept {w0 W : World} {g : Nat} {f0 : Int} {f1 : List Int} {W1 : World} {S : Nat → Prop} (h : IsRf w0 W g f0 f1) (hk : Kept W W1 S) (hne : ¬ S g) : IsRf w0 W1 g f0 f1 := by
  obtain ⟨A1, c1, hb, hg, hr1⟩ := h
  exact ⟨A1, c1, blk_kept hb hk hne, hg, hr1⟩
theorem IsRf.below {w0 W : World} {g : Nat} {f0 : Int} {f1 : List Int} {W1 : World} (h : IsRf w0 W g f0 f1) (hw : Below W.heap.size W W1) : IsRf w0 W1 g f0 f1 := h.grown (grown_of_below hw none) (by simp)
theorem IsRf.alloc {w0 W : World} {g : Nat} {f0 : Int} {f1 : List Int} (h : IsRf w0 W g f0 f1) (o : Obj) : IsRf w0 (W.alloc o) g f0 f1 := h.below (below_alloc (Below.refl _ _) o)
theorem IsRf.drewN {w0 W : World} {g : Nat} {f0 : Int} {f1 : List Int} (h : IsRf w0 W g f0 f1) (m : Nat) : IsRf w0 (W.drewN m) g f0 f1 := h
theorem IsRf.drew {w0 W : World} {g : Nat} {f0 : Int} {f1 : List Int} (h : IsRf w0 W g f0 f1) : IsRf w0 W.drew g f0 f1 := h
theorem IsRf.at_ {w0 W : World} {g : Nat} {f0 : Int} {f1 : List Int} {w' : World} {m : Nat} (hq : W.drewN m = w') (h : IsRf w0 W g f0 f1) : IsRf w0 w' g f0 f1 := by subst hq; exact IsRf.drewN h m
theorem IsRf.own_ne {w0 W : World} {g : Nat} {f0 : Int} {f1 : List Int} {α : Type} {d : Kd α} {e : Nat} {base : Nat} {ok : Nat → Prop} {v : Value} {xs : List α} (h : IsRf w0 W g f0 f1) (ho : d.R e W base ok v xs) (ht : e ≠ 74) : some g ≠ v.ownBlock := by
  obtain ⟨A1, c1, hb, hg, hr1⟩ := h
  exact Kd.R_ne ho hb ht
theorem IsRf.lt {w0 W : World} {g : Nat} {f0 : Int} {f1 : List Int} (h : IsRf w0 W g f0 f1) : g < W.heap.size := by
  obtain ⟨A1, c1, hb, hg, hr1⟩ := h
  exact blk_lt hb
theorem IsRf.ge {w0 W : World} {g : Nat} {f0 : Int} {f1 : List Int} (h : IsRf w0 W g f0 f1) : True := by
  obtain ⟨A1, c1, hb, hg, hr1⟩ := h
  exact hg
theorem IsRf.far {w0 W : World} {g : Nat} {f0 : Int} {f1 : List Int} {p : Addr} (h : IsRf w0 W g f0 f1) (hne : g ≠ p.block) (u : Value) : IsRf w0 (W.setCell p u) g f0 f1 := by
  obtain ⟨A1, c1, hb, hg, hr1⟩ := h
  exact ⟨A1, c1, blk_far hb hne u, hg, hr1⟩
theorem cellRf_0 {W : World} {g : Nat} {A1 : Option Addr} {c1 : Nat} {f0 : Int} {f1 : List Int} (h : W.heap[g]? = some (.cells #[.int .i64 f0, .slice A1 f1.length c1] 74 (0, 0))) : W.cell? ⟨g, 0, none⟩ = some (.int .i64 f0) := (blk_cell h 0).trans rfl
theorem IsRf.set_0 {w0 W : World} {g : Nat} {f0 : Int} {f1 : List Int} (h : IsRf w0 W g f0 f1) (x : Int) : IsRf w0 (W.setCell ⟨g, 0, none⟩ (.int .i64 x)) g x f1 := by
  obtain ⟨A1, c1, hb, hg, hr1⟩ := h
  exact ⟨A1, c1, by simpa using blk_set hb 0 (.int .i64 x), hg, hr1⟩
theorem cellRf_1 {W : World} {g : Nat} {A1 : Option Addr} {c1 : Nat} {f0 : Int} {f1 : List Int} (h : W.heap[g]? = some (.cells #[.int .i64 f0, .slice A1 f1.length c1] 74 (0, 0))) : W.cell? ⟨g, 1, none⟩ = some (.slice A1 f1.length c1) := (blk_cell h 1).trans rfl
end Go.Proofs.Ytohpboblmmbjnaa.P
