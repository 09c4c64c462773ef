/- Makers of spaces: what they make is their own. -/
import Derived.Test.YtohpboblmmbjnaaRfn
import Derived.Test.YtohpboblmmbjnaaRfk
import Derived.Test.YtohpboblmmbjnaaP2
namespace Go.Proofs.Ytohpboblmmbjnaa.P
open Go Go.RowKit Go.Proofs.YtohpboblmmbjnaaW.PrintWords Go.Proofs.YtohpboblmmbjnaaW.PrintLast Go.Proofs.YtohpboblmmbjnaaW.PrintMore Go.Proofs.Odo
def MadeR (T : Nat) (w W : World) (v : Value) : Option (List Int) → Prop
  | none => v = .pointer none ∧ Below w.heap.size w W
  | some l => ∃ (g : Nat) (A : Option Addr) (c : Nat), v = .pointer (some ⟨g, 0, none⟩) ∧ Owned w [.row (Kd.int .i64) 3 (.slice A l.length c) l, .box g 67 #[.iface T (.slice A l.length c)]] W
set_option maxHeartbeats 2000000 in
set_option maxRecDepth 100000 in
theorem odo_Product.made_c (A0 : Option Addr) (c0 : Nat) (l0 : List Int) (w : World) (hr0 : Kd.C (Kd.int .i64) w A0 l0.length l0) (hc0 : l0.length ≤ c0) :
    Calls Try.prog 18 #[.slice A0 l0.length c0] w fun e w' => ∃ v, e = .returned (.tuple #[v, .int .i64 (odo_Product.f l0).2]) ∧ MadeR 80 w w' v (odo_Product.f l0).1 := by
  have HR0 := Aside0.mk hr0
  have HC0 := Aside0.mk hc0
  clear hr0 hc0
  by_cases h64 : 64 < l0.length
  · have hf : odo_Product.f l0 = (none, 1) := by unfold odo_Product.f; rw [if_pos h64]
    rw [hf]
    clear hf
    have c3b0 : decide (64 < (l0.length : Int)) = true := decide_eq_true (by omega)
    go_enter Try.func18, Try.ntmps18
    go_wp2
    go_ret2
    exact ⟨_, rfl, rfl, Below.refl _ _⟩
  · have c3b0 : decide (64 < (l0.length : Int)) = false := decide_eq_false (by omega)
    have hlen : l0.length ≤ 64 := by omega
    have h64' := Aside0.mk h64
    clear h64
    go_enter Try.func18, Try.ntmps18
    go_wp2
    go_loop [11] (fun i => ∃ k : Nat, k ≤ l0.length ∧ i = .int .i64 k ∧ Aside0 (anyNeg (l0.take k) = false)) (fun i => l0.length - (intOf i).toNat)
    case atStart => exact ⟨0, by omega, rfl, ⟨by simp [anyNeg]⟩⟩
    case round =>
      obtain ⟨k, hk, rfl, ha⟩ := hrel
      by_cases hlt : k < l0.length
      · obtain ⟨ad256, e256, hx256_0⟩ := Kd.at_int HR0.out k (by omega) (by omega)
        cases e256
        rw [Int.toNat_natCast] at hx256_0
        have hs := anyNeg_take hlt
        rw [ha.out, Bool.false_or] at hs
        by_cases hn : rd l0 k < 0
        · have hfin : Aside0 (odo_Product.f l0 = (none, 4)) := ⟨by
            unfold odo_Product.f
            rw [if_neg h64'.out, if_pos (anyNeg_more (k := k + 1) (by rw [hs]; exact decide_eq_true hn))]⟩
          clear hs
          have hnb : decide (rd l0 k < 0) = true := decide_eq_true hn
          clear hn
          go_wp2
          go_ret2
          rw [hfin.out]
          exact ⟨_, rfl, rfl, Below.refl _ _⟩
        · have hs' : Aside0 (anyNeg (l0.take (k + 1)) = false) := ⟨by rw [hs]; exact decide_eq_false hn⟩
          clear hs
          have hnb : decide (rd l0 k < 0) = false := decide_eq_false hn
          clear hn
          go_wp2
          go_round
          case rel => exact ⟨k + 1, by omega, by go_num, hs'⟩
          case measure => simp [intOf]; omega
      · have hge : l0.length ≤ k := by omega
        have hfin : Aside0 (odo_Product.f l0 = (some l0, 0)) := ⟨by
          unfold odo_Product.f
          have := ha.out
          rw [List.take_of_length_le hge] at this
          rw [if_neg h64'.out, if_neg (by rw [this]; decide)]⟩
        clear ha hlt h64'
        have hcl : Aside0 (slices_Clone_int_int.f l0 = some l0) := ⟨by
          unfold slices_Clone_int_int.f
          simp only [Option.bind_some, List.length_nil, List.nil_append]
          rw [if_pos (by omega)]⟩
        go_wp2_with (go_at_call 32; refine (slices_Clone_int_int.calls A0 c0 l0 l0 _ HR0.out HC0.out hcl.out).mono ?_; rintro e w1 ⟨v1, rfl, hR1, hB1⟩)
        have h1 := (Owned.nil _).fresh (p' := .row (Kd.int .i64) 3 v1 l0) hB1 (Part.sem.low (B := _) (p := .row (Kd.int .i64) 3 v1 l0) (Kd.R_mono (Kd.R_bound hR1) (fun k hk => hk.2.1)) (by first | exact Nat.le_refl _ | (simp; done) | (simp; omega)))
        obtain ⟨A1, c1, e1⟩ := row_slice (h1.get (j := 0) rfl)
        subst e1
        have HO := Aside0.mk h1
        clear h1 hR1 hB1
        go_wp2
        go_ret2
        rw [hfin.out]
        exact ⟨_, rfl, _, A1, c1, rfl, HO.out.box 67 _⟩
set_option maxHeartbeats 2000000 in
set_option maxRecDepth 100000 in
theorem odo_Weaves.made_c (A0 : Option Addr) (c0 : Nat) (l0 : List Int) (w : World) (hr0 : Kd.C (Kd.int .i64) w A0 l0.length l0) (hc0 : l0.length ≤ c0) :
    Calls Try.prog 26 #[.slice A0 l0.length c0] w fun e w' => ∃ v, e = .returned (.tuple #[v, .int .i64 (odo_Weaves.f l0).2]) ∧ MadeR 82 w w' v (odo_Weaves.f l0).1 := by
  have HR0 := Aside0.mk hr0
  have HC0 := Aside0.mk hc0
  clear hr0 hc0
  by_cases h64 : 64 < l0.length
  · have hf : odo_Weaves.f l0 = (none, 1) := by unfold odo_Weaves.f; rw [if_pos h64]
    rw [hf]
    clear hf
    have c3b0 : decide (64 < (l0.length : Int)) = true := decide_eq_true (by omega)
    go_enter Try.func26, Try.ntmps26
    go_wp2
    go_ret2
    exact ⟨_, rfl, rfl, Below.refl _ _⟩
  · have c3b0 : decide (64 < (l0.length : Int)) = false := decide_eq_false (by omega)
    have hlen : l0.length ≤ 64 := by omega
    have h64' := Aside0.mk h64
    clear h64
    go_enter Try.func26, Try.ntmps26
    go_wp2
    go_loop [14] (fun i => ∃ k : Nat, k ≤ l0.length ∧ i = .int .i64 k ∧ Aside0 (anyNeg (l0.take k) = false)) (fun i => l0.length - (intOf i).toNat)
    case atStart => exact ⟨0, by omega, rfl, ⟨by simp [anyNeg]⟩⟩
    case round =>
      obtain ⟨k, hk, rfl, ha⟩ := hrel
      by_cases hlt : k < l0.length
      · obtain ⟨ad256, e256, hx256_0⟩ := Kd.at_int HR0.out k (by omega) (by omega)
        cases e256
        rw [Int.toNat_natCast] at hx256_0
        have hs := anyNeg_take hlt
        rw [ha.out, Bool.false_or] at hs
        by_cases hn : rd l0 k < 0
        · have hfin : Aside0 (odo_Weaves.f l0 = (none, 4)) := ⟨by
            unfold odo_Weaves.f
            rw [if_neg h64'.out, if_pos (anyNeg_more (k := k + 1) (by rw [hs]; exact decide_eq_true hn))]⟩
          clear hs
          have hnb : decide (rd l0 k < 0) = true := decide_eq_true hn
          clear hn
          go_wp2
          go_ret2
          rw [hfin.out]
          exact ⟨_, rfl, rfl, Below.refl _ _⟩
        · have hs' : Aside0 (anyNeg (l0.take (k + 1)) = false) := ⟨by rw [hs]; exact decide_eq_false hn⟩
          clear hs
          have hnb : decide (rd l0 k < 0) = false := decide_eq_false hn
          clear hn
          go_wp2
          go_round
          case rel => exact ⟨k + 1, by omega, by go_num, hs'⟩
          case measure => simp [intOf]; omega
      · have hge : l0.length ≤ k := by omega
        have hnn : Aside0 (anyNeg l0 = false) := ⟨by
          have := ha.out
          rwa [List.take_of_length_le hge] at this⟩
        clear ha hlt
        go_wp2
        clear hge hk
        go_loop [6, 23] (fun s i => ∃ k : Nat, k ≤ l0.length ∧ i = .int .i64 k ∧ s = .int .i64 (l0.take k).sum ∧ Aside0 ((l0.take k).sum ≤ 64)) (fun _ i => l0.length - (intOf i).toNat)
        case atStart => exact ⟨0, by omega, rfl, by simp, ⟨by simp⟩⟩
        case round =>
          obtain ⟨k, hk, rfl, rfl, ha⟩ := hrel
          by_cases hlt : k < l0.length
          · obtain ⟨ad256, e256, hx256_0⟩ := Kd.at_int HR0.out k (by omega) (by omega)
            cases e256
            rw [Int.toNat_natCast] at hx256_0
            have hs := sum_take hlt
            have b1 := (sum_le hnn.out (k + 1)).1
            have b2 := sum_le hnn.out k
            have b3 := ha.out
            have b4 := (sum_le hnn.out (k + 1)).2
            obtain ⟨s, hse⟩ : ∃ s, (l0.take k).sum = s := ⟨_, rfl⟩
            obtain ⟨x, hxe⟩ : ∃ x, rd l0 k = x := ⟨_, rfl⟩
            rw [hse] at b2 b3 hs
            rw [hxe] at hs hx256_0
            have hx0 : 0 ≤ x := by
              have h1 := anyNeg_take hlt
              rw [(anyNeg_split hnn.out (k + 1)).1, (anyNeg_split hnn.out k).1, Bool.false_or] at h1
              have := of_decide_eq_false h1.symm
              omega
            have hs' := Aside0.mk hs
            rw [hs] at b1 b4
            clear hs
            rw [hse]
            clear hse hxe
            by_cases hn : 64 - s < x
            · have hfin : Aside0 (odo_Weaves.f l0 = (none, 1)) := ⟨by
                unfold odo_Weaves.f
                rw [if_neg h64'.out, if_neg (by rw [hnn.out]; decide), if_pos (by omega)]⟩
              have hnb : decide (64 - s < x) = true := decide_eq_true hn
              go_wp2
              go_ret2
              rw [hfin.out]
              exact ⟨_, rfl, rfl, Below.refl _ _⟩
            · have hnb : decide (64 - s < x) = false := decide_eq_false hn
              go_wp2
              go_round
              case rel => exact ⟨k + 1, by omega, by go_num, by rw [hs'.out], ⟨by rw [hs'.out]; omega⟩⟩
              case measure => simp [intOf]; omega
          · have hge : l0.length ≤ k := by omega
            have hfin : Aside0 (odo_Weaves.f l0 = (some l0, 0)) := ⟨by
              have := ha.out
              rw [List.take_of_length_le hge] at this
              unfold odo_Weaves.f
              rw [if_neg h64'.out, if_neg (by rw [hnn.out]; decide), if_neg (by omega)]⟩
            have hcl : Aside0 (slices_Clone_int_int.f l0 = some l0) := ⟨by
              unfold slices_Clone_int_int.f
              simp only [Option.bind_some, List.length_nil, List.nil_append]
              rw [if_pos (by omega)]⟩
            clear ha
            go_wp2_with (go_at_call 32; refine (slices_Clone_int_int.calls A0 c0 l0 l0 _ HR0.out HC0.out hcl.out).mono ?_; rintro e w1 ⟨v1, rfl, hR1, hB1⟩)
            have h1 := (Owned.nil _).fresh (p' := .row (Kd.int .i64) 3 v1 l0) hB1 (Part.sem.low (B := _) (p := .row (Kd.int .i64) 3 v1 l0) (Kd.R_mono (Kd.R_bound hR1) (fun k hk => hk.2.1)) (by first | exact Nat.le_refl _ | (simp; done) | (simp; omega)))
            obtain ⟨A1, c1, e1⟩ := row_slice (h1.get (j := 0) rfl)
            subst e1
            have HO := Aside0.mk h1
            clear h1 hR1 hB1
            go_wp2
            go_ret2
            rw [hfin.out]
            exact ⟨_, rfl, _, A1, c1, rfl, HO.out.box 67 _⟩
set_option maxHeartbeats 2000000 in
set_option maxRecDepth 100000 in
theorem odo_Orders.made_c (n : Int) (w : World) :
    Calls Try.prog 19 #[.int .i64 n] w fun e w' => ∃ v, e = .returned (.tuple #[v, .int .i64 (odo_Orders.f n).2]) ∧ MadeR 82 w w' v (odo_Orders.f n).1 := by
  by_cases h0 : n < 0
  · have hf : odo_Orders.f n = (none, 4) := by unfold odo_Orders.f; rw [if_neg (by omega)]
    rw [hf]
    clear hf
    have b0 : decide (n < 0) = true := decide_eq_true h0
    go_enter Try.func19, Try.ntmps19
    go_wp2
    go_ret2
    exact ⟨_, rfl, rfl, Below.refl _ _⟩
  · have b0 : decide (n < 0) = false := decide_eq_false h0
    by_cases h1 : 64 < n
    · have hf : odo_Orders.f n = (none, 4) := by unfold odo_Orders.f; rw [if_neg (by omega)]
      rw [hf]
      clear hf
      have b1 : decide (64 < n) = true := decide_eq_true h1
      go_enter Try.func19, Try.ntmps19
      go_wp2
      go_ret2
      exact ⟨_, rfl, rfl, Below.refl _ _⟩
    · have b1 : decide (64 < n) = false := decide_eq_false h1
      obtain ⟨m, rfl⟩ := Int.eq_ofNat_of_zero_le (show 0 ≤ n by omega)
      have hf : odo_Orders.f m = (some (List.replicate m 1), 0) := by unfold odo_Orders.f; rw [if_pos (by omega)]; rfl
      rw [hf]
      clear hf
      have hm : m ≤ 64 := by omega
      have hC := Aside0.mk (lit_C w [1] (by decide))
      go_enter Try.func19, Try.ntmps19
      go_wp2_with (go_at_call 33; refine (slices_Repeat_one 1 m hm _ _ _ hC.out).mono ?_; rintro e w1 ⟨v1, rfl, hR1, hB1⟩)
      have h1 := ((Owned.nil w).later (below_alloc (Below.refl _ w) _)).fresh (p' := .row (Kd.int .i64) 3 v1 (List.replicate m 1)) hB1 (Part.sem.low (B := _) (p := .row (Kd.int .i64) 3 v1 (List.replicate m 1)) (Kd.R_mono (Kd.R_bound hR1) (fun k hk => hk.2.1)) (by first | exact Nat.le_refl _ | (simp; done) | (simp; omega)))
      obtain ⟨A1, c1, e1⟩ := row_slice (h1.get (j := 0) rfl)
      subst e1
      have HO := Aside0.mk h1
      clear h1 hR1 hB1
      go_wp2
      go_ret2
      exact ⟨_, rfl, _, A1, c1, rfl, HO.out.box 67 _⟩

end Go.Proofs.Ytohpboblmmbjnaa.P
/- Both spaces: the program's and the document's. -/
namespace Go.Proofs.Ytohpboblmmbjnaa.P
open Go Go.RowKit Go.Proofs.YtohpboblmmbjnaaW.PrintWords Go.Proofs.YtohpboblmmbjnaaW.PrintLast Go.Proofs.YtohpboblmmbjnaaW.PrintMore Go.Proofs.Odo
/-- The kinds of spaces, as the statements name them. -/
def KindOf (T : Nat) (kd : Int) (l : List Int) (n : Int) (X : Option (List Int) × Int) : Prop :=
  (T = 80 ∧ kd = 1 ∧ X = odo_Product.f l) ∨ (T = 82 ∧ kd = 2 ∧ X = odo_Orders.f n) ∨ (T = 82 ∧ kd = 3 ∧ X = odo_Weaves.f l)
def BothR (w W : World) (vs vr : Value) (T : Nat) (kd : Int) : Option (List Int) → Prop
  | none => vs = .pointer none ∧ vr = .pointer none ∧ Below w.heap.size w W
  | some l => SpAt T W vs l ∧ RefS W vr kd l ∧ Below w.heap.size w W
section
variable {w W W' : World} {ps : List Part}
theorem Part.sem.bound {B : Nat} {p : Part} {ok : Nat → Prop} {W : World} (h : p.sem B ok W) : p.sem B (fun k => ok k ∧ B ≤ k) W := by
  cases p with
  | row d e v xs => exact Kd.R_mono (Kd.R_bound h) (fun k hk => ⟨hk.1, hk.2.1⟩)
  | rows d e v xs e1 => exact Kd.S_mono (Kd.S_bound h) (fun k hk => ⟨hk.1, hk.2.1⟩)
  | box g t cs => exact ⟨⟨h.1, h.2.1⟩, h.2.1, h.2.2⟩
  | none => trivial
/-- What a callee made from here on comes behind what is owned. -/
theorem Owned.more {qs : List Part} (h : Owned w ps W) (h' : Owned W qs W') : Owned w (ps ++ qs) W' := by
  obtain ⟨col, h1, h2⟩ := h
  obtain ⟨col', h1', h2'⟩ := h'
  refine ⟨fun k => if k < W.heap.size then col k else ps.length + col' k, below_then h1 h1.size h1', fun i p hp => ?_⟩
  by_cases hi : i < ps.length
  · rw [List.getElem?_append_left hi] at hp
    exact (h2 i p hp).move (fun k hk hlt => ⟨h1'.block k hlt, by simp only [if_pos hlt]; exact hk⟩)
  · rw [List.getElem?_append_right (Nat.le_of_not_lt hi)] at hp
    refine ((h2' _ p hp).bound.low h1.size).wide (fun k hk => ?_)
    simp only [if_neg (Nat.not_lt.2 hk.2), hk.1]
    omega
end
theorem MadeR.below {T : Nat} {w W : World} {v : Value} {X : Option (List Int)} (h : MadeR T w W v X) : Below w.heap.size w W := by
  cases X with
  | none => exact h.2
  | some l => obtain ⟨_, _, _, _, hO⟩ := h; exact hO.below
theorem pre_c {w W : World} {ps : List Part} {j n cy : Nat} {Y : Option Addr} {l X7 : List Int} (h : Owned w ps W) (hj : ps[j]? = some (.row (Kd.int .i64) 3 (.slice Y n cy) X7)) (e : l ++ [77] = X7) : Kd.C (Kd.int .i64) W Y l.length l ∧ l.length ≤ cy := by
  obtain ⟨A', c', e', h1, h2⟩ := Kd.R_reads (show (Kd.int .i64).R 3 W w.heap.size (fun _ => True) (.slice Y n cy) X7 from h.get hj)
  injection e' with e1 e2 e3
  subst e1 e3
  subst e
  have h3 := Kd.C_take h2 (m := l.length) (by simp)
  rw [List.take_left] at h3
  rw [List.length_append] at h1
  exact ⟨h3, by omega⟩
theorem join_made {w Wa Wb Wb' Wc : World} {vs vr : Value} {b0 r0 : Part} {T : Nat} {kd : Int} {X : Option (List Int)} (h : Owned w [b0, r0] Wa) (hm : MadeR T Wa Wb vs X) (hb : Below Wb.heap.size Wb Wb') (hn : NewR Wb' Wc vr kd X) :
    ∃ (p q : Option Addr) (ps2 : List Part), vs = .pointer p ∧ vr = .pointer q ∧ p.isNone = q.isNone ∧ Owned w ([b0, r0] ++ ps2) Wc ∧ ∀ b r W', Owned w ([b, r] ++ ps2) W' → BothR w W' vs vr T kd X := by
  cases X with
  | none =>
    obtain ⟨rfl, h1⟩ := hm
    obtain ⟨rfl, h2⟩ := hn
    exact ⟨none, none, [], rfl, rfl, rfl, ((h.later h1).later hb).later h2, fun b r W' h' => ⟨rfl, rfl, h'.below⟩⟩
  | some l =>
    obtain ⟨g1, A1, c1, rfl, h1⟩ := hm
    obtain ⟨g2, A2, c2, rfl, h2⟩ := hn
    refine ⟨some ⟨g1, 0, none⟩, some ⟨g2, 0, none⟩, [.row (Kd.int .i64) 3 (.slice A1 l.length c1) l, .box g1 67 #[.iface T (.slice A1 l.length c1)], .row (Kd.int .i64) 3 (.slice A2 l.length c2) l, .box g2 74 #[.int .i64 kd, .slice A2 l.length c2]], rfl, rfl, rfl, ((h.more h1).later hb).more h2, fun b r W' h' => ⟨?_, ?_, h'.below⟩⟩
    · obtain ⟨A', c', e', k1, k2⟩ := Kd.R_reads (show (Kd.int .i64).R 3 W' w.heap.size (fun _ => True) (.slice A1 l.length c1) l from h'.get (j := 2) rfl)
      injection e' with e1 e2 e3
      subst e1 e3
      exact ⟨g1, A1, c1, rfl, (blk_cell (h'.blk (j := 3) rfl) 0).trans rfl, k1, k2⟩
    · obtain ⟨A', c', e', k1, k2⟩ := Kd.R_reads (show (Kd.int .i64).R 3 W' w.heap.size (fun _ => True) (.slice A2 l.length c2) l from h'.get (j := 4) rfl)
      injection e' with e1 e2 e3
      subst e1 e3
      exact ⟨g2, A2, c2, rfl, h'.blk (j := 5) rfl, k2, k1⟩
theorem same_self_l : ∀ (d : Nat) (x : List Int) (j : Nat), j + d = x.length → x.length < 9223372036854775807 → weirlaw01_SameInts.l0 (d + 1) x x (j : Int) = some true
  | 0, x, j, h, _ => by rw [weirlaw01_SameInts.l0, if_neg (by omega)]
  | d + 1, x, j, h, hl => by
    rw [weirlaw01_SameInts.l0, if_pos (by omega), if_pos (by omega), if_pos (by omega), if_pos rfl, show wrap64 ((j : Int) + 1) = ((j + 1 : Nat) : Int) by unfold wrap64; omega]
    exact same_self_l d x (j + 1) (by omega) hl
theorem same_self (x : List Int) (hl : x.length < 9223372036854775807) : weirlaw01_SameInts.f (x.length + 1) x x = some true := by
  unfold weirlaw01_SameInts.f
  rw [if_pos rfl]
  exact same_self_l x.length x 0 (by omega) hl
theorem lit1 (w6 : World) (N : Int) : Kd.C (Kd.int .i64) (w6.alloc (.cells #[.int .i64 N] 3)) (some ⟨w6.heap.size, 0, none⟩) 1 [N] := lit_C w6 [N] (by simp)
theorem same_q {W : World} {l : List Int} {A A' : Option Addr} {c c' : Nat} (h1 : Kd.C (Kd.int .i64) W A l.length l) (k1 : l.length ≤ c) (h2 : Kd.C (Kd.int .i64) W A' l.length l) (k2 : l.length ≤ c') (hs : weirlaw01_SameInts.f (l.length + 1) l l = some true) (n : Nat) :
    Calls Try.prog 13 #[.slice A l.length c, .slice A' l.length c'] (W.drewN n) fun e w' => e = .returned (.bool true) ∧ ∃ m, w' = (W.drewN n).drewN m :=
  (weirlaw01_SameInts.calls _ _ _ l _ _ l true _ (Kd.C_drewN h1 _) k1 (Kd.C_drewN h2 _) k2 hs).mono fun _ _ h => ⟨h.1, h.2.out⟩
theorem next_of {k m : Nat} (h : k < m) (hm : m ≤ 9223372036854775806) : wrap64 ((k : Int) + 1) = ((k + 1 : Nat) : Int) := by unfold wrap64; omega
theorem pt27 : Try.prog.underlying 27 = some (.pointer (Try.prog.pointee 27)) := by unfold Program.pointee; rw [Try.underlying27]
set_option maxHeartbeats 8000000 in
set_option maxRecDepth 100000 in
theorem both_c {w : World} {K N : Int} {l : List Int} {A : Option Addr} {c : Nat} (hl : Kd.C (Kd.int .i64) w A l.length l) (hc : l.length ≤ c) (h8 : (l.length + 1) * 8 ≤ 140737488355328) :
    Calls Try.prog 8 #[.agg #[.int .i64 K, .slice A l.length c, .int .i64 N]] w fun e W' => ∃ vs vr T kd X, e = .returned (.tuple #[vs, vr, .bool true]) ∧ KindOf T kd l N X ∧ BothR w W' vs vr T kd X.1 := by
  have HA := Aside0.mk hl
  have HC := Aside0.mk hc
  have H8 := Aside0.mk h8
  have H8' := Aside0.mk (show l.length * 8 ≤ 140737488355328 by omega)
  clear hl hc h8
  go_enter Try.func8, Try.ntmps8
  go_upto_region 1 with fail
  have HO := Aside0.mk ((Owned.nil w).box 24 #[.int .i64 K, .slice A l.length c, .int .i64 N])
  obtain ⟨g, hg⟩ : ∃ g, w.heap.size = g := ⟨_, rfl⟩
  rw [hg] at HO ⊢
  generalize World.alloc w _ = W0 at HO ⊢
  obtain ⟨y0, y1, y2, _⟩ := blkA3 (HO.out.blk (j := 0) rfl)
  have hxa : (W0.alloc (.cells #[] 3 (0, 0))).cell? ⟨g, 1, none⟩ = some (.slice A l.length c) := pw_cell_below (below_alloc (Below.refl _ _) _) y1
  go_upto_region 2 with (first
    | ((with_reducible refine gate_builtin (b := .append) (xs := #[.tmp 11, .tmp 13]) rfl ?_); at_builtin; refine Owned.clone (Kd.int .i64) HO.out (.tmp 11) (.tmp 13) 22 3 (.int .i64 0) 8 Try.underlying22 info3 rfl (by decide) (by decide) H8'.out (fun _ _ h => h) (Kd.C_alloc (Kd.C_below HA.out HO.out.below) _) ?_ rfl rfl rfl rfl; intro v2 w3 h2; have HO2 := Aside0.mk h2; clear h2 y0 y1 y2 hxa)
    | ((with_reducible refine gate_builtin (b := .append) (xs := #[.tmp 14, .tmp 15]) rfl ?_); at_builtin; refine Owned.app (Kd.int .i64) HO2.out (j := 1) rfl 77 [.int .i64 77] (fun _ => rfl) (.tmp 14) (.tmp 15) 22 (.int .i64 0) 8 Try.underlying22 info3 rfl (by decide) (by decide) H8.out ?_ rfl rfl rfl rfl; intro v4 w5 h5; have HO5 := Aside0.mk h5; clear h5))
  obtain ⟨X7, hX7⟩ : ∃ X, l ++ [77] = X := ⟨_, rfl⟩
  have EX := Aside0.mk hX7
  have LX := Aside0.mk (show X7.length = l.length + 1 by rw [← hX7]; simp)
  rw [hX7] at HO5
  obtain ⟨Y, cy, e4⟩ := row_slice (HO5.out.get (j := 1) rfl)
  subst e4
  clear HO HO2 hX7
  obtain ⟨y0, y1, y2, _⟩ := blkA3 (HO5.out.blk (j := 0) rfl)
  obtain ⟨z, hz⟩ : ∃ z, (IntKind.u64.wrap K).tmod 3 = z := ⟨_, rfl⟩
  have HO5' : Aside0 (Owned w [.box g 24 #[.int .i64 K, .slice A l.length c, .int .i64 N], .row (Kd.int .i64) 3 (.slice Y X7.length cy) X7] w5) := ⟨HO5.out⟩
  clear HO5
  have HPC := Aside0.mk (pre_c HO5'.out (j := 1) rfl EX.out)
  have hlc := HPC.out.2
  have hlx : l.length ≤ X7.length := by rw [LX.out]; exact Nat.le_succ _
  have htri : (z == 0) = true ∨ ((z == 0) = false ∧ (z == 1) = true) ∨ ((z == 0) = false ∧ (z == 1) = false) := by
    cases (z == 0) <;> cases (z == 1) <;> simp
  rcases htri with h0 | ⟨h0, h1⟩ | ⟨h0, h1⟩
  case' inl =>
    go_upto_region 15 with (first
      | (go_at_call 18; (with_reducible refine (odo_Product.made_c Y cy l _ HPC.out.1 HPC.out.2).mono ?_); rintro e w6 ⟨v6, rfl, h6⟩; have H6 := Aside0.mk h6; have HO6 := Aside0.mk (HO5'.out.later h6.below); clear h6 y0 y1 y2; obtain ⟨y0, y1, y2, _⟩ := blkA3 (HO6.out.blk (j := 0) rfl))
      | (go_at_call 25; (with_reducible refine (rnewp_c (Kd.C_below HA.out HO6.out.below)).mono ?_); rintro e w7 ⟨v7, rfl, h7⟩; obtain ⟨p, q, ps2, rfl, rfl, hpq, hO7, hF⟩ := join_made HO5'.out H6.out (Below.refl _ _) h7; have HF := Aside0.mk (show ∀ b r W', Owned w ([b, r] ++ ps2) W' → ∃ T kd X, KindOf T kd l N X ∧ BothR w W' (.pointer p) (.pointer q) T kd X.1 from fun b r W' h' => ⟨80, 1, odo_Product.f l, .inl ⟨rfl, rfl, rfl⟩, hF b r W' h'⟩); have HO7 := Aside0.mk hO7; clear hF hO7 h7 HO6 y0 y1 y2; obtain ⟨y0, y1, y2, _⟩ := blkA3 (HO7.out.blk (j := 0) rfl)))
    obtain ⟨code, hcode⟩ : ∃ x, (odo_Product.f l).2 = x := ⟨_, rfl⟩
    simp only [hcode]
    clear hcode H6
  case' inr.inl =>
    go_upto_region 15 with (first
      | (go_at_call 19; (with_reducible refine (odo_Orders.made_c N _).mono ?_); rintro e w6 ⟨v6, rfl, h6⟩; have HLT := Aside0.mk (lit1 w6 N); have H6 := Aside0.mk h6; have HO6 := Aside0.mk (HO5'.out.later h6.below); clear h6 y0 y1 y2; obtain ⟨y0, y1, y2, _⟩ := blkA3 (HO6.out.blk (j := 0) rfl))
      | (go_at_call 25; (with_reducible refine (rnewo_c HLT.out).mono ?_); rintro e w7 ⟨v7, rfl, h7⟩; obtain ⟨p, q, ps2, rfl, rfl, hpq, hO7, hF⟩ := join_made HO5'.out H6.out (below_alloc (Below.refl _ _) _) h7; have HF := Aside0.mk (show ∀ b r W', Owned w ([b, r] ++ ps2) W' → ∃ T kd X, KindOf T kd l N X ∧ BothR w W' (.pointer p) (.pointer q) T kd X.1 from fun b r W' h' => ⟨82, 2, odo_Orders.f N, .inr (.inl ⟨rfl, rfl, rfl⟩), hF b r W' h'⟩); have HO7 := Aside0.mk hO7; clear hF hO7 h7 HO6 y0 y1 y2; obtain ⟨y0, y1, y2, _⟩ := blkA3 (HO7.out.blk (j := 0) rfl)))
    obtain ⟨code, hcode⟩ : ∃ x, (odo_Orders.f N).2 = x := ⟨_, rfl⟩
    simp only [hcode]
    clear hcode H6 HLT
  case' inr.inr =>
    go_upto_region 15 with (first
      | (go_at_call 26; (with_reducible refine (odo_Weaves.made_c Y cy l _ HPC.out.1 HPC.out.2).mono ?_); rintro e w6 ⟨v6, rfl, h6⟩; have H6 := Aside0.mk h6; have HO6 := Aside0.mk (HO5'.out.later h6.below); clear h6 y0 y1 y2; obtain ⟨y0, y1, y2, _⟩ := blkA3 (HO6.out.blk (j := 0) rfl))
      | (go_at_call 25; (with_reducible refine (rneww_c (Kd.C_below HA.out HO6.out.below)).mono ?_); rintro e w7 ⟨v7, rfl, h7⟩; obtain ⟨p, q, ps2, rfl, rfl, hpq, hO7, hF⟩ := join_made HO5'.out H6.out (Below.refl _ _) h7; have HF := Aside0.mk (show ∀ b r W', Owned w ([b, r] ++ ps2) W' → ∃ T kd X, KindOf T kd l N X ∧ BothR w W' (.pointer p) (.pointer q) T kd X.1 from fun b r W' h' => ⟨82, 3, odo_Weaves.f l, .inr (.inr ⟨rfl, rfl, rfl⟩), hF b r W' h'⟩); have HO7 := Aside0.mk hO7; clear hF hO7 h7 HO6 y0 y1 y2; obtain ⟨y0, y1, y2, _⟩ := blkA3 (HO7.out.blk (j := 0) rfl)))
    obtain ⟨code, hcode⟩ : ∃ x, (odo_Weaves.f l).2 = x := ⟨_, rfl⟩
    simp only [hcode]
    clear hcode H6
  all_goals
    obtain ⟨s1, s2, s3⟩ := ptr26
    have t1 : ∀ (op : BinOp) (W : World) (p q : Option Addr) (x y : Operand), (eqGuard op 27 x y (.pointer p) (.pointer q)).run Try.prog W = .ok () W := fun op W p q x y => by cases op <;> rfl
    have t2 : ∀ (W : World) (p : Option Addr), (binOp .eql 27 (.pointer p) (.pointer none)).run Try.prog W = .ok (.bool p.isNone) W := fun W p => run_eql_pointer_nil W 27 p pt27
    obtain ⟨bq, hbq⟩ : ∃ x, q.isNone = x := ⟨_, rfl⟩
    rw [hbq] at hpq
    have HB7 := Aside0.mk HO7.out.below
    have hsm := Aside0.mk (same_self l (by have := H8.out; omega))
    have hrd : rd X7 (l.length : Int) = 77 := by
      rw [← EX.out]
      unfold rd
      rw [Int.toNat_natCast, List.getD_eq_getElem?_getD, List.getElem?_append_right (Nat.le_refl _), Nat.sub_self]
      rfl
    have hlx7 : l.length < X7.length := by rw [LX.out]; exact Nat.lt_succ_self _
    obtain ⟨gl, rfl, hc77, hf77⟩ := row_at HO7.out (j := 1) rfl hlx7
    rw [hrd] at hc77
    have hpre := pre_c HO7.out (j := 1) rfl EX.out
    have HP7 := Aside0.mk hpre
    clear hrd hpre
    go_quiet (first | (go_at_call 13; refine Calls.quiet_of (same_q HP7.out.1 HP7.out.2 (Kd.C_below HA.out HB7.out) HC.out hsm.out _)))
    have HO8 := Aside0.mk (HO7.out.drewN nq)
    clear hc77 hf77 HP7 y0 y1 y2 s1 s2 s3 t1 t2 hsm HB7 HO7 hlx7 hlx hlc
    generalize w7.drewN nq = w8 at HO8 ⊢
    obtain ⟨m, hm⟩ : ∃ m, X7.length = m := ⟨_, rfl⟩
    rw [hm] at HO8 LX ⊢
    have hmb := Aside0.mk (show m ≤ 9223372036854775806 by have := H8.out; have := LX.out; omega)
    have hm8 := Aside0.mk hm
    clear hm
    go_wp2_with fail
    go_loopw [10] (fun vi W => ∃ k : Nat, vi = .int .i64 k ∧ k ≤ m ∧ Aside0 (∃ X' : List Int, X'.length = m ∧ Owned w ([.box g 24 #[.int .i64 K, .slice A l.length c, .int .i64 N], .row (Kd.int .i64) 3 (.slice (some ⟨gl, 0, none⟩) m cy) X'] ++ ps2) W)) (fun vi _ => m - (intOf vi).toNat)
    case atStart => exact ⟨0, rfl, Nat.zero_le _, ⟨_, hm8.out, HO8.out⟩⟩
    case round =>
      obtain ⟨k, rfl, hk, ho⟩ := hrel
      obtain ⟨X', hX', hO⟩ := ho.out
      clear ho
      by_cases hlt : k < m
      · have hO' := hO
        rw [← hX'] at hO'
        obtain ⟨gl', e, hck, hfk⟩ := row_at hO' (j := 1) rfl (by rw [hX']; exact hlt)
        injection e with e
        injection e with e
        subst e
        have HO9 := Aside0.mk hO
        have HX := Aside0.mk hX'
        clear hO hO' hX'
        have hwk := Aside0.mk (next_of hlt hmb.out)
        have HLT := Aside0.mk hlt
        go_wp2_with fail
        go_roundw
        case rel => exact ⟨k + 1, by rw [hwk.out], HLT.out, ⟨X'.set k 3, by rw [List.length_set]; exact HX.out, HO9.out.num (j := 1) rfl k 3⟩⟩
        case measure => rw [hwk.out]; exact nat_dec HLT.out
      · have HO9 := Aside0.mk hO
        clear hO hX'
        go_wp2_with fail
        go_ret3
        obtain ⟨T, kd, X, hK, hB⟩ := HF.out _ _ _ HO9.out
        exact ⟨_, _, T, kd, X, rfl, hK, hB⟩
end Go.Proofs.Ytohpboblmmbjnaa.P
/- The document's At and Rank where they answer an error. -/
namespace Go.Proofs.Ytohpboblmmbjnaa.P
open Go Go.RowKit Go.Proofs.YtohpboblmmbjnaaW.PrintWords Go.Proofs.YtohpboblmmbjnaaW.PrintLast Go.Proofs.YtohpboblmmbjnaaW.PrintMore Go.Proofs.Odo
set_option maxHeartbeats 4000000 in
set_option maxRecDepth 100000 in
theorem rat_no {w : World} {v : Value} {kd : Int} {L : List Nat} {a n : Int} (hs : RefS w v kd (ints L)) (F : FitL kd L) (hW : Big.wordR (cntV kd L 0) = (a, false)) :
    Calls Try.prog 12 #[v, .int .u64 n] w fun e W' => e = .returned (.tuple #[.slice none 0 0, .int .i64 30]) ∧ Below w.heap.size w W' := by
  have HS := Aside0.mk hs
  have HF := Aside0.mk F
  have HW := Aside0.mk hW
  obtain ⟨g, A0, c0, rfl, -⟩ := hs
  clear F hW
  go_enter Try.func12, Try.ntmps12
  go_wp2_with (go_at_call 10; (with_reducible refine (rlen_c HS.out HF.out HW.out).mono ?_); rintro e w1 ⟨rfl, hb1⟩; have HB1 := Aside0.mk hb1; clear hb1)
  go_ret2
  exact ⟨rfl, HB1.out⟩
set_option maxHeartbeats 4000000 in
set_option maxRecDepth 100000 in
theorem rat_far {w : World} {v : Value} {kd : Int} {L : List Nat} {a n : Int} (hs : RefS w v kd (ints L)) (F : FitL kd L) (hW : Big.wordR (cntV kd L 0) = (a, true)) (hn : a ≤ n) :
    Calls Try.prog 12 #[v, .int .u64 n] w fun e W' => e = .returned (.tuple #[.slice none 0 0, .int .i64 3]) ∧ Below w.heap.size w W' := by
  have HS := Aside0.mk hs
  have HF := Aside0.mk F
  have HW := Aside0.mk hW
  obtain ⟨g, A0, c0, rfl, -⟩ := hs
  have hd : decide (a ≤ n) = true := decide_eq_true hn
  clear F hW hn
  go_enter Try.func12, Try.ntmps12
  go_wp2_with (go_at_call 10; (with_reducible refine (rlen_c HS.out HF.out HW.out).mono ?_); rintro e w1 ⟨rfl, hb1⟩; have HB1 := Aside0.mk hb1; clear hb1)
  go_ret2
  exact ⟨rfl, HB1.out⟩
set_option maxHeartbeats 4000000 in
set_option maxRecDepth 100000 in
theorem rrank_no {w : World} {v r : Value} {kd : Int} {L : List Nat} {a : Int} (hs : RefS w v kd (ints L)) (F : FitL kd L) (hW : Big.wordR (cntV kd L 0) = (a, false)) :
    Calls Try.prog 15 #[v, r] w fun e W' => e = .returned (.tuple #[.int .u64 0, .int .i64 30]) ∧ Below w.heap.size w W' := by
  have HS := Aside0.mk hs
  have HF := Aside0.mk F
  have HW := Aside0.mk hW
  obtain ⟨g, A0, c0, rfl, -⟩ := hs
  clear F hW
  go_enter Try.func15, Try.ntmps15
  go_wp2_with (go_at_call 10; (with_reducible refine (rlen_c HS.out HF.out HW.out).mono ?_); rintro e w1 ⟨rfl, hb1⟩; have HB1 := Aside0.mk hb1; clear hb1)
  go_ret2
  exact ⟨rfl, HB1.out⟩
set_option maxHeartbeats 4000000 in
set_option maxRecDepth 100000 in
theorem rrank_bad {w : World} {v : Value} {kd : Int} {L : List Nat} {a : Int} {A : Option Addr} {m c : Nat} (hs : RefS w v kd (ints L)) (F : FitL kd L) (hW : Big.wordR (cntV kd L 0) = (a, true))
    (his : ∀ W, Below w.heap.size w W → Calls Try.prog 31 #[v, .slice A m c] W fun e W' => e = .returned (.bool false) ∧ Below W.heap.size W W') :
    Calls Try.prog 15 #[v, .slice A m c] w fun e W' => e = .returned (.tuple #[.int .u64 0, .int .i64 3]) ∧ Below w.heap.size w W' := by
  have HS := Aside0.mk hs
  have HF := Aside0.mk F
  have HW := Aside0.mk hW
  have HIS := Aside0.mk his
  obtain ⟨g, A0, c0, rfl, -⟩ := hs
  clear F hW his
  go_enter Try.func15, Try.ntmps15
  go_wp2_with (first
    | (go_at_call 10; (with_reducible refine (rlen_c HS.out HF.out HW.out).mono ?_); rintro e w1 ⟨rfl, hb1⟩; have HB1 := Aside0.mk hb1; clear hb1)
    | (go_at_call 31; (with_reducible refine (HIS.out _ HB1.out).mono ?_); rintro e w2 ⟨rfl, hb2⟩; have HB2 := Aside0.mk (below_then HB1.out HB1.out.size hb2); clear hb2))
  go_ret2
  exact ⟨rfl, HB2.out⟩
end Go.Proofs.Ytohpboblmmbjnaa.P
/- The program's space and the document's answer the same. -/
namespace Go.Proofs.Ytohpboblmmbjnaa.P
open Go Go.RowKit Go.Proofs.YtohpboblmmbjnaaW.PrintWords Go.Proofs.YtohpboblmmbjnaaW.PrintLast Go.Proofs.YtohpboblmmbjnaaW.PrintMore Go.Proofs.Odo
def AtOk (w w' : World) (e : Ending) (xs : List Int) (cd : Int) : Prop := ∃ v1, e = .returned (.tuple #[v1, .int .i64 cd]) ∧ Kd.R (Kd.int .i64) 3 w' w.heap.size (fun _ => True) v1 xs ∧ Below w.heap.size w w'
structure Twin (T : Nat) (kd : Int) (l : List Int) : Prop where
  len : ∃ (all : Nat) (cd : Int), all < 18446744073709551616 ∧ (∀ w v, SpAt T w v l → Calls Try.prog 9 #[v] w fun e w' => e = .returned (.tuple #[.int .u64 (all : Int), .int .i64 cd]) ∧ Drawn0 w w') ∧
    ∀ w v, RefS w v kd l → Calls Try.prog 10 #[v] w fun e w' => e = .returned (.tuple #[.int .u64 (all : Int), .int .i64 cd]) ∧ Below w.heap.size w w'
  at_ : ∀ n : Nat, ∃ (xs : List Int) (cd : Int), xs.length ≤ 64 ∧ (∀ w v, SpAt T w v l → Calls Try.prog 11 #[v, .int .u64 (n : Int)] w fun e w' => AtOk w w' e xs cd) ∧
    ∀ w v, RefS w v kd l → Calls Try.prog 12 #[v, .int .u64 (n : Int)] w fun e w' => AtOk w w' e xs cd
  rank : ∀ xs : List Int, xs.length < 9223372036854775807 → ∃ q r : Int, (∀ w v A c, SpAt T w v l → Kd.C (Kd.int .i64) w A xs.length xs → xs.length ≤ c → Calls Try.prog 14 #[v, .slice A xs.length c] w fun e w' => e = .returned (.tuple #[.int .u64 q, .int .i64 r]) ∧ Below w.heap.size w w') ∧
    ∀ w v A c, RefS w v kd l → Kd.C (Kd.int .i64) w A xs.length xs → xs.length ≤ c → Calls Try.prog 15 #[v, .slice A xs.length c] w fun e w' => e = .returned (.tuple #[.int .u64 q, .int .i64 r]) ∧ Below w.heap.size w w'
/-- What the kinds differ in. -/
theorem twin_of {T : Nat} {kd : Int} {p : List Nat} {all : Nat} {ok : Bool} {IsL : List Nat → Prop} {num : List Nat → Nat} (S : Serves T (ints p) all ok IsL num) (F : FitL kd p) (hW : Big.wordR (cntV kd p 0) = (if ok = true then (all : Int) else 0, ok))
    (isb : List Int → Bool) (his : ∀ xs, isb xs = true ↔ ∃ x, xs = ints x ∧ IsL x)
    (aE : ∀ n : Nat, ok = false ∨ all ≤ n → ∀ w v, SpAt T w v (ints p) → Calls Try.prog 11 #[v, .int .u64 (n : Int)] w fun e w' => AtOk w w' e [] (if ok = true then 3 else 30))
    (rE : ok = false → ∀ (xs : List Int) w v A c, xs.length < 9223372036854775807 → SpAt T w v (ints p) → Kd.C (Kd.int .i64) w A xs.length xs → xs.length ≤ c → Calls Try.prog 14 #[v, .slice A xs.length c] w fun e w' => e = .returned (.tuple #[.int .u64 0, .int .i64 30]) ∧ Below w.heap.size w w')
    (ra : ok = true → ∀ x, IsL x → ∀ w v, RefS w v kd (ints p) → Calls Try.prog 12 #[v, .int .u64 ((num x : Nat) : Int)] w fun e W' => ∃ v1, e = .returned (.tuple #[v1, .int .i64 0]) ∧ Owned w [.row (Kd.int .i64) 3 v1 (ints x)] W')
    (ri : ∀ (xs : List Int) w v A c, xs.length < 9223372036854775807 → RefS w v kd (ints p) → Kd.C (Kd.int .i64) w A xs.length xs → Calls Try.prog 31 #[v, .slice A xs.length c] w fun e W' => e = .returned (.bool (isb xs)) ∧ Below w.heap.size w W')
    (rr : ok = true → ∀ x, IsL x → ∀ w v A c, RefS w v kd (ints p) → Kd.C (Kd.int .i64) w A (ints x).length (ints x) → (∀ W, Below w.heap.size w W → Calls Try.prog 31 #[v, .slice A (ints x).length c] W fun e W' => e = .returned (.bool true) ∧ Below W.heap.size W W') →
      Calls Try.prog 15 #[v, .slice A (ints x).length c] w fun e W' => e = .returned (.tuple #[.int .u64 ((num x : Nat) : Int), .int .i64 0]) ∧ Below w.heap.size w W') : Twin T kd (ints p) := by
  refine ⟨⟨if ok = true then all else 0, if ok = true then 0 else 30, ?_, fun w v hs => ?_, fun w v hs => ?_⟩, fun n => ?_, fun xs hx => ?_⟩
  · by_cases h : ok = true
    · rw [if_pos h]; exact S.big h
    · rw [if_neg h]; decide
  · refine (S.len w v hs).mono ?_
    rintro e w' ⟨rfl, hd⟩
    refine ⟨?_, hd⟩
    cases ok <;> rfl
  · refine (rlen_c hs F hW).mono ?_
    rintro e w' ⟨rfl, hd⟩
    refine ⟨?_, hd⟩
    cases ok <;> rfl
  · by_cases h : ok = true ∧ n < all
    · obtain ⟨ho, hn⟩ := h
      obtain ⟨x, hI, rfl, hc⟩ := S.at_ ho n hn
      refine ⟨ints x, 0, by rw [ints_length]; exact (S.small x hI).1, hc, fun w v hs => (ra ho x hI w v hs).mono ?_⟩
      rintro e w' ⟨v1, rfl, hO⟩
      exact ⟨v1, rfl, hO.get (j := 0) rfl, hO.below⟩
    · have h' : ok = false ∨ all ≤ n := by
        cases ok with
        | false => exact .inl rfl
        | true => exact .inr (Nat.le_of_not_lt fun hn => h ⟨rfl, hn⟩)
      refine ⟨[], if ok = true then 3 else 30, Nat.zero_le _, aE n h', fun w v hs => ?_⟩
      cases ok with
      | false =>
        refine (rat_no hs F hW).mono ?_
        rintro e w' ⟨rfl, hb⟩
        exact ⟨_, rfl, Kd.R_nil _ _ _ _ _, hb⟩
      | true =>
        refine (rat_far hs F hW (show (if true = true then (all : Int) else 0) ≤ (n : Int) by rw [if_pos rfl]; exact Int.ofNat_le.2 (h'.resolve_left (by simp)))).mono ?_
        rintro e w' ⟨rfl, hb⟩
        exact ⟨_, rfl, Kd.R_nil _ _ _ _ _, hb⟩
  · cases ok with
    | false =>
      exact ⟨0, 30, fun w v A c hs hC hc => rE rfl xs w v A c hx hs hC hc, fun w v A c hs hC hc => rrank_no hs F hW⟩
    | true =>
      obtain ⟨q, r, hqr, hc⟩ := S.rank rfl xs hx
      refine ⟨q, r, hc, fun w v A c hs hC hcc => ?_⟩
      rcases hqr with ⟨x, rfl, hI, rfl, rfl⟩ | ⟨hno, rfl, rfl⟩
      · refine rr rfl x hI w v A c hs hC (fun W hB => ?_)
        have h := ri (ints x) W v A c hx (hs.below hB) (Kd.C_below hC hB)
        rw [(his _).2 ⟨x, rfl, hI⟩] at h
        exact h
      · refine rrank_bad hs F hW (fun W hB => ?_)
        have h := ri xs W v A c hx (hs.below hB) (Kd.C_below hC hB)
        have hf : isb xs = false := Bool.eq_false_iff.2 (fun e => by obtain ⟨x, e1, e2⟩ := (his _).1 e; exact hno x e1 e2)
        rw [hf] at h
        exact h
theorem twin_product (p : List Nat) (hp : ∀ a ∈ p, a < 9223372036854775808) (hl : p.length ≤ 64) : Twin 80 1 (ints p) := by
  have F : FitL 1 p := ⟨fun _ => hp, fun h => absurd rfl h, hl⟩
  have hcount := prod_is p (fun a ha => Nat.lt_trans (hp a ha) (by decide)) (by omega)
  obtain ⟨kc, hkc⟩ := hcount.rounds
  have hkc' : odo_product_count.f kc (ints p) = some ((prodRes p).1, (prodRes p).2) := hkc
  have hcv : cntV 1 p 0 = prod p := by unfold cntV; rw [if_pos rfl, List.drop_zero]
  have hok : (prodRes p).2 = true → prod p < 18446744073709551616 := fun h => by
    unfold prodRes at h
    split at h
    · assumption
    · cases h
  have hr1 : (prodRes p).1 = if (prodRes p).2 = true then ((prod p : Nat) : Int) else 0 := by
    unfold prodRes
    split <;> rfl
  refine twin_of (serves_product p hp hl) F ?_ (fun xs => decide (xs.length = p.length) && isPb p xs) (fun xs => ?_) (fun n h w v hs => ?_) (fun ho xs w v A c hx hs hC hc => ?_) (fun ho x hI w v hs => ?_) (fun xs w v A c hx hs hC => risp_c hs F hC hx rfl) (fun ho x hI w v A c hs hC h => rrankp_c hs F (hok ho) hI hC h)
  · rw [hcv, ← hr1]; rfl
  · by_cases e : xs.length = p.length
    · rw [decide_eq_true e, Bool.true_and]; exact isPb_iff e
    · rw [decide_eq_false e, Bool.false_and]
      exact ⟨fun h => Bool.noConfusion h, fun ⟨x, e1, e2⟩ => absurd (by rw [e1, ints_length, isP_length e2]) e⟩
  · have hv : (prodRes p).2 = true → (n : Int) < (prodRes p).1 → odo_product_at.f kc (ints p) n = some [] := fun ho hn => by
      rw [hr1, if_pos ho] at hn
      rcases h with h | h
      · rw [h] at ho; cases ho
      · omega
    refine (odo_At_product.calls kc (ints p) _ _ n [] v w hs hkc' hv).mono ?_
    rintro e w' ⟨v1, rfl, hR, hB⟩
    have hr : atRes (prodRes p).1 (prodRes p).2 n [] = ([], if (prodRes p).2 = true then 3 else 30) := by
      unfold atRes
      by_cases ho : (prodRes p).2 = true
      · have : prod p ≤ n := h.resolve_left (by rw [ho]; simp)
        rw [if_pos ho, if_pos ho, hr1, if_pos ho, if_pos (by omega)]
      · rw [if_neg ho, if_neg ho]
    rw [hr] at hR ⊢
    exact ⟨v1, rfl, hR, hB⟩
  · refine (odo_Rank_product.calls kc (ints p) _ _ A c xs 0 false v w hs hkc' hC hc (fun h => by rw [ho] at h; cases h)).mono ?_
    rintro e w' ⟨rfl, hB⟩
    rw [ho]
    exact ⟨rfl, hB⟩
  · have h := ratp_c hs F (hok ho) (rankP_lt hI)
    rw [atP_rankP hI] at h
    exact h
theorem twin_weaves {kd : Int} (hk : kd ≠ 1) (p : List Nat) (hsum : p.sum ≤ 64) (hl : p.length ≤ 64) : Twin 82 kd (ints p) := by
  have F : FitL kd p := ⟨fun h => absurd h hk, fun _ => hsum, hl⟩
  have hcount := count_is p hsum (by omega)
  obtain ⟨kc, hkc⟩ := hcount.rounds
  have hkc' : odo_weaves_count.f kc (ints p) = some ((countRes p).1, (countRes p).2) := hkc
  have hcv : cntV kd p 0 = mc p := by unfold cntV; rw [if_neg hk]
  have hok : (countRes p).2 = true → mc p < 18446744073709551616 := fun h => by
    unfold countRes at h
    split at h
    · assumption
    · cases h
  have hr1 : (countRes p).1 = if (countRes p).2 = true then ((mc p : Nat) : Int) else 0 := by
    unfold countRes
    split <;> rfl
  refine twin_of (serves_weaves p hsum hl) F ?_ (fun xs => decide (xs.length = p.sum) && isWb p xs) (fun xs => ?_) (fun n h w v hs => ?_) (fun ho xs w v A c hx hs hC hc => ?_) (fun ho x hI w v hs => ratw_c hs hk F (hok ho) hI rfl) (fun xs w v A c hx hs hC => risw_c hs hk F hC hx rfl) (fun ho x hI w v A c hs hC h => rrankw_c hs hk F (hok ho) hI hC h)
  · rw [hcv, ← hr1]; rfl
  · by_cases e : xs.length = p.sum
    · rw [decide_eq_true e, Bool.true_and]; exact isWb_iff e
    · rw [decide_eq_false e, Bool.false_and]
      exact ⟨fun h => Bool.noConfusion h, fun ⟨x, e1, e2⟩ => absurd (by rw [e1, ints_length, is_length e2]) e⟩
  · have hv : (countRes p).2 = true → (n : Int) < (countRes p).1 → mc p < 18446744073709551616 ∧ Is p [] ∧ (n : Int) = ((rank p [] : Nat) : Int) := fun ho hn => by
      rw [hr1, if_pos ho] at hn
      rcases h with h | h
      · rw [h] at ho; cases ho
      · omega
    refine (odo_At_weaves.calls kc p [] hsum hl _ _ n v w hs hkc' hv).mono ?_
    rintro e w' ⟨v1, rfl, hR, hB⟩
    have hr : atRes (countRes p).1 (countRes p).2 n (ints []) = ([], if (countRes p).2 = true then 3 else 30) := by
      unfold atRes
      by_cases ho : (countRes p).2 = true
      · have : mc p ≤ n := h.resolve_left (by rw [ho]; simp)
        rw [if_pos ho, if_pos ho, hr1, if_pos ho, if_pos (by omega)]
      · rw [if_neg ho, if_neg ho]
    rw [hr] at hR ⊢
    exact ⟨v1, rfl, hR, hB⟩
  · refine (odo_Rank_weaves.calls kc p hsum hl _ _ A c xs hx 0 false v w hs hkc' hC hc (fun h => by rw [ho] at h; cases h)).mono ?_
    rintro e w' ⟨rfl, hB⟩
    rw [ho]
    exact ⟨rfl, hB⟩
theorem nat_list : ∀ {l : List Int}, anyNeg l = false → ∃ p, l = ints p
  | [], _ => ⟨[], rfl⟩
  | x :: l, h => by
    have h' : (decide (x < 0) || anyNeg l) = false := by simpa [anyNeg] using h
    obtain ⟨h1, h2⟩ := Bool.or_eq_false_iff.1 h'
    obtain ⟨p, rfl⟩ := nat_list h2
    obtain ⟨a, rfl⟩ : ∃ a : Nat, x = a := ⟨x.toNat, by have := of_decide_eq_false h1; omega⟩
    exact ⟨a :: p, rfl⟩
theorem ints_sum (p : List Nat) : (ints p).sum = ((p.sum : Nat) : Int) := by
  induction p with
  | nil => rfl
  | cons a p ih =>
    show (a : Int) + (ints p).sum = (((a + p.sum : Nat)) : Int)
    rw [ih]; omega
theorem sum_ones (n : Nat) : (List.replicate n 1).sum = n := by
  induction n with
  | zero => rfl
  | succ n ih => rw [List.replicate_succ, List.sum_cons, ih, Nat.add_comm]
theorem ints_rep (n : Nat) : List.replicate n (1 : Int) = ints (List.replicate n 1) := by unfold ints; rw [List.map_replicate]; rfl
/-- Whatever the maker made: both answer the same. -/
theorem twin_kind {T : Nat} {kd : Int} {l : List Int} {N : Int} {X : Option (List Int) × Int} (h : KindOf T kd l N X) (hl : ∀ x ∈ l, x < 9223372036854775808) {l' : List Int} (hX : X.1 = some l') : Twin T kd l' := by
  rcases h with ⟨rfl, rfl, rfl⟩ | ⟨rfl, rfl, rfl⟩ | ⟨rfl, rfl, rfl⟩
  · unfold odo_Product.f at hX
    split at hX
    · cases hX
    · split at hX
      · cases hX
      · rename_i h1 h2
        cases hX
        obtain ⟨p, rfl⟩ := nat_list (Bool.eq_false_iff.2 h2)
        rw [ints_length] at h1
        exact twin_product p (fun a ha => by have := hl (a : Int) (List.mem_map_of_mem ha); omega) (by omega)
  · unfold odo_Orders.f at hX
    split at hX
    · rename_i h1
      cases hX
      rw [ints_rep]
      exact twin_weaves (by decide) _ (by rw [sum_ones]; omega) (by rw [List.length_replicate]; omega)
    · cases hX
  · unfold odo_Weaves.f at hX
    split at hX
    · cases hX
    · split at hX
      · cases hX
      · split at hX
        · cases hX
        · rename_i h1 h2 h3
          cases hX
          obtain ⟨p, rfl⟩ := nat_list (Bool.eq_false_iff.2 h2)
          rw [ints_length] at h1
          rw [ints_sum] at h3
          exact twin_weaves (by decide) p (by omega) (by omega)
end Go.Proofs.Ytohpboblmmbjnaa.P
/- OdoSpaces: the law's own walk. -/
namespace Go.Proofs.Ytohpboblmmbjnaa.P
open Go Go.RowKit Go.Proofs.YtohpboblmmbjnaaW.PrintWords Go.Proofs.YtohpboblmmbjnaaW.PrintLast Go.Proofs.YtohpboblmmbjnaaW.PrintMore Go.Proofs.Odo
theorem BothR.below {w W : World} {vs vr : Value} {T : Nat} {kd : Int} {X : Option (List Int)} (h : BothR w W vs vr T kd X) : Below w.heap.size w W := by
  cases X with
  | none => exact h.2.2
  | some l => exact h.2.2
theorem AtOk.own {w w' : World} {e : Ending} {xs : List Int} {cd : Int} (h : AtOk w w' e xs cd) : ∃ v1, e = .returned (.tuple #[v1, .int .i64 cd]) ∧ Owned w [.row (Kd.int .i64) 3 v1 xs] w' := by
  obtain ⟨v1, rfl, hR, hB⟩ := h
  refine ⟨v1, rfl, fun _ => 0, hB, fun i p hi => ?_⟩
  match i, hi with
  | 0, hi =>
    cases hi
    exact Kd.R_mono hR (fun _ _ => rfl)
  | i + 1, hi => cases hi
theorem below_of {w W W' : World} (h : Below w.heap.size w W) (h' : Below W.heap.size W W') : Below w.heap.size w W' := below_then h h.size h'
theorem pre_y {w W : World} {ps : List Part} {j n cy : Nat} {Y : Option Addr} {l X7 : List Int} {y : Int} (h : Owned w ps W) (hj : ps[j]? = some (.row (Kd.int .i64) 3 (.slice Y n cy) X7)) (e : l ++ [y] = X7) : Kd.C (Kd.int .i64) W Y l.length l ∧ l.length ≤ cy := by
  obtain ⟨A', c', e', h1, h2⟩ := Kd.R_reads (show (Kd.int .i64).R 3 W w.heap.size (fun _ => True) (.slice Y n cy) X7 from h.get hj)
  injection e' with e1 e2 e3
  subst e1 e3
  subst e
  have h3 := Kd.C_take h2 (m := l.length) (by simp)
  rw [List.take_left] at h3
  rw [List.length_append] at h1
  exact ⟨h3, by omega⟩
set_option maxHeartbeats 8000000 in
set_option maxRecDepth 100000 in
theorem odoSpaces_walk {w : World} {K N : Int} {l0 l : List Int} {n : Nat} {A B : Option Addr} {c0 c : Nat} (hl0 : Kd.C (Kd.int .i64) w A l0.length l0) (hc0 : l0.length ≤ c0) (h0 : (l0.length + 1) * 8 ≤ 140737488355328) (hs0 : ∀ x ∈ l0, x < 9223372036854775808)
    (hl : Kd.C (Kd.int .i64) w B l.length l) (hc : l.length ≤ c) (h8 : (l.length + 1) * 8 ≤ 140737488355328) (hn : n < 18446744073709551616) :
    Calls Try.prog 3 #[.agg #[.int .i64 K, .slice A l0.length c0, .int .i64 N], .int .u64 (n : Int), .slice B l.length c] w fun e W' => e = .returned (.bool true) ∧ Below w.heap.size w W' := by
  have HA0 := Aside0.mk hl0
  have HC0 := Aside0.mk hc0
  have HZ0 := Aside0.mk h0
  have HS0 := Aside0.mk hs0
  have HA := Aside0.mk hl
  have HC := Aside0.mk hc
  have H8 := Aside0.mk h8
  have HN := Aside0.mk hn
  clear hl0 hc0 h0 hs0 hl hc h8 hn
  go_enter Try.func3, Try.ntmps3
  go_upto_region 2 with (go_at_call 8; (with_reducible refine (both_c (Kd.C_alloc HA0.out _) HC0.out HZ0.out).mono ?_); rintro e w2 ⟨vs, vr, T, kd, X, rfl, hK, hB⟩; have HKD := Aside0.mk hK; have HBB := Aside0.mk hB; have HL2 := Aside0.mk (Kd.C_below (Kd.C_alloc HA.out _) hB.below); have HW2 := Aside0.mk (show Below w.heap.size w w2 from below_of (below_alloc (Below.refl _ _) _) hB.below); clear hK hB)
  obtain ⟨X1, hX1⟩ : ∃ x, X.1 = x := ⟨_, rfl⟩
  rw [hX1] at HBB
  cases X1 with
  | none =>
    obtain ⟨s1, s2, s3⟩ := ptr26
    obtain ⟨rfl, rfl, -⟩ := HBB.out
    go_wp2_with fail
    go_ret
    exact ⟨rfl, HW2.out⟩
  | some l' =>
    have HT := Aside0.mk (twin_kind HKD.out HS0.out hX1)
    obtain ⟨hsp, hrf, -⟩ := HBB.out
    have HSP := Aside0.mk hsp
    have HRF := Aside0.mk hrf
    clear HKD HBB hX1
    obtain ⟨gs, _, _, rfl, -⟩ := hsp
    obtain ⟨gr, _, _, rfl, -⟩ := hrf
    obtain ⟨all, cd, hall, hlen, hrlen⟩ := HT.out.len
    have HALL := Aside0.mk hall
    have HLEN := Aside0.mk hlen
    have HRLEN := Aside0.mk hrlen
    clear hall hlen hrlen
    obtain ⟨s1, s2, s3⟩ := ptr26
    go_upto_region 6 with (first
      | (go_at_call 9; (with_reducible refine (HLEN.out _ _ HSP.out).mono ?_); rintro e w3 ⟨rfl, hd⟩; have HB3 := Aside0.mk (drawn_below hd); clear hd)
      | (go_at_call 10; (with_reducible refine (HRLEN.out _ _ (HRF.out.below HB3.out)).mono ?_); rintro e w4 ⟨rfl, hb⟩; have HB4 := Aside0.mk (below_then HB3.out HB3.out.size hb); clear hb))
    clear HLEN HRLEN s1 s2 s3
    go_upto_region 9 with fail
    by_cases hp : 0 < all
    case' pos =>
      have hp1 : decide (0 < all) = true := decide_eq_true hp
      have hp2 : decide ((0 : Int) < (all : Int)) = true := decide_eq_true (by omega)
      have hp3 : ((all : Int) == 0) = false := beq_eq_false_iff_ne.2 (by omega)
      have hp4 : (all == 0) = false := beq_eq_false_iff_ne.2 (by omega)
      have hp5 : ¬ all = 0 := by omega
      have hp6 : ¬ (all : Int) = 0 := by omega
      clear hp
      go_upto_region 11 with fail
      obtain ⟨m, hm⟩ : ∃ m : Nat, (n : Int) % (all : Int) = (m : Int) := ⟨n % all, rfl⟩
      rw [hm]
      have HAM := Aside0.mk (HT.out.at_ m)
      clear hp1 hp2 hp3 hp4 hp5 hp6 hm
    case' neg =>
      have hp1 : decide (0 < all) = false := decide_eq_false hp
      have hp2 : decide ((0 : Int) < (all : Int)) = false := decide_eq_false (by omega)
      clear hp
      go_upto_region 11 with fail
      have HAM := Aside0.mk (HT.out.at_ n)
      clear hp1 hp2
    all_goals
      go_wp2_with fail
      go_loopw [1, 15] (fun vn vt W => ∃ (a t : Nat), vn = .int .u64 (a : Int) ∧ vt = .int .i64 (t : Int) ∧ t ≤ 2 ∧ Aside0 (Below w2.heap.size w2 W)) (fun _ vt _ => 2 - (intOf vt).toNat)
      case atStart => exact ⟨_, 0, rfl, rfl, by decide, HB4⟩
      case round =>
        obtain ⟨a, t, rfl, rfl, ht, HB⟩ := hrel
        by_cases hlt : t < 2
        · obtain ⟨xs, ca, hxl, hat, hrat⟩ := HT.out.at_ a
          have HAT := Aside0.mk hat
          have HRAT := Aside0.mk hrat
          have HXL := Aside0.mk hxl
          have HSM := Aside0.mk (same_self xs (by omega))
          have HLT := Aside0.mk hlt
          have hwk := Aside0.mk (next_of hlt (by decide))
          clear hat hrat hxl
          go_upto_region 16 with (first
            | (go_at_call 11; (with_reducible refine (HAT.out _ _ (HSP.out.below HB.out)).mono ?_); intro e w5 h; obtain ⟨v1, rfl, hO⟩ := h.own; have HO5 := Aside0.mk hO; have HB5 := Aside0.mk (below_then HB.out HB.out.size hO.below); clear h hO)
            | (go_at_call 12; (with_reducible refine (HRAT.out _ _ (HRF.out.below HB5.out)).mono ?_); intro e w6 h; obtain ⟨v2, rfl, hR, hb⟩ := h; have HO6 := Aside0.mk (HO5.out.later hb); have HB6 := Aside0.mk (below_then HB5.out HB5.out.size hb); have HR2 := Aside0.mk hR; clear hR hb))
          clear HAT HRAT
          obtain ⟨Y2, y2c, e2, hc2, hC2⟩ := Kd.R_reads HR2.out
          subst e2
          obtain ⟨Y1, y1c, e1, hc1, hC1⟩ := Kd.R_reads (show (Kd.int .i64).R 3 w6 wr.heap.size (fun _ => True) v1 xs from HO6.out.get (j := 0) rfl)
          subst e1
          have H1 := Aside0.mk hC1
          have H2 := Aside0.mk hC2
          have K1 := Aside0.mk hc1
          have K2 := Aside0.mk hc2
          clear hC1 hC2 hc1 hc2
          go_upto_region 18 with (go_at_call 13; (with_reducible refine (weirlaw01_SameInts.calls _ _ _ xs _ _ xs true _ H1.out K1.out H2.out K2.out HSM.out).mono ?_); rintro e w7 ⟨rfl, hd⟩; have HO7 := Aside0.mk (HO6.out.later (drawn_below hd)); clear hd)
          clear H1 H2 K1 K2 HR2 HO6 HO5 HB5 HB6 HSM
          obtain ⟨ln, hln⟩ : ∃ x, xs.length = x := ⟨_, rfl⟩
          rw [hln] at HO7 HXL ⊢
          have hl8 := Aside0.mk hln
          clear hln hlt
          go_wp2_with fail
          go_loopw [20] (fun vi W => ∃ k : Nat, vi = .int .i64 (k : Int) ∧ k ≤ ln ∧ Aside0 (∃ X' : List Int, X'.length = ln ∧ Owned wr [.row (Kd.int .i64) 3 (.slice Y1 ln y1c) X'] W)) (fun vi _ => ln - (intOf vi).toNat)
          case atStart => exact ⟨0, rfl, Nat.zero_le _, ⟨_, hl8.out, HO7.out⟩⟩
          case round =>
            obtain ⟨k, rfl, hk, ho⟩ := hrel
            obtain ⟨X', hX', hO⟩ := ho.out
            clear ho
            by_cases hlk : k < ln
            · obtain ⟨gl', e, hck, hfk⟩ := row_at hO (j := 0) rfl hlk
              subst e
              have HO9 := Aside0.mk hO
              have HX := Aside0.mk hX'
              clear hO hX'
              have hwk2 := Aside0.mk (next_of hlk (Nat.le_trans HXL.out (by decide)))
              have HLK := Aside0.mk hlk
              go_wp2_with fail
              go_roundw
              case rel => exact ⟨k + 1, by rw [hwk2.out], HLK.out, ⟨X'.set k (-1), by rw [List.length_set]; exact HX.out, HO9.out.num (j := 0) rfl k (-1)⟩⟩
              case measure => rw [hwk2.out]; exact nat_dec HLK.out
            · have HB9 := Aside0.mk (below_then HB.out HB.out.size hO.below)
              clear hO hX'
              go_wp2_with fail
              go_roundw
              case rel => exact ⟨_, t + 1, rfl, rfl, HLT.out, HB9⟩
              case measure => exact nat_dec HLT.out
        · have HL9 := Aside0.mk (Kd.C_below HL2.out HB.out)
          have H8' := Aside0.mk (show l.length * 8 ≤ 140737488355328 by have := H8.out; omega)
          go_upto_region 24 with (first
            | ((with_reducible refine gate_builtin (b := .append) (xs := #[.tmp 98, .tmp 99]) rfl ?_); at_builtin; refine Owned.clone (Kd.int .i64) (Owned.nil wr) (.tmp 98) (.tmp 99) 22 3 (.int .i64 0) 8 Try.underlying22 info3 rfl (by decide) (by decide) H8'.out (fun _ _ h => h) (Kd.C_alloc HL9.out _) ?_ rfl rfl rfl rfl; intro v2 w3 h2; have HO2 := Aside0.mk h2; clear h2)
            | ((with_reducible refine gate_builtin (b := .append) (xs := #[.tmp 100, .tmp 101]) rfl ?_); at_builtin; refine Owned.app (Kd.int .i64) HO2.out (j := 0) rfl 55 [.int .i64 55] (fun _ => rfl) (.tmp 100) (.tmp 101) 22 (.int .i64 0) 8 Try.underlying22 info3 rfl (by decide) (by decide) H8.out ?_ rfl rfl rfl rfl; intro v4 w5 h5; have HO5 := Aside0.mk h5; clear h5))
          clear hlt ht HO2 HA HA0 HL2
          obtain ⟨X7, hX7⟩ : ∃ X, l ++ [55] = X := ⟨_, rfl⟩
          have EX := Aside0.mk hX7
          have LX := Aside0.mk (show X7.length = l.length + 1 by rw [← hX7]; simp)
          rw [hX7] at HO5
          clear hX7
          obtain ⟨Y, cy, e4⟩ := row_slice (HO5.out.get (j := 0) rfl)
          subst e4
          have HP := Aside0.mk (pre_y HO5.out (j := 0) rfl EX.out)
          have hpc := HP.out.2
          have hlx : l.length ≤ X7.length := by rw [LX.out]; exact Nat.le_succ _
          have HB5 := Aside0.mk (below_then HB.out HB.out.size HO5.out.below)
          have HL5 := Aside0.mk (Kd.C_below HL9.out HO5.out.below)
          obtain ⟨q, r, hq, hrq⟩ := HT.out.rank l (by have := H8.out; omega)
          have HQ := Aside0.mk hq
          have HRQ := Aside0.mk hrq
          clear hq hrq
          go_upto_region 26 with (first
            | (go_at_call 14; (with_reducible refine (HQ.out _ _ _ _ (HSP.out.below HB5.out) HP.out.1 HP.out.2).mono ?_); rintro e w6 ⟨rfl, hb⟩; have HB6 := Aside0.mk (below_then HB5.out HB5.out.size hb); have HO6 := Aside0.mk (HO5.out.later hb); have HL6 := Aside0.mk (Kd.C_below HL5.out hb); clear hb)
            | (go_at_call 15; (with_reducible refine (HRQ.out _ _ _ _ (HRF.out.below HB6.out) HL6.out HC.out).mono ?_); rintro e w7 ⟨rfl, hb⟩; have HB7 := Aside0.mk (below_then HB6.out HB6.out.size hb); have HO7 := Aside0.mk (HO6.out.later hb); have HL7 := Aside0.mk (Kd.C_below HL6.out hb); clear hb))
          have hrd : rd X7 (l.length : Int) = 55 := by
            rw [← EX.out]
            unfold rd
            rw [Int.toNat_natCast, List.getD_eq_getElem?_getD, List.getElem?_append_right (Nat.le_refl _), Nat.sub_self]
            rfl
          have hlx7 : l.length < X7.length := by rw [LX.out]; exact Nat.lt_succ_self _
          have HP7 := Aside0.mk (pre_y HO7.out (j := 0) rfl EX.out)
          obtain ⟨gl, rfl, hc55, hf55⟩ := row_at HO7.out (j := 0) rfl hlx7
          rw [hrd] at hc55
          have HSL := Aside0.mk (same_self l (by have := H8.out; omega))
          clear hrd HQ HRQ HO6 HO5 HB5 HL5 HL6
          go_upto_region 28 with (go_at_call 13; (with_reducible refine (weirlaw01_SameInts.calls _ _ _ l _ _ l true _ HP7.out.1 HP7.out.2 HL7.out HC.out HSL.out).mono ?_); rintro e w8 ⟨rfl, hd⟩; have HB8 := Aside0.mk (below_then HB7.out HB7.out.size (drawn_below hd)); have hc8 := pw_cell_below (drawn_below hd) hc55; clear hd)
          obtain ⟨xs, ca, hxl, -, hrat⟩ := HAM.out
          obtain ⟨q, r, hq, hrq⟩ := HT.out.rank xs (by omega)
          have HRAT := Aside0.mk hrat
          have HQ := Aside0.mk hq
          have HRQ := Aside0.mk hrq
          clear hrat hq hrq hxl
          go_upto_region 29 with (go_at_call 12; (with_reducible refine (HRAT.out _ _ (HRF.out.below HB8.out)).mono ?_); intro e w9 h; obtain ⟨v9, rfl, hR, hb⟩ := h; have HB9 := Aside0.mk (below_then HB8.out HB8.out.size hb); have HR9 := Aside0.mk hR; clear hR hb)
          obtain ⟨Y9, c9, e9, hc9, hC9⟩ := Kd.R_reads HR9.out
          subst e9
          have H9 := Aside0.mk hC9
          have K9 := Aside0.mk hc9
          clear hC9 hc9
          go_wp2_with (first
            | (go_at_call 14; (with_reducible refine (HQ.out _ _ _ _ (HSP.out.below HB9.out) H9.out K9.out).mono ?_); rintro e w10 ⟨rfl, hb⟩; have HB10 := Aside0.mk (below_then HB9.out HB9.out.size hb); have H10 := Aside0.mk (Kd.C_below H9.out hb); clear hb)
            | (go_at_call 15; (with_reducible refine (HRQ.out _ _ _ _ (HRF.out.below HB10.out) H10.out K9.out).mono ?_); rintro e w11 ⟨rfl, hb⟩; have HB11 := Aside0.mk (below_then HB10.out HB10.out.size hb); clear hb))
          go_ret
          exact ⟨rfl, below_of HW2.out HB11.out⟩
end Go.Proofs.Ytohpboblmmbjnaa.P
