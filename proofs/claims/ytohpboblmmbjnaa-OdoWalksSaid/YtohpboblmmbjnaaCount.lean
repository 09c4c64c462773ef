/- The contracts of odo's makers of spaces, and of Len: what a space's pointer leads to. -/
import Derived.Test.YtohpboblmmbjnaaP6
import Derived.Test.YtohpboblmmbjnaaP7
import Derived.RangeFuncNested
import Derived.RangeFuncBound
import Derived.RangeFuncCalls
import Derived.RangeFuncLeaves
import Derived.Deep.Draws
import Derived.Shelf.Bits.Mul64
import Derived.Test.YtohpboblmmbjnaaP0
namespace Go.Proofs.Ytohpboblmmbjnaa.P
open Go.RowKit Go.Proofs.YtohpboblmmbjnaaW.PrintWords Go.Proofs.YtohpboblmmbjnaaW.PrintLast Go.Proofs.YtohpboblmmbjnaaW.PrintMore

/-- A pointer to a space of a kind (its type's number) with some sizes or lengths. -/
def SpAt (T : Nat) (w : World) (v : Value) (l : List Int) : Prop :=
  ∃ (g : Nat) (A : Option Addr) (c : Nat), v = .pointer (some ⟨g, 0, none⟩) ∧ w.cell? ⟨g, 0, none⟩ = some (.iface T (.slice A l.length c)) ∧ l.length ≤ c ∧ Kd.C (Kd.int .i64) w A l.length l
theorem SpAt.below {T : Nat} {w w1 : World} {v : Value} {l : List Int} (h : SpAt T w v l) (hb : Below w.heap.size w w1) : SpAt T w1 v l := by
  obtain ⟨g, A, c, h1, h2, h3, h4⟩ := h
  exact ⟨g, A, c, h1, pw_cell_below hb h2, h3, Kd.C_below h4 hb⟩
theorem SpAt.made {T c : Nat} {w : World} {A : Option Addr} {l : List Int} (hc : l.length ≤ c) (h : Kd.C (Kd.int .i64) w A l.length l) :
    SpAt T (w.alloc (.cells #[.iface T (.slice A l.length c)] 67)) (.pointer (some ⟨w.heap.size, 0, none⟩)) l :=
  ⟨w.heap.size, A, c, rfl, by rw [World.cell?_alloc_new]; rfl, hc, Kd.C_below h (below_alloc (Below.refl _ _) _)⟩
/-- The same, or nil. -/
def SpO (T : Nat) (w : World) (v : Value) : Option (List Int) → Prop
  | none => v = .pointer none
  | some l => SpAt T w v l
theorem SpO.below {T : Nat} {w w1 : World} {v : Value} {o : Option (List Int)} (h : SpO T w v o) (hb : Below w.heap.size w w1) : SpO T w1 v o := by
  cases o with
  | none => exact h
  | some l => exact SpAt.below h hb

/-- Is a number negative? -/
def anyNeg (l : List Int) : Bool := l.any fun x => decide (x < 0)
theorem anyNeg_take {l : List Int} {k : Nat} (hk : k < l.length) : anyNeg (l.take (k + 1)) = (anyNeg (l.take k) || decide (rd l k < 0)) := by
  unfold anyNeg
  rw [List.take_succ_eq_append_getElem hk, List.any_append]
  simp [rd, List.getD_eq_getElem?_getD, List.getElem?_eq_getElem hk]
theorem anyNeg_more {l : List Int} {k : Nat} (h : anyNeg (l.take k) = true) : anyNeg l = true := by
  obtain ⟨x, hx, hq⟩ := List.any_eq_true.1 h
  exact List.any_eq_true.2 ⟨x, List.mem_of_mem_take hx, hq⟩

def odo_Product.f (l : List Int) : Option (List Int) × Int := if 64 < l.length then (none, 1) else if anyNeg l = true then (none, 4) else (some l, 0)

set_option maxHeartbeats 2000000 in
set_option maxRecDepth 100000 in
theorem odo_Product.calls (A0 : Option Addr) (c0 : Nat) (l0 : List Int) (w : World) (hr0 : Kd.C (Kd.int .i64) w A0 l0.length l0) (hc0 : l0.length ≤ c0) :
    Calls Try.prog 18 #[.slice A0 l0.length c0] w fun e w' => ∃ v, e = .returned (.tuple #[v, .int .i64 (odo_Product.f l0).2]) ∧ SpO 80 w' v (odo_Product.f l0).1 ∧ Below w.heap.size w w' := by
  have HR0 := Aside0.mk hr0
  have HC0 := Aside0.mk hc0
  clear hr0 hc0
  by_cases h64 : 64 < l0.length
  · have hf : odo_Product.f l0 = (none, 1) := by unfold odo_Product.f; rw [if_pos h64]
    rw [hf]
    clear hf
    have c3b0 : decide (64 < (l0.length : Int)) = true := decide_eq_true (by omega)
    go_enter Try.func18, Try.ntmps18
    go_wp2
    go_ret2
    exact ⟨_, rfl, rfl, Below.refl _ _⟩
  · have c3b0 : decide (64 < (l0.length : Int)) = false := decide_eq_false (by omega)
    have hlen : l0.length ≤ 64 := by omega
    have h64' := Aside0.mk h64
    clear h64
    go_enter Try.func18, Try.ntmps18
    go_wp2
    go_loop [11] (fun i => ∃ k : Nat, k ≤ l0.length ∧ i = .int .i64 k ∧ Aside0 (anyNeg (l0.take k) = false)) (fun i => l0.length - (intOf i).toNat)
    case atStart => exact ⟨0, by omega, rfl, ⟨by simp [anyNeg]⟩⟩
    case round =>
      obtain ⟨k, hk, rfl, ha⟩ := hrel
      by_cases hlt : k < l0.length
      · obtain ⟨ad256, e256, hx256_0⟩ := Kd.at_int HR0.out k (by omega) (by omega)
        cases e256
        rw [Int.toNat_natCast] at hx256_0
        have hs := anyNeg_take hlt
        rw [ha.out, Bool.false_or] at hs
        by_cases hn : rd l0 k < 0
        · have hfin : Aside0 (odo_Product.f l0 = (none, 4)) := ⟨by
            unfold odo_Product.f
            rw [if_neg h64'.out, if_pos (anyNeg_more (k := k + 1) (by rw [hs]; exact decide_eq_true hn))]⟩
          clear hs
          have hnb : decide (rd l0 k < 0) = true := decide_eq_true hn
          clear hn
          go_wp2
          go_ret2
          rw [hfin.out]
          exact ⟨_, rfl, rfl, Below.refl _ _⟩
        · have hs' : Aside0 (anyNeg (l0.take (k + 1)) = false) := ⟨by rw [hs]; exact decide_eq_false hn⟩
          clear hs
          have hnb : decide (rd l0 k < 0) = false := decide_eq_false hn
          clear hn
          go_wp2
          go_round
          case rel => exact ⟨k + 1, by omega, by go_num, hs'⟩
          case measure => simp [intOf]; omega
      · have hge : l0.length ≤ k := by omega
        have hfin : Aside0 (odo_Product.f l0 = (some l0, 0)) := ⟨by
          unfold odo_Product.f
          have := ha.out
          rw [List.take_of_length_le hge] at this
          rw [if_neg h64'.out, if_neg (by rw [this]; decide)]⟩
        clear ha hlt h64'
        have hcl : Aside0 (slices_Clone_int_int.f l0 = some l0) := ⟨by
          unfold slices_Clone_int_int.f
          simp only [Option.bind_some, List.length_nil, List.nil_append]
          rw [if_pos (by omega)]⟩
        go_wp2_with (go_at_call 32; refine (slices_Clone_int_int.calls A0 c0 l0 l0 _ HR0.out HC0.out hcl.out).mono ?_; rintro e w1 ⟨v1, rfl, hR1, hB1⟩)
        have hz := hB1.size
        obtain ⟨A1, c1, rfl, hc1, hC1⟩ := Kd.R_reads hR1
        have HC1 := Aside0.mk hC1
        have HL1 := Aside0.mk hc1
        have HB1 := Aside0.mk hB1
        clear hC1 hc1 hB1 hR1
        go_wp2
        go_ret2
        rw [hfin.out]
        exact ⟨_, rfl, SpAt.made HL1.out HC1.out, HB1.out.alloc hz _⟩
theorem sum_take {l : List Int} {k : Nat} (hk : k < l.length) : (l.take (k + 1)).sum = (l.take k).sum + rd l k := by
  rw [List.take_succ_eq_append_getElem hk, List.sum_append]
  simp [rd, List.getD_eq_getElem?_getD, List.getElem?_eq_getElem hk]
theorem sum_nonneg {l : List Int} (h : anyNeg l = false) : 0 ≤ l.sum := by
  induction l with
  | nil => simp
  | cons x l ih =>
    unfold anyNeg at h ih
    rw [List.any_cons, Bool.or_eq_false_iff] at h
    have h1 := of_decide_eq_false h.1
    have h2 := ih h.2
    rw [List.sum_cons]
    omega
theorem anyNeg_split {l : List Int} (h : anyNeg l = false) (k : Nat) : anyNeg (l.take k) = false ∧ anyNeg (l.drop k) = false := by
  unfold anyNeg at *
  rw [← List.take_append_drop k l, List.any_append, Bool.or_eq_false_iff] at h
  exact h
theorem sum_le {l : List Int} (h : anyNeg l = false) (k : Nat) : 0 ≤ (l.take k).sum ∧ (l.take k).sum ≤ l.sum := by
  have h1 := sum_nonneg (anyNeg_split h k).1
  have h2 := sum_nonneg (anyNeg_split h k).2
  have h3 : (l.take k ++ l.drop k).sum = l.sum := by rw [List.take_append_drop]
  rw [List.sum_append] at h3
  omega
def odo_Weaves.f (l : List Int) : Option (List Int) × Int := if 64 < l.length then (none, 1) else if anyNeg l = true then (none, 4) else if 64 < l.sum then (none, 1) else (some l, 0)

set_option maxHeartbeats 2000000 in
set_option maxRecDepth 100000 in
theorem odo_Weaves.calls (A0 : Option Addr) (c0 : Nat) (l0 : List Int) (w : World) (hr0 : Kd.C (Kd.int .i64) w A0 l0.length l0) (hc0 : l0.length ≤ c0) :
    Calls Try.prog 26 #[.slice A0 l0.length c0] w fun e w' => ∃ v, e = .returned (.tuple #[v, .int .i64 (odo_Weaves.f l0).2]) ∧ SpO 82 w' v (odo_Weaves.f l0).1 ∧ Below w.heap.size w w' := by
  have HR0 := Aside0.mk hr0
  have HC0 := Aside0.mk hc0
  clear hr0 hc0
  by_cases h64 : 64 < l0.length
  · have hf : odo_Weaves.f l0 = (none, 1) := by unfold odo_Weaves.f; rw [if_pos h64]
    rw [hf]
    clear hf
    have c3b0 : decide (64 < (l0.length : Int)) = true := decide_eq_true (by omega)
    go_enter Try.func26, Try.ntmps26
    go_wp2
    go_ret2
    exact ⟨_, rfl, rfl, Below.refl _ _⟩
  · have c3b0 : decide (64 < (l0.length : Int)) = false := decide_eq_false (by omega)
    have hlen : l0.length ≤ 64 := by omega
    have h64' := Aside0.mk h64
    clear h64
    go_enter Try.func26, Try.ntmps26
    go_wp2
    go_loop [14] (fun i => ∃ k : Nat, k ≤ l0.length ∧ i = .int .i64 k ∧ Aside0 (anyNeg (l0.take k) = false)) (fun i => l0.length - (intOf i).toNat)
    case atStart => exact ⟨0, by omega, rfl, ⟨by simp [anyNeg]⟩⟩
    case round =>
      obtain ⟨k, hk, rfl, ha⟩ := hrel
      by_cases hlt : k < l0.length
      · obtain ⟨ad256, e256, hx256_0⟩ := Kd.at_int HR0.out k (by omega) (by omega)
        cases e256
        rw [Int.toNat_natCast] at hx256_0
        have hs := anyNeg_take hlt
        rw [ha.out, Bool.false_or] at hs
        by_cases hn : rd l0 k < 0
        · have hfin : Aside0 (odo_Weaves.f l0 = (none, 4)) := ⟨by
            unfold odo_Weaves.f
            rw [if_neg h64'.out, if_pos (anyNeg_more (k := k + 1) (by rw [hs]; exact decide_eq_true hn))]⟩
          clear hs
          have hnb : decide (rd l0 k < 0) = true := decide_eq_true hn
          clear hn
          go_wp2
          go_ret2
          rw [hfin.out]
          exact ⟨_, rfl, rfl, Below.refl _ _⟩
        · have hs' : Aside0 (anyNeg (l0.take (k + 1)) = false) := ⟨by rw [hs]; exact decide_eq_false hn⟩
          clear hs
          have hnb : decide (rd l0 k < 0) = false := decide_eq_false hn
          clear hn
          go_wp2
          go_round
          case rel => exact ⟨k + 1, by omega, by go_num, hs'⟩
          case measure => simp [intOf]; omega
      · have hge : l0.length ≤ k := by omega
        have hnn : Aside0 (anyNeg l0 = false) := ⟨by
          have := ha.out
          rwa [List.take_of_length_le hge] at this⟩
        clear ha hlt
        go_wp2
        clear hge hk
        go_loop [6, 23] (fun s i => ∃ k : Nat, k ≤ l0.length ∧ i = .int .i64 k ∧ s = .int .i64 (l0.take k).sum ∧ Aside0 ((l0.take k).sum ≤ 64)) (fun _ i => l0.length - (intOf i).toNat)
        case atStart => exact ⟨0, by omega, rfl, by simp, ⟨by simp⟩⟩
        case round =>
          obtain ⟨k, hk, rfl, rfl, ha⟩ := hrel
          by_cases hlt : k < l0.length
          · obtain ⟨ad256, e256, hx256_0⟩ := Kd.at_int HR0.out k (by omega) (by omega)
            cases e256
            rw [Int.toNat_natCast] at hx256_0
            have hs := sum_take hlt
            have b1 := (sum_le hnn.out (k + 1)).1
            have b2 := sum_le hnn.out k
            have b3 := ha.out
            have b4 := (sum_le hnn.out (k + 1)).2
            obtain ⟨s, hse⟩ : ∃ s, (l0.take k).sum = s := ⟨_, rfl⟩
            obtain ⟨x, hxe⟩ : ∃ x, rd l0 k = x := ⟨_, rfl⟩
            rw [hse] at b2 b3 hs
            rw [hxe] at hs hx256_0
            have hx0 : 0 ≤ x := by
              have h1 := anyNeg_take hlt
              rw [(anyNeg_split hnn.out (k + 1)).1, (anyNeg_split hnn.out k).1, Bool.false_or] at h1
              have := of_decide_eq_false h1.symm
              omega
            have hs' := Aside0.mk hs
            rw [hs] at b1 b4
            clear hs
            rw [hse]
            clear hse hxe
            by_cases hn : 64 - s < x
            · have hfin : Aside0 (odo_Weaves.f l0 = (none, 1)) := ⟨by
                unfold odo_Weaves.f
                rw [if_neg h64'.out, if_neg (by rw [hnn.out]; decide), if_pos (by omega)]⟩
              have hnb : decide (64 - s < x) = true := decide_eq_true hn
              go_wp2
              go_ret2
              rw [hfin.out]
              exact ⟨_, rfl, rfl, Below.refl _ _⟩
            · have hnb : decide (64 - s < x) = false := decide_eq_false hn
              go_wp2
              go_round
              case rel => exact ⟨k + 1, by omega, by go_num, by rw [hs'.out], ⟨by rw [hs'.out]; omega⟩⟩
              case measure => simp [intOf]; omega
          · have hge : l0.length ≤ k := by omega
            have hfin : Aside0 (odo_Weaves.f l0 = (some l0, 0)) := ⟨by
              have := ha.out
              rw [List.take_of_length_le hge] at this
              unfold odo_Weaves.f
              rw [if_neg h64'.out, if_neg (by rw [hnn.out]; decide), if_neg (by omega)]⟩
            have hcl : Aside0 (slices_Clone_int_int.f l0 = some l0) := ⟨by
              unfold slices_Clone_int_int.f
              simp only [Option.bind_some, List.length_nil, List.nil_append]
              rw [if_pos (by omega)]⟩
            clear ha
            go_wp2_with (go_at_call 32; refine (slices_Clone_int_int.calls A0 c0 l0 l0 _ HR0.out HC0.out hcl.out).mono ?_; rintro e w1 ⟨v1, rfl, hR1, hB1⟩)
            have hz := hB1.size
            obtain ⟨A1, c1, rfl, hc1, hC1⟩ := Kd.R_reads hR1
            have HC1 := Aside0.mk hC1
            have HL1 := Aside0.mk hc1
            have HB1 := Aside0.mk hB1
            clear hC1 hc1 hB1 hR1
            go_wp2
            go_ret2
            rw [hfin.out]
            exact ⟨_, rfl, SpAt.made HL1.out HC1.out, HB1.out.alloc hz _⟩
end Go.Proofs.Ytohpboblmmbjnaa.P
/- The contracts of Len, At and Rank of odo's spaces, kind by kind. -/
namespace Go.Proofs.Ytohpboblmmbjnaa.P
open Go.RowKit Go.Proofs.YtohpboblmmbjnaaW.PrintWords Go.Proofs.YtohpboblmmbjnaaW.PrintLast Go.Proofs.YtohpboblmmbjnaaW.PrintMore

theorem m80 (A : Option Addr) (n c : Nat) : (∀ w : World, (method 225 80 (.slice A n c) "weir/odo.count").run Try.prog w = .ok (62, .slice A n c) w) ∧ (∀ w : World, (method 225 80 (.slice A n c) "weir/odo.at").run Try.prog w = .ok (61, .slice A n c) w) ∧
    (∀ w : World, (method 225 80 (.slice A n c) "weir/odo.rank").run Try.prog w = .ok (65, .slice A n c) w) := ⟨fun _ => by kernel_rfl, fun _ => by kernel_rfl, fun _ => by kernel_rfl⟩
theorem m82 (A : Option Addr) (n c : Nat) : (∀ w : World, (method 225 82 (.slice A n c) "weir/odo.count").run Try.prog w = .ok (69, .slice A n c) w) ∧ (∀ w : World, (method 225 82 (.slice A n c) "weir/odo.at").run Try.prog w = .ok (68, .slice A n c) w) ∧
    (∀ w : World, (method 225 82 (.slice A n c) "weir/odo.rank").run Try.prog w = .ok (72, .slice A n c) w) := ⟨fun _ => by kernel_rfl, fun _ => by kernel_rfl, fun _ => by kernel_rfl⟩

set_option maxHeartbeats 1000000 in
set_option maxRecDepth 100000 in
theorem odo_Len_product.calls (k : Nat) (l : List Int) (r1 : Int) (r2 : Bool) (v : Value) (w : World) (hs : SpAt 80 w v l) (h : odo_product_count.f k l = some (r1, r2)) :
    Calls Try.prog 9 #[v] w fun e w' => e = .returned (.tuple #[.int .u64 (if r2 = true then r1 else 0), .int .i64 (if r2 = true then 0 else 30)]) ∧ Drawn0 w w' := by
  obtain ⟨g, A, c, rfl, hg, hc, hC⟩ := hs
  have HC := Aside0.mk hC
  have HL := Aside0.mk hc
  have H := Aside0.mk h
  clear hC hc h
  have hm := (m80 A l.length c).1
  cases r2 with
  | true =>
    rw [if_pos rfl, if_pos rfl]
    go_enter Try.func9, Try.ntmps9
    go_wp2_with (go_at_call 62; refine (odo_product_count.calls k A c l r1 true w HC.out HL.out H.out).mono ?_; rintro e w1 ⟨rfl, ⟨nd, rfl⟩⟩)
    go_ret2
    exact ⟨rfl, by repeat (first | exact Drawn0.refl _ | apply Drawn0.step)⟩
  | false =>
    rw [if_neg (by decide), if_neg (by decide)]
    go_enter Try.func9, Try.ntmps9
    go_wp2_with (go_at_call 62; refine (odo_product_count.calls k A c l r1 false w HC.out HL.out H.out).mono ?_; rintro e w1 ⟨rfl, ⟨nd, rfl⟩⟩)
    go_ret2
    exact ⟨rfl, by repeat (first | exact Drawn0.refl _ | apply Drawn0.step)⟩
set_option maxHeartbeats 1000000 in
set_option maxRecDepth 100000 in
theorem odo_Len_weaves.calls (k : Nat) (l : List Int) (r1 : Int) (r2 : Bool) (v : Value) (w : World) (hs : SpAt 82 w v l) (h : odo_weaves_count.f k l = some (r1, r2)) :
    Calls Try.prog 9 #[v] w fun e w' => e = .returned (.tuple #[.int .u64 (if r2 = true then r1 else 0), .int .i64 (if r2 = true then 0 else 30)]) ∧ Drawn0 w w' := by
  obtain ⟨g, A, c, rfl, hg, hc, hC⟩ := hs
  have HC := Aside0.mk hC
  have HL := Aside0.mk hc
  have H := Aside0.mk h
  clear hC hc h
  have hm := (m82 A l.length c).1
  cases r2 with
  | true =>
    rw [if_pos rfl, if_pos rfl]
    go_enter Try.func9, Try.ntmps9
    go_wp2_with (go_at_call 69; refine (odo_weaves_count.calls k A c l r1 true w HC.out HL.out H.out).mono ?_; rintro e w1 ⟨rfl, ⟨nd, rfl⟩⟩)
    go_ret2
    exact ⟨rfl, by repeat (first | exact Drawn0.refl _ | apply Drawn0.step)⟩
  | false =>
    rw [if_neg (by decide), if_neg (by decide)]
    go_enter Try.func9, Try.ntmps9
    go_wp2_with (go_at_call 69; refine (odo_weaves_count.calls k A c l r1 false w HC.out HL.out H.out).mono ?_; rintro e w1 ⟨rfl, ⟨nd, rfl⟩⟩)
    go_ret2
    exact ⟨rfl, by repeat (first | exact Drawn0.refl _ | apply Drawn0.step)⟩
end Go.Proofs.Ytohpboblmmbjnaa.P
/- The contracts of At and Rank of odo's spaces, kind by kind. -/
namespace Go.Proofs.Ytohpboblmmbjnaa.P
open Go.RowKit Go.Proofs.YtohpboblmmbjnaaW.PrintWords Go.Proofs.YtohpboblmmbjnaaW.PrintLast Go.Proofs.YtohpboblmmbjnaaW.PrintMore

/-- What At answers, of a count and the list. -/
def atRes (r1 : Int) (r2 : Bool) (n : Int) (xs : List Int) : List Int × Int := if r2 = true then (if r1 ≤ n then ([], 3) else (xs, 0)) else ([], 30)
/-- What Rank answers, of a count and the list's number. -/
def rankRes (r2 : Bool) (q : Int) (ok : Bool) : Int × Int := if r2 = true then (if ok = true then (q, 0) else (0, 3)) else (0, 30)

set_option maxHeartbeats 1000000 in
set_option maxRecDepth 100000 in
theorem odo_At_product.calls (k : Nat) (l : List Int) (r1 : Int) (r2 : Bool) (n : Int) (xs : List Int) (v : Value) (w : World) (hs : SpAt 80 w v l) (h : odo_product_count.f k l = some (r1, r2))
    (ha : r2 = true → n < r1 → odo_product_at.f k l n = some xs) :
    Calls Try.prog 11 #[v, .int .u64 n] w fun e w' => ∃ v1 : Value, e = .returned (.tuple #[v1, .int .i64 (atRes r1 r2 n xs).2]) ∧ Kd.R (Kd.int .i64) 3 w' w.heap.size (fun _ => True) v1 (atRes r1 r2 n xs).1 ∧ Below w.heap.size w w' := by
  have HS := Aside0.mk hs
  obtain ⟨g, A, c, rfl, hg, hc, hC⟩ := hs
  have HC := Aside0.mk hC
  have HL := Aside0.mk hc
  have H := Aside0.mk h
  have HA := Aside0.mk ha
  clear hC hc h ha
  have hm := (m80 A l.length c).2.1
  cases r2 with
  | true =>
    by_cases hn : r1 ≤ n
    · have hr : atRes r1 true n xs = ([], 3) := by unfold atRes; rw [if_pos rfl, if_pos hn]
      rw [hr]
      clear hr
      have hb : decide (r1 ≤ n) = true := decide_eq_true hn
      clear hn
      go_enter Try.func11, Try.ntmps11
      go_wp2_with (go_at_call 9; refine (odo_Len_product.calls k l r1 true _ w HS.out H.out).mono ?_; rw [if_pos rfl, if_pos rfl]; rintro e w1 ⟨rfl, ⟨nd, rfl⟩⟩)
      go_ret2
      exact ⟨_, rfl, Kd.R_nil _ _ _ _ _, by repeat (first | exact Below.refl _ _ | refine pw_below_drewN ?_ _ | refine below_drew ?_)⟩
    · have hr : atRes r1 true n xs = (xs, 0) := by unfold atRes; rw [if_pos rfl, if_neg hn]
      rw [hr]
      clear hr
      have HX := Aside0.mk (HA.out rfl (by omega))
      have hb : decide (r1 ≤ n) = false := decide_eq_false hn
      clear hn
      go_enter Try.func11, Try.ntmps11
      go_wp2_with (first | (go_at_call 9; refine (odo_Len_product.calls k l r1 true _ w HS.out H.out).mono ?_; rw [if_pos rfl, if_pos rfl]; rintro e w1 ⟨rfl, ⟨nd, rfl⟩⟩) | (go_at_call 61; refine (odo_product_at.calls k A c l n xs _ (Kd.C_drewN HC.out _) HL.out HX.out).mono ?_; rintro e w2 ⟨v2, rfl, hR2, hB2⟩; have HR2 := Aside0.mk hR2; have HB2 := Aside0.mk hB2; clear hR2 hB2))
      go_ret2
      exact ⟨_, rfl, HR2.out, below_then (pw_below_drewN (Below.refl _ _) _) (Nat.le_refl _) HB2.out⟩
  | false =>
    have hr : atRes r1 false n xs = ([], 30) := rfl
    rw [hr]
    clear hr
    go_enter Try.func11, Try.ntmps11
    go_wp2_with (go_at_call 9; refine (odo_Len_product.calls k l r1 false _ w HS.out H.out).mono ?_; rw [if_neg (by decide), if_neg (by decide)]; rintro e w1 ⟨rfl, ⟨nd, rfl⟩⟩)
    go_ret2
    exact ⟨_, rfl, Kd.R_nil _ _ _ _ _, by repeat (first | exact Below.refl _ _ | refine pw_below_drewN ?_ _ | refine below_drew ?_)⟩

set_option maxHeartbeats 1000000 in
set_option maxRecDepth 100000 in
theorem odo_Rank_product.calls (k : Nat) (l : List Int) (r1 : Int) (r2 : Bool) (A1 : Option Addr) (c1 : Nat) (xs : List Int) (q : Int) (ok : Bool) (v : Value) (w : World) (hs : SpAt 80 w v l) (h : odo_product_count.f k l = some (r1, r2))
    (hr1 : Kd.C (Kd.int .i64) w A1 xs.length xs) (hc1 : xs.length ≤ c1) (ha : r2 = true → odo_product_rank.f k l xs = some (q, ok)) :
    Calls Try.prog 14 #[v, .slice A1 xs.length c1] w fun e w' => e = .returned (.tuple #[.int .u64 (rankRes r2 q ok).1, .int .i64 (rankRes r2 q ok).2]) ∧ Below w.heap.size w w' := by
  have HS := Aside0.mk hs
  obtain ⟨g, A, c, rfl, hg, hc, hC⟩ := hs
  have HC := Aside0.mk hC
  have HL := Aside0.mk hc
  have H := Aside0.mk h
  have HA := Aside0.mk ha
  have HR1 := Aside0.mk hr1
  have HC1 := Aside0.mk hc1
  clear hC hc h ha hr1 hc1
  have hm := (m80 A l.length c).2.2
  cases r2 with
  | true =>
    have HX := Aside0.mk (HA.out rfl)
    clear HA
    cases ok with
    | true =>
      have hr : rankRes true q true = (q, 0) := rfl
      rw [hr]
      clear hr
      go_enter Try.func14, Try.ntmps14
      go_wp2_with (first | (go_at_call 9; refine (odo_Len_product.calls k l r1 true _ w HS.out H.out).mono ?_; rw [if_pos rfl, if_pos rfl]; rintro e w1 ⟨rfl, ⟨nd, rfl⟩⟩) | (go_at_call 65; refine (odo_product_rank.calls k A c l A1 c1 xs q true _ (Kd.C_drewN HC.out _) HL.out (Kd.C_drewN HR1.out _) HC1.out HX.out).mono ?_; rintro e w2 ⟨rfl, hB2⟩; have HB2 := Aside0.mk hB2; clear hB2))
      go_ret2
      exact ⟨rfl, below_then (pw_below_drewN (Below.refl _ _) _) (Nat.le_refl _) HB2.out.below⟩
    | false =>
      have hr : rankRes true q false = (0, 3) := rfl
      rw [hr]
      clear hr
      go_enter Try.func14, Try.ntmps14
      go_wp2_with (first | (go_at_call 9; refine (odo_Len_product.calls k l r1 true _ w HS.out H.out).mono ?_; rw [if_pos rfl, if_pos rfl]; rintro e w1 ⟨rfl, ⟨nd, rfl⟩⟩) | (go_at_call 65; refine (odo_product_rank.calls k A c l A1 c1 xs q false _ (Kd.C_drewN HC.out _) HL.out (Kd.C_drewN HR1.out _) HC1.out HX.out).mono ?_; rintro e w2 ⟨rfl, hB2⟩; have HB2 := Aside0.mk hB2; clear hB2))
      go_ret2
      exact ⟨rfl, below_then (pw_below_drewN (Below.refl _ _) _) (Nat.le_refl _) HB2.out.below⟩
  | false =>
    have hr : rankRes false q ok = (0, 30) := rfl
    rw [hr]
    clear hr
    go_enter Try.func14, Try.ntmps14
    go_wp2_with (go_at_call 9; refine (odo_Len_product.calls k l r1 false _ w HS.out H.out).mono ?_; rw [if_neg (by decide), if_neg (by decide)]; rintro e w1 ⟨rfl, ⟨nd, rfl⟩⟩)
    go_ret2
    exact ⟨rfl, by repeat (first | exact Below.refl _ _ | refine pw_below_drewN ?_ _ | refine below_drew ?_)⟩
end Go.Proofs.Ytohpboblmmbjnaa.P
/- A range over a bound method that goes through the numbers below N (of which it leaves some out), reads one row, and leaves memory as it was between two rounds. -/
namespace Go.Proofs.Ytohpboblmmbjnaa.P
open Go Go.RowKit

variable {F : Fence} {n : Nat} {P : Program}

/-- What the iterator promises, whatever the loop's body does, as long as the row lies as it lay. -/
def EachStops (F : Fence) (n : Nat) (P : Program) (g : Nat) (fb : Array Value) (N : Nat) (yes : Nat → Bool) (encs : Nat → Array Value) (Row : World → Prop) : Prop :=
  ∀ (l : Nat) (J : Nat → World → Prop) (Jx : World → Prop) (W : World), (∀ i W m, J i W → J i (W.drewN m)) → (∀ i W, J i W → Row W) → (∀ i W, J i W → i < N → yes i = false → J (i + 1) W) →
    (∀ i W1, J i W1 → i < N → yes i = true → YieldAt F (n - 1) P l (encs i) W1 fun e W' => (e = .returned (.bool true) ∧ J (i + 1) W') ∨ (e = .returned (.bool false) ∧ Jx W')) →
    J 0 W → CallsIn F n P g (fb ++ #[.func (.yield l) #[] #[]]) W fun e W' => (∃ v, e = .returned v) ∧ (J N W' ∨ Jx W')

/-- How the body of a round may be left. -/
def eachPost (B : Nat) (I : Nat → World → Prop) (Ix : Code → World → Prop) (i : Nat) (W : World) : Exit → Act → World → Prop
  | .normal, _, W' => KeepsFrom B W W' ∧ I i W'
  | .ret, _, W' => KeepsFrom B W W' ∧ Ix .ret W'
  | .exit id, _, W' => KeepsFrom B W W' ∧ Ix (.exit id) W'
  | .goto t, _, W' => KeepsFrom B W W' ∧ Ix (.goto t) W'
  | .panic _, _, _ => False
  | .outgrown, _, _ => False

theorem wpIn_rangeFunc_each {g : Operand} {ps : Array Tmp} {assign body : Code} {Q : Exit → Act → World → Prop} {a : Act} {w : World}
    (hro : F.round = none) (h1 : 1 ≤ n) {gf : Nat} {fb : Array Value} (hg : a.eval g = .func (.func gf) fb #[]) (hFg : F.fn gf) (eg : ∀ args w, (callFunc gf args).run P w = .ok (.enter gf args) w)
    {N : Nat} {yes : Nat → Bool} {encs : Nat → Array Value} {Row : World → Prop} (hseq : EachStops F (n - 1) P gf fb N yes encs Row) (hps : ∀ x, (encs x).size = ps.size)
    (I : Nat → World → Prop) (Ix : Code → World → Prop) (hI : OwnFrom w.heap.size I) (hIx : OwnFrom w.heap.size Ix) (hRow : ∀ i W, I i W → Row W) (hskip : ∀ i W, I i W → i < N → yes i = false → I (i + 1) W)
    (h0 : I 0 w) (a₁ : Nat → Act)
    (hassign : ∀ (l : Nat) (x : Nat) (W : World) (K : Act → World → Prop), K (a₁ x) W →
      assign.wpIn (F.inRound l) (n - 1 - 1) P (Exit.then K (fun _ _ _ => False)) { tmps := (ps.zip (encs x)).foldl (fun t (p, v) => t.setIfInBounds p v) a.tmps, defers := [] } W)
    (hbody : ∀ (l : Nat) (i : Nat) (W : World), w.heap.size ≤ l → I i W → i < N → yes i = true → body.wpIn (F.inRound l) (n - 1 - 1) P (eachPost w.heap.size I Ix (i + 1) W) (a₁ i) W)
    (hdone : ∀ (D : Nat) (W : World), w.heap.size ≤ D → I N W → W.heap[D]? = some (.deferred (some [])) → Q .normal { a with defers := { target := .collected D, args := #[] } :: a.defers } W)
    (hstop : ∀ (D : Nat) (c : Code) (W : World), w.heap.size ≤ D → Ix c W → W.heap[D]? = some (.deferred (some [])) → c.wpIn F n P Q { a with defers := { target := .collected D, args := #[] } :: a.defers } W) :
    (Code.rangeFunc g ps assign body).wpIn F n P Q a w := by
  refine wpIn_rangeFunc ?_
  intro fn hfn
  rw [hro]
  obtain ⟨rec, hrec⟩ : ∃ rec : LoopState → Option Code → Loop, rec = fun st pe => { state := st, pending := pe, fn, tmps := a.tmps, params := ps, assign, body, defers := w.heap.size } := ⟨_, rfl⟩
  obtain ⟨W1, hW1⟩ : ∃ W1, (w.alloc (.deferred (some []))).alloc (.loop (rec .ready none)) = W1 := ⟨_, rfl⟩
  have hL1 : W1.heap[w.heap.size + 1]? = some (.loop (rec .ready none)) := by
    rw [← hW1]; have := World.alloc_heap_new (w.alloc (.deferred (some []))) (.loop (rec .ready none)); rwa [World.size_alloc] at this
  have hK1 : W1.heap[w.heap.size]? = some (.deferred (some [])) := by
    rw [← hW1]; exact (Below.heap_alloc _ _ _ (by simp)).trans (World.alloc_heap_new w _)
  have hI1 : I 0 W1 := by rw [← hW1]; exact hI.alloc _ (hI.alloc _ h0)
  refine ⟨w.heap.size + 1, [{ target := .collected w.heap.size, args := #[] }], W1, { target := .fn (.func gf) #[], args := fb ++ #[.func (.yield (w.heap.size + 1)) #[] #[]] }, W1, gf,
    fb ++ #[.func (.yield (w.heap.size + 1)) #[] #[]], W1, ?_, ?_, ?_, ?_, fun _ => h1, ?_⟩
  · rw [← hW1, hrec]; exact run_enterLoop_outer _ _ _ _ _
  · simp only [resolve, hg]
    simp [go_sem]
  · intro f' hf'; simp [Target.leads] at hf'; subst hf'; exact hFg
  · simp [invoke, go_sem, eg]
  · refine (hseq (w.heap.size + 1)
      (fun i W => I i W ∧ W.heap[w.heap.size + 1]? = some (.loop (rec .ready none)) ∧ W.heap[w.heap.size]? = some (.deferred (some [])))
      (fun W => ∃ c, Ix c W ∧ W.heap[w.heap.size + 1]? = some (.loop (rec .done (some c))) ∧ W.heap[w.heap.size]? = some (.deferred (some [])))
      W1 (fun i W m hs => ⟨hI i W _ none hs.1 ⟨rfl, rfl, rfl, Nat.le_refl _, fun _ _ _ => rfl⟩ (fun r e => by cases e), hs.2.1, hs.2.2⟩) (fun i W hs => hRow i W hs.1)
      (fun i W hs hi hy => ⟨hskip i W hs.1 hi hy, hs.2⟩) ?_ ⟨hI1, hL1, hK1⟩).mono ?_
    · rintro i W ⟨hi, hl, hk⟩ hlen hyes
      have hlt : w.heap.size + 1 < W.heap.size := (Array.getElem?_eq_some_iff.1 hl).1
      have hy := run_yield (P := P) (args := encs i) hl (by rw [hrec]; exact hps i)
      rw [hrec] at hy
      refine ⟨fn, _, assign, body, hy, roundIn_of_wpIn hfn (hassign _ i W _ ⟨_, run_beginRound hl (by rw [hrec]), ?_⟩)⟩
      have hl2 : (W.putObj (w.heap.size + 1) (.loop { rec .ready none with state := .busy })).heap[w.heap.size + 1]? = some (.loop { rec .ready none with state := .busy }) := World.putObj_heap_same hlt
      have hk2 : (W.putObj (w.heap.size + 1) (.loop { rec .ready none with state := .busy })).heap[w.heap.size]? = some (.deferred (some [])) := (World.putObj_heap_other (by omega)).trans hk
      refine wpIn_mono (hbody _ i _ (by omega) (hI.putObj _ hi (by omega) hl rfl) hlen hyes) ?_
      have fin : ∀ (jump : Option Code) (W3 : World), KeepsFrom w.heap.size (W.putObj (w.heap.size + 1) (.loop { rec .ready none with state := .busy })) W3 →
          (Instr.endRound (w.heap.size + 1) jump).run P W3 = .ok (.bool jump.isNone) (W3.putObj (w.heap.size + 1) (.loop (rec (if jump.isNone then .ready else .done) jump))) ∧
          W3.heap[w.heap.size + 1]? = some (.loop { rec .ready none with state := .busy }) ∧
          (W3.putObj (w.heap.size + 1) (.loop (rec (if jump.isNone then .ready else .done) jump))).heap[w.heap.size + 1]? = some (.loop (rec (if jump.isNone then .ready else .done) jump)) ∧
          (W3.putObj (w.heap.size + 1) (.loop (rec (if jump.isNone then .ready else .done) jump))).heap[w.heap.size]? = some (.deferred (some [])) := fun jump W3 hk3 => by
        have hl3 := hk3.same _ _ (by omega) hl2 rfl
        have := run_endRound (P := P) jump hl3
        rw [hrec] at this ⊢
        exact ⟨this, by rw [hrec] at hl3; exact hl3, World.putObj_heap_same (Array.getElem?_eq_some_iff.1 hl3).1, (World.putObj_heap_other (by omega)).trans (hk3.same _ _ (Nat.le_refl _) hk2 rfl)⟩
      rintro e a3 W3 hp
      cases e with
      | normal =>
        obtain ⟨hk3, hi3⟩ := hp
        obtain ⟨hr, hl3, hl4, hk4⟩ := fin none W3 hk3
        exact ⟨_, _, hr, .inl ⟨rfl, hI.putObj _ hi3 (by omega) hl3 rfl, hl4, hk4⟩⟩
      | ret =>
        obtain ⟨hk3, hi3⟩ := hp
        obtain ⟨hr, hl3, hl4, hk4⟩ := fin (some .ret) W3 hk3
        exact ⟨_, _, hr, .inr ⟨rfl, .ret, hIx.putObj _ hi3 (by omega) hl3 rfl, hl4, hk4⟩⟩
      | exit id =>
        obtain ⟨hk3, hi3⟩ := hp
        obtain ⟨hr, hl3, hl4, hk4⟩ := fin (some (.exit id)) W3 hk3
        exact ⟨_, _, hr, .inr ⟨rfl, .exit id, hIx.putObj _ hi3 (by omega) hl3 rfl, hl4, hk4⟩⟩
      | goto t =>
        obtain ⟨hk3, hi3⟩ := hp
        obtain ⟨hr, hl3, hl4, hk4⟩ := fin (some (.goto t)) W3 hk3
        exact ⟨_, _, hr, .inr ⟨rfl, .goto t, hIx.putObj _ hi3 (by omega) hl3 rfl, hl4, hk4⟩⟩
      | panic ch => exact hp.elim
      | outgrown => exact hp.elim
    · rintro e W2 ⟨⟨v, rfl⟩, (⟨hi, hl, hk⟩ | ⟨c, hi, hl, hk⟩)⟩
      · exact ⟨none, _, by have := run_endLoop (P := P) hl (by rw [hrec]; simp); rw [hrec] at this; exact this, hdone _ _ (Nat.le_refl _) (hI.putObj _ hi (by omega) hl rfl) ((World.putObj_heap_other (by omega)).trans hk)⟩
      · exact ⟨some c, _, by have := run_endLoop (P := P) hl (by rw [hrec]; simp); rw [hrec] at this; exact this, hstop _ c _ (Nat.le_refl _) (hIx.putObj _ hi (by omega) hl rfl) ((World.putObj_heap_other (by omega)).trans hk)⟩
end Go.Proofs.Ytohpboblmmbjnaa.P
/- What bits.Mul64 and bits.Div64 answer. -/
namespace Go.Proofs.Ytohpboblmmbjnaa.P
open Go.RowKit Go.Proofs.YtohpboblmmbjnaaW.PrintWords Go.Proofs.YtohpboblmmbjnaaW.PrintMore

theorem mul64_is (x y : Nat) (hx : x < 18446744073709551616) (hy : y < 18446744073709551616) :
    bits_Mul64.f x y = some (((x * y / 18446744073709551616 : Nat) : Int), ((x * y % 18446744073709551616 : Nat) : Int)) := by
  obtain ⟨bd, bt, bw, hhi⟩ := Lib.mul64_hi x y hx hy
  have ba := Lib.half_mul_le (a := x / 4294967296) (b := y / 4294967296) (by omega) (by omega)
  have bb := Lib.half_mul_le (a := x / 4294967296) (b := y % 4294967296) (by omega) (by omega)
  have bc := Lib.half_mul_le (a := x % 4294967296) (b := y / 4294967296) (by omega) (by omega)
  have ba' : x / 4294967296 * (y / 4294967296) < 18446744073709551616 := by omega
  have bb' : x / 4294967296 * (y % 4294967296) < 18446744073709551616 := by omega
  have bc' : x % 4294967296 * (y / 4294967296) < 18446744073709551616 := by omega
  have bh1 : x / 4294967296 * (y / 4294967296) + (x / 4294967296 * (y % 4294967296) + x % 4294967296 * (y % 4294967296) / 4294967296) / 4294967296 < 18446744073709551616 := by omega
  have bh : x / 4294967296 * (y / 4294967296) + (x / 4294967296 * (y % 4294967296) + x % 4294967296 * (y % 4294967296) / 4294967296) / 4294967296 + ((x / 4294967296 * (y % 4294967296) + x % 4294967296 * (y % 4294967296) / 4294967296) % 4294967296 + x % 4294967296 * (y / 4294967296)) / 4294967296 < 18446744073709551616 := by omega
  unfold bits_Mul64.f
  simp only [Mul64.maskN x hx, Mul64.maskN y hy, Mul64.divN, Mul64.mulN, Mul64.addN, Mul64.wrapN _ bd, Mul64.wrapN _ bb', Mul64.wrapN _ bt, Mul64.maskN _ bt, Mul64.wrapN _ bc', Mul64.wrapN _ bw, Mul64.wrapN _ ba', Mul64.wrapN _ bh1, Mul64.wrapN _ bh, Mul64.wrapM (x * y)]
  rw [hhi]

theorem u64_wrap {x : Int} (h0 : 0 ≤ x) (h1 : x < 18446744073709551616) : IntKind.u64.wrap x = x := by rw [IntKind.wrap_u64]; omega

/-- bits.Div64 where the high word is 0. -/
theorem div64_low (k lo y : Nat) (hlo : lo < 18446744073709551616) (hy : 0 < y) (_hy' : y < 18446744073709551616) :
    bits_Div64.f k 0 lo y = some (((lo / y : Nat) : Int), ((lo % y : Nat) : Int)) := by
  unfold bits_Div64.f
  rw [if_neg (by omega), if_neg (by omega), if_pos rfl]
  have h1 : (lo : Int).tdiv (y : Int) = ((lo / y : Nat) : Int) := by rw [Int.tdiv_eq_ediv_of_nonneg (by omega)]; rfl
  have h2 : (lo : Int).tmod (y : Int) = ((lo % y : Nat) : Int) := by rw [Int.tmod_eq_emod_of_nonneg (by omega)]; rfl
  rw [h1, h2, u64_wrap (Int.natCast_nonneg _) (Int.ofNat_lt.2 (Nat.lt_of_le_of_lt (Nat.div_le_self _ _) hlo))]

/-- The two halves of a division by a divisor whose lower half is 0. -/
theorem div_halves {M MM hi lo y T U t yn1 un32 un10 un1 un0 q1 rh un21 q0 r2 : Nat} (hM : 0 < M) (hMM : MM = M * M) (hy : hi < y) (hTt : T = t * M) (hTU : T * U = MM) (hU : 0 < U) (ht : 0 < t)
    (e1 : yn1 = y * t) (e2 : un32 = hi * T + lo / U) (e3 : un10 = lo * T % MM) (e4 : un1 = un10 / M) (e5 : un0 = un10 % M)
    (e6 : q1 = un32 / yn1) (e7 : rh = un32 % yn1) (e8 : un21 = rh * M + un1) (e9 : q0 = un21 / yn1) (e10 : r2 = un21 % yn1) (hlo : lo < MM) :
    un32 < yn1 * M ∧ un21 < yn1 * M ∧ (hi * MM + lo) / y = q1 * M + q0 := by
  subst hMM
  have hlU : lo / U < T := by
    refine (Nat.div_lt_iff_lt_mul hU).2 ?_
    rw [hTU]; exact hlo
  have hyn : yn1 * M = y * T := by rw [e1, hTt, Nat.mul_assoc]
  have hT : 0 < T := by rw [hTt]; exact Nat.mul_pos ht hM
  have hyn1 : 0 < yn1 := by rw [e1]; exact Nat.mul_pos (by omega) ht
  have hyT : 0 < y * T := Nat.mul_pos (by omega) hT
  have hu : un32 < y * T := by
    have : (hi + 1) * T ≤ y * T := Nat.mul_le_mul_right _ hy
    rw [Nat.add_mul, Nat.one_mul] at this
    omega
  have hr : rh < yn1 := by rw [e7]; exact Nat.mod_lt _ hyn1
  have hun10 : un10 < M * M := by rw [e3]; exact Nat.mod_lt _ (Nat.mul_pos hM hM)
  have hun1 : un1 < M := by rw [e4]; exact (Nat.div_lt_iff_lt_mul hM).2 hun10
  have hun0 : un0 < M := by rw [e5]; exact Nat.mod_lt _ hM
  have hsp : M * un1 + un0 = un10 := by rw [e4, e5]; exact Nat.div_add_mod _ _
  have hu2 : un21 < yn1 * M := by
    have : (rh + 1) * M ≤ yn1 * M := Nat.mul_le_mul_right _ hr
    rw [Nat.add_mul, Nat.one_mul] at this
    omega
  refine ⟨by rw [hyn]; exact hu, hu2, ?_⟩
  have hlow : lo * T = (lo / U) * (M * M) + un10 := by
    have h1 : U * (lo / U) + lo % U = lo := Nat.div_add_mod lo U
    have h2 : lo * T = (lo / U) * (T * U) + lo % U * T := by
      calc lo * T = (U * (lo / U) + lo % U) * T := by rw [h1]
        _ = U * (lo / U) * T + lo % U * T := Nat.add_mul _ _ _
        _ = (lo / U) * (T * U) + lo % U * T := by rw [Nat.mul_comm U (lo / U), Nat.mul_assoc, Nat.mul_comm U T]
    rw [hTU] at h2
    have h3 : lo % U * T < M * M := by
      have : (lo % U + 1) * T ≤ U * T := Nat.mul_le_mul_right _ (Nat.mod_lt _ hU)
      rw [Nat.add_mul, Nat.one_mul, Nat.mul_comm U T, hTU] at this
      omega
    have h4 : un10 = lo % U * T := by
      rw [e3, h2, Nat.add_comm, Nat.add_mul_mod_self_right, Nat.mod_eq_of_lt h3]
    rw [h4]
    exact h2
  have hd1 : yn1 * q1 + rh = un32 := by rw [e6, e7]; exact Nat.div_add_mod _ _
  have hd2 : yn1 * q0 + r2 = un21 := by rw [e9, e10]; exact Nat.div_add_mod _ _
  have hr2 : r2 < yn1 := by rw [e10]; exact Nat.mod_lt _ hyn1
  have hN : (hi * (M * M) + lo) * T = (q1 * M + q0) * (y * T) + (r2 * M + un0) := by
    have h1 : (hi * (M * M) + lo) * T = un32 * (M * M) + un10 := by
      rw [Nat.add_mul, hlow, e2, Nat.add_mul, Nat.mul_right_comm]
      omega
    rw [h1, ← hyn]
    have h2 : (q1 * M + q0) * (yn1 * M) = (yn1 * q1) * (M * M) + (yn1 * q0) * M := by
      rw [Nat.add_mul]
      have a1 : q1 * M * (yn1 * M) = (yn1 * q1) * (M * M) := by rw [Nat.mul_comm yn1 q1, Nat.mul_mul_mul_comm]
      have a2 : q0 * (yn1 * M) = (yn1 * q0) * M := by rw [Nat.mul_comm yn1 q0, Nat.mul_assoc]
      rw [a1, a2]
    rw [h2, ← hd1, ← hsp, Nat.add_mul, ← Nat.mul_assoc rh M M]
    have h3 : rh * M * M + M * un1 = (yn1 * q0 + r2) * M := by rw [hd2, e8, Nat.add_mul, Nat.mul_comm M un1]
    rw [Nat.add_mul] at h3
    omega
  have hrest : r2 * M + un0 < y * T := by
    rw [← hyn]
    have : (r2 + 1) * M ≤ yn1 * M := Nat.mul_le_mul_right _ hr2
    rw [Nat.add_mul, Nat.one_mul] at this
    omega
  have hq : ((hi * (M * M) + lo) * T) / (y * T) = q1 * M + q0 := by
    rw [hN, Nat.add_comm, Nat.add_mul_div_right _ _ hyT, Nat.div_eq_of_lt hrest, Nat.zero_add]
  rw [← hq, Nat.mul_div_mul_right _ _ hT]

theorem wrap_three (a b c : Int) : IntKind.u64.wrap (IntKind.u64.wrap (IntKind.u64.wrap a + b) - IntKind.u64.wrap c) = IntKind.u64.wrap (a + b - c) := by
  simp only [IntKind.wrap_u64]
  rw [Int.emod_add_emod, ← Int.sub_emod]
theorem len7_spec : ∀ y : Fin 128, 0 < y.val → 1 ≤ len7 y.val ∧ len7 y.val ≤ 7 ∧ y.val < 2 ^ (len7 y.val).toNat ∧ 2 ^ (len7 y.val).toNat ≤ 2 * y.val := by decide
theorem bits_or64 (a b i : Nat) (ha : a * 2 ^ i < 18446744073709551616) (hb : b < 2 ^ i) (hb' : b < 18446744073709551616) : bits .or .u64 ((a * 2 ^ i : Nat) : Int) (b : Int) = ((a * 2 ^ i + b : Nat) : Int) := by
  rw [u64_or_nat _ _ ha hb', Nat.mul_comm, ← Nat.two_pow_add_eq_or_of_lt hb a]

/-- bits.Div64 at a small divisor. -/
theorem div64_is (hi lo y : Nat) (hlo : lo < 18446744073709551616) (hy : hi < y) (hy' : y < 128) :
    ∃ r, ∀ k, bits_Div64.f (k + 5) hi lo y = some ((((hi * 18446744073709551616 + lo) / y : Nat) : Int), r) := by
  rcases Nat.eq_zero_or_pos hi with rfl | hpos
  · exact ⟨_, fun k => by rw [Nat.zero_mul, Nat.zero_add]; exact div64_low (k + 5) lo y hlo hy (Nat.lt_trans hy' (by decide))⟩
  obtain ⟨l1, l2, l3, l4⟩ := len7_spec ⟨y, hy'⟩ (show 0 < y by omega)
  simp only at l1 l2 l3 l4
  obtain ⟨n, hn⟩ : ∃ n : Nat, len7 y = n := ⟨(len7 y).toNat, by omega⟩
  rw [hn] at l1 l2 l3 l4
  rw [Int.toNat_natCast] at l3 l4
  obtain ⟨s, hs⟩ : ∃ s : Nat, s = 64 - n := ⟨_, rfl⟩
  have hlz : bits_LeadingZeros64.f y = some ((s : Nat) : Int) := by
    unfold bits_LeadingZeros64.f bits_Len64.f
    rw [if_pos ⟨by omega, by omega⟩]
    simp only [Option.bind_some, Int.toNat_natCast]
    rw [hn]
    congr 1
    unfold wrap64
    omega
  have hpT : (2 : Nat) ^ s * 2 ^ n = 18446744073709551616 := by rw [← Nat.pow_add, show s + n = 64 by omega]
  have hpn : (2 : Nat) ^ n ≤ 128 := by
    have : (2 : Nat) ^ n ≤ 2 ^ 7 := Nat.pow_le_pow_right (by decide) (by omega)
    omega
  have hps : (2 : Nat) ^ s = 2 ^ (s - 32) * 4294967296 := by
    have : (4294967296 : Nat) = 2 ^ 32 := by decide
    rw [this, ← Nat.pow_add, show s - 32 + 32 = s by omega]
  obtain ⟨t, ht⟩ : ∃ t : Nat, t = 2 ^ (s - 32) := ⟨_, rfl⟩
  rw [← ht] at hps
  have htp : 0 < t := by rw [ht]; exact Nat.two_pow_pos _
  have hs0 : min s 64 = s := by omega
  obtain ⟨T, hT⟩ : ∃ T : Nat, T = 2 ^ s := ⟨_, rfl⟩
  obtain ⟨U, hU⟩ : ∃ U : Nat, U = 2 ^ n := ⟨_, rfl⟩
  rw [← hT, ← hU] at hpT
  rw [← hT] at hps
  rw [← hU] at hpn l3 l4
  have hUp : 0 < U := by omega
  have hTp : 0 < T := by omega
  have hyT : y * T < 18446744073709551616 := by
    rw [← hpT, Nat.mul_comm T U]
    exact Nat.mul_lt_mul_of_pos_right l3 hTp
  have hhT : hi * T < 18446744073709551616 := Nat.lt_trans (Nat.mul_lt_mul_of_pos_right hy hTp) hyT
  have hlU : lo / U < T := (Nat.div_lt_iff_lt_mul hUp).2 (by rw [hpT]; exact hlo)
  obtain ⟨yn1, e1⟩ : ∃ yn1, yn1 = y * t := ⟨_, rfl⟩
  obtain ⟨un32, e2⟩ : ∃ un32, un32 = hi * T + lo / U := ⟨_, rfl⟩
  obtain ⟨un10, e3⟩ : ∃ un10, un10 = lo * T % 18446744073709551616 := ⟨_, rfl⟩
  obtain ⟨un1, e4⟩ : ∃ un1, un1 = un10 / 4294967296 := ⟨_, rfl⟩
  obtain ⟨un0, e5⟩ : ∃ un0, un0 = un10 % 4294967296 := ⟨_, rfl⟩
  obtain ⟨q1, e6⟩ : ∃ q1, q1 = un32 / yn1 := ⟨_, rfl⟩
  obtain ⟨rh, e7⟩ : ∃ rh, rh = un32 % yn1 := ⟨_, rfl⟩
  obtain ⟨un21, e8⟩ : ∃ un21, un21 = rh * 4294967296 + un1 := ⟨_, rfl⟩
  obtain ⟨q0, e9⟩ : ∃ q0, q0 = un21 / yn1 := ⟨_, rfl⟩
  obtain ⟨r2, e10⟩ : ∃ r2, r2 = un21 % yn1 := ⟨_, rfl⟩
  obtain ⟨b1, b2, hq⟩ := div_halves (M := 4294967296) (MM := 18446744073709551616) (by decide) (by decide) hy hps hpT hUp htp e1 e2 e3 e4 e5 e6 e7 e8 e9 e10 hlo
  have hyn : y * T = yn1 * 4294967296 := by rw [hps, e1, Nat.mul_assoc]
  have hyn1 : 0 < yn1 := by rw [e1]; exact Nat.mul_pos (by omega) htp
  have hq1 : q1 < 4294967296 := by rw [e6]; exact (Nat.div_lt_iff_lt_mul hyn1).2 (by rw [Nat.mul_comm]; exact b1)
  have hq0 : q0 < 4294967296 := by rw [e9]; exact (Nat.div_lt_iff_lt_mul hyn1).2 (by rw [Nat.mul_comm]; exact b2)
  have hd1 : yn1 * q1 + rh = un32 := by rw [e6, e7]; exact Nat.div_add_mod _ _
  have hd2 : yn1 * q0 + r2 = un21 := by rw [e9, e10]; exact Nat.div_add_mod _ _
  have hr : rh < yn1 := by rw [e7]; exact Nat.mod_lt _ hyn1
  have hyn1' : yn1 < 4294967296 := by omega
  have f1 : IntKind.u64.wrap (s : Int) = s := u64_wrap (by omega) (by omega)
  have f2 : shl .u64 (y : Int) (s : Int) = ((y * T : Nat) : Int) := by
    show IntKind.u64.wrap ((y : Int) * 2 ^ min (s : Int).toNat 64) = _
    rw [Int.toNat_natCast, hs0]
    have : (y : Int) * 2 ^ s = ((y * T : Nat) : Int) := by rw [hT]; simp
    rw [this]
    exact u64_wrap (Int.natCast_nonneg _) (Int.ofNat_lt.2 hyT)
  have f3 : ((y * T : Nat) : Int) / 4294967296 = (yn1 : Int) := by omega
  have f4 : bits .and .u64 ((y * T : Nat) : Int) 4294967295 = 0 := by
    rw [Mul64.maskN _ hyT, hyn, Nat.mul_mod_left]; rfl
  have f5 : IntKind.u64.wrap (64 - (s : Int)) = ((n : Nat) : Int) := by rw [u64_wrap (by omega) (by omega)]; omega
  have f6 : shl .u64 (hi : Int) (s : Int) = ((hi * 2 ^ s : Nat) : Int) := by
    show IntKind.u64.wrap ((hi : Int) * 2 ^ min (s : Int).toNat 64) = _
    rw [Int.toNat_natCast, hs0]
    have : (hi : Int) * 2 ^ s = ((hi * 2 ^ s : Nat) : Int) := by simp
    rw [this]
    exact u64_wrap (Int.natCast_nonneg _) (Int.ofNat_lt.2 (by rw [← hT]; exact hhT))
  have f7 : shr .u64 (lo : Int) (n : Int) = ((lo / U : Nat) : Int) := by
    show (lo : Int) / 2 ^ min (n : Int).toNat 64 = _
    rw [Int.toNat_natCast, Nat.min_eq_left (by omega), hU]
    simp
  have f8 : bits .or .u64 ((hi * 2 ^ s : Nat) : Int) ((lo / U : Nat) : Int) = (un32 : Int) := by
    rw [bits_or64 hi (lo / U) s (by rw [← hT]; exact hhT) (by rw [← hT]; exact hlU) (Nat.lt_of_le_of_lt (Nat.div_le_self _ _) hlo), e2, ← hT]
  have f9 : shl .u64 (lo : Int) (s : Int) = (un10 : Int) := by
    show IntKind.u64.wrap ((lo : Int) * 2 ^ min (s : Int).toNat 64) = _
    rw [Int.toNat_natCast, hs0]
    have : (lo : Int) * 2 ^ s = ((lo * T : Nat) : Int) := by rw [hT]; simp
    rw [this, Mul64.wrapM, e3]
  have h10 : un10 < 18446744073709551616 := by omega
  have f10 : (un10 : Int) / 4294967296 = (un1 : Int) := by omega
  have f11 : bits .and .u64 (un10 : Int) 4294967295 = (un0 : Int) := by rw [Mul64.maskN _ h10, e5]
  have f12 : IntKind.u64.wrap ((un32 : Int).tdiv (yn1 : Int)) = (q1 : Int) := by
    rw [Int.tdiv_eq_ediv_of_nonneg (by omega), show (un32 : Int) / (yn1 : Int) = ((un32 / yn1 : Nat) : Int) from rfl, ← e6]
    exact u64_wrap (by omega) (by omega)
  have hm1 : yn1 * q1 < 18446744073709551616 := by omega
  have f13 : IntKind.u64.wrap ((un32 : Int) - IntKind.u64.wrap ((q1 : Int) * (yn1 : Int))) = (rh : Int) := by
    rw [Mul64.mulN, Nat.mul_comm q1 yn1, Mul64.wrapN _ hm1, u64_wrap (by omega) (by omega)]
    omega
  refine ⟨shr .u64 (IntKind.u64.wrap ((IntKind.u64.wrap ((IntKind.u64.wrap ((un21 : Int) * 4294967296)) + un0)) - (IntKind.u64.wrap ((q0 : Int) * ((y * T : Nat) : Int))))) s, fun k => ?_⟩
  have g1 : IntKind.u64.wrap ((IntKind.u64.wrap ((IntKind.u64.wrap ((un32 : Int) * 4294967296)) + un1)) - IntKind.u64.wrap ((q1 : Int) * ((y * T : Nat) : Int))) = (un21 : Int) := by
    rw [hyn]
    have hm : (q1 : Int) * ((yn1 * 4294967296 : Nat) : Int) = ((yn1 * q1 : Nat) : Int) * 4294967296 := by
      rw [Int.natCast_mul, Int.natCast_mul, ← Int.mul_assoc, Int.mul_comm (q1 : Int) (yn1 : Int)]; rfl
    rw [hm, wrap_three, u64_wrap]
    · omega
    · omega
    · omega
  have g2 : IntKind.u64.wrap ((un21 : Int).tdiv (yn1 : Int)) = (q0 : Int) := by
    rw [Int.tdiv_eq_ediv_of_nonneg (by omega), show (un21 : Int) / (yn1 : Int) = ((un21 / yn1 : Nat) : Int) from rfl, ← e9]
    exact u64_wrap (by omega) (by omega)
  have g3 : IntKind.u64.wrap (IntKind.u64.wrap ((q1 : Int) * 4294967296) + (q0 : Int)) = (((hi * 18446744073709551616 + lo) / y : Nat) : Int) := by
    rw [hq, IntKind.wrap_u64, IntKind.wrap_u64]
    omega
  have z0 : ∀ x : Int, IntKind.u64.wrap (x * 0) = 0 := fun x => by rw [Int.mul_zero]; rfl
  have z1 : ∀ x : Int, decide ((0 : Int) > IntKind.u64.wrap x) = false := fun x => decide_eq_false (by rw [IntKind.wrap_u64]; omega)
  unfold bits_Div64.f
  rw [if_neg (by omega), if_neg (by omega), if_neg (by omega), hlz]
  simp only [Option.bind_some]
  rw [f1, f2, f3, f4, f5, f6, f7, f8, f9, f10, f11, f12, f13, if_pos (by omega), if_pos (by omega), if_neg (by omega)]
  simp only [bits_Div64.l0]
  rw [if_neg (by omega), z0, z1]
  simp only [bits_Div64.j1, Bool.false_eq_true, if_false]
  simp only [bits_Div64.j2]
  rw [if_neg (by omega), g1, g2]
  simp only [bits_Div64.l1]
  rw [if_neg (by omega), z0, z1]
  simp only [bits_Div64.j4, Bool.false_eq_true, if_false]
  rw [if_pos (by omega), g3]
end Go.Proofs.Ytohpboblmmbjnaa.P
/- How many lists odo's count tells: the multinomial, if it has no more than 64 bits. -/
namespace Go.Proofs.Ytohpboblmmbjnaa.P
open Go.RowKit Go.Proofs.YtohpboblmmbjnaaW.PrintWords Go.Proofs.YtohpboblmmbjnaaW.PrintMore Go.Proofs.Odo

/-- Natural numbers as the program's. -/
def ints (w : List Nat) : List Int := w.map Int.ofNat
theorem ints_length (w : List Nat) : (ints w).length = w.length := by simp [ints]
theorem rd_ints (w : List Nat) (i : Nat) : rd (ints w) i = (w.getD i 0 : Nat) := by
  unfold rd ints
  rw [Int.toNat_natCast, List.getD_eq_getElem?_getD, List.getElem?_map, List.getD_eq_getElem?_getD]
  cases w[i]? <;> rfl
theorem w64 {x : Int} (h0 : -9223372036854775808 ≤ x) (h1 : x < 9223372036854775808) : wrap64 x = x := by unfold wrap64; omega
theorem ch_mono_le (a : Nat) {i j : Nat} (h : i ≤ j) : ch (a + i) i ≤ ch (a + j) j := by
  induction j with
  | zero => obtain rfl : i = 0 := by omega
            exact Nat.le_refl _
  | succ j ih =>
    rcases Nat.lt_or_ge j i with hj | hj
    · obtain rfl : i = j + 1 := by omega
      exact Nat.le_refl _
    · exact Nat.le_trans (ih hj) (ch_mono a j)

theorem count_row (B a L : Nat) (w : List Int) (len j : Int) (haL : a + L ≤ 64) (r : Int × Bool)
    (hgo : B * ch (a + L) L < 18446744073709551616 → Ev (fun k => odo_weaves_count.l0 k ((B * ch (a + L) L : Nat) : Int) ((a + L : Nat) : Int) w len (wrap64 (j + 1))) r)
    (hno : 18446744073709551616 ≤ B * ch (a + L) L → r = (0, false)) :
    ∀ (d i : Nat), i + d = L → B * ch (a + i) i < 18446744073709551616 →
      Ev (fun k => odo_weaves_count.l1 k ((B * ch (a + i) i : Nat) : Int) (a : Int) (L : Int) ((i + 1 : Nat) : Int) w len j) r := by
  intro d
  induction d with
  | zero =>
    intro i hi hb
    obtain rfl : i = L := by omega
    refine Ev.step (fun k => ?_) (hgo hb)
    simp only [odo_weaves_count.l1]
    rw [if_neg (by omega), w64 (by omega) (by omega)]
    rfl
  | succ d ih =>
    intro i hi hb
    have hm := mul64_is (B * ch (a + i) i) (a + (i + 1)) hb (by omega)
    have hst : B * ch (a + i) i * (a + (i + 1)) = (B * ch (a + (i + 1)) (i + 1)) * (i + 1) := by
      have := ch_step a i
      rw [Nat.mul_assoc, Nat.mul_comm (ch (a + i) i), ← this, Nat.mul_assoc, Nat.mul_comm (i + 1)]
    rw [hst] at hm
    have hle : B * ch (a + (i + 1)) (i + 1) ≤ B * ch (a + L) L := Nat.mul_le_mul_left _ (ch_mono_le a (by omega))
    have e1 : IntKind.u64.wrap (wrap64 ((a : Int) + ((i + 1 : Nat) : Int))) = ((a + (i + 1) : Nat) : Int) := by
      rw [w64 (by omega) (by omega), u64_wrap (by omega) (by omega)]; omega
    have e2 : IntKind.u64.wrap ((i + 1 : Nat) : Int) = ((i + 1 : Nat) : Int) := u64_wrap (by omega) (by omega)
    obtain ⟨X, hX⟩ : ∃ X, B * ch (a + (i + 1)) (i + 1) = X := ⟨_, rfl⟩
    rw [hX] at hm hle hst
    have hdm := Nat.div_add_mod (X * (i + 1)) 18446744073709551616
    by_cases hov : i + 1 ≤ X * (i + 1) / 18446744073709551616
    · have hX64 : 18446744073709551616 ≤ X := by
        rcases Nat.lt_or_ge X 18446744073709551616 with h | h
        · exfalso
          have h1 : X * (i + 1) < 18446744073709551616 * (i + 1) := Nat.mul_lt_mul_of_pos_right h (by omega)
          have h2 := (Nat.div_lt_iff_lt_mul (show 0 < 18446744073709551616 by decide)).2 (show X * (i + 1) < (i + 1) * 18446744073709551616 by rw [Nat.mul_comm (i + 1)]; exact h1)
          omega
        · exact h
      obtain rfl := hno (by omega)
      refine Ev.step (fun k => ?_) (Ev.now (0, false))
      simp only [odo_weaves_count.l1]
      rw [if_pos (by omega), e1, e2, hm]
      simp only [Option.bind_some]
      rw [if_pos (Int.ofNat_le.2 hov)]
    · have hX64 : X < 18446744073709551616 := by
        rcases Nat.lt_or_ge X 18446744073709551616 with h | h
        · exact h
        · exfalso
          apply hov
          refine (Nat.le_div_iff_mul_le (by decide)).2 ?_
          rw [Nat.mul_comm]
          exact Nat.mul_le_mul_right _ h
      obtain ⟨q, hdiv⟩ := div64_is (X * (i + 1) / 18446744073709551616) (X * (i + 1) % 18446744073709551616) (i + 1) (Nat.mod_lt _ (by decide)) (by omega) (by omega)
      have hq : (X * (i + 1) / 18446744073709551616 * 18446744073709551616 + X * (i + 1) % 18446744073709551616) / (i + 1) = X := by
        rw [Nat.mul_comm (X * (i + 1) / 18446744073709551616), hdm, Nat.mul_div_cancel _ (by omega)]
      rw [hq] at hdiv
      have hih := ih (i + 1) (by omega) (by rw [hX]; exact hX64)
      rw [hX] at hih
      have hev : Ev (fun k => (bits_Div64.f k ((X * (i + 1) / 18446744073709551616 : Nat) : Int) ((X * (i + 1) % 18446744073709551616 : Nat) : Int) ((i + 1 : Nat) : Int))) (((X : Nat) : Int), q) := by
        refine ⟨5, fun k hk => ?_⟩
        obtain ⟨m, rfl⟩ : ∃ m, k = m + 5 := ⟨k - 5, by omega⟩
        exact hdiv m
      refine Ev.step (fun k => ?_) (Ev.bind hev (f := fun k bt => odo_weaves_count.l1 k bt.1 (a : Int) (L : Int) ((i + 1 + 1 : Nat) : Int) w len j) hih)
      simp only [odo_weaves_count.l1]
      rw [if_pos (by omega), e1, e2, hm]
      simp only [Option.bind_some]
      rw [if_neg (by intro h; exact hov (Int.ofNat_le.1 h)), show wrap64 (((i + 1 : Nat) : Int) + 1) = ((i + 1 + 1 : Nat) : Int) by rw [w64 (by omega) (by omega)]; omega]

/-- What count answers. -/
def countRes (w : List Nat) : Int × Bool := if mc w < 18446744073709551616 then (((mc w : Nat) : Int), true) else (0, false)

theorem take_snoc_nat (w : List Nat) (j : Nat) (hj : j < w.length) : w.take (j + 1) = w.take j ++ [w.getD j 0] := by
  rw [List.take_succ_eq_append_getElem hj]
  simp [List.getD_eq_getElem?_getD, List.getElem?_eq_getElem hj]
theorem mc_take_le (w : List Nat) (j : Nat) : mc (w.take j) ≤ mc w := by
  have h := mcA_append 0 (w.take j) (w.drop j)
  rw [List.take_append_drop] at h
  unfold mc
  rw [h]
  exact Nat.le_mul_of_pos_right _ (mcA_pos _ _)
theorem sum_take_le (w : List Nat) (j : Nat) : (w.take j).sum ≤ w.sum := by
  have h : (w.take j ++ w.drop j).sum = w.sum := by rw [List.take_append_drop]
  rw [List.sum_append] at h
  omega

theorem count_list (w : List Nat) (hw : w.sum ≤ 64) (hl : w.length ≤ 9223372036854775806) : ∀ (d j : Nat), j + d = w.length → mc (w.take j) < 18446744073709551616 →
    Ev (fun k => odo_weaves_count.l0 k ((mc (w.take j) : Nat) : Int) (((w.take j).sum : Nat) : Int) (ints w) (w.length : Int) (j : Int)) (countRes w) := by
  intro d
  induction d with
  | zero =>
    intro j hj hb
    have ht : w.take j = w := List.take_of_length_le (by omega)
    rw [ht] at hb ⊢
    refine Ev.step (fun k => ?_) (Ev.now _)
    simp only [odo_weaves_count.l0]
    rw [if_neg (by omega)]
    unfold countRes
    rw [if_pos hb]
  | succ d ih =>
    intro j hj hb
    have hjl : j < w.length := by omega
    have hts := take_snoc_nat w j hjl
    have hmc : mc (w.take (j + 1)) = mc (w.take j) * ch ((w.take j).sum + w.getD j 0) (w.getD j 0) := by rw [hts, mc_snoc]
    have hsum : (w.take (j + 1)).sum = (w.take j).sum + w.getD j 0 := by rw [hts]; simp
    have hsl := sum_take_le w (j + 1)
    have hrow := count_row (mc (w.take j)) (w.take j).sum (w.getD j 0) (ints w) (w.length : Int) (j : Int) (by omega) (countRes w)
      (by
        intro hlt
        have := ih (j + 1) (by omega) (by rw [hmc]; exact hlt)
        rw [hmc, hsum] at this
        rw [w64 (by omega) (by omega)]
        exact this)
      (by
        intro hge
        unfold countRes
        rw [if_neg (by have := mc_take_le w (j + 1); rw [hmc] at this; omega)])
      (w.getD j 0) 0 (by omega) (by rw [ch_zero, Nat.mul_one]; exact hb)
    rw [ch_zero, Nat.mul_one] at hrow
    refine Ev.step (fun k => ?_) hrow
    simp only [odo_weaves_count.l0]
    rw [if_pos (by omega), if_pos (by omega), if_pos (by rw [ints_length]; omega), rd_ints]
    rfl

theorem count_is (w : List Nat) (hw : w.sum ≤ 64) (hl : w.length ≤ 9223372036854775806) : Ev (fun k => odo_weaves_count.f k (ints w)) (countRes w) := by
  have h := count_list w hw hl w.length 0 (by omega) (by simp [mc, mcA])
  refine Ev.congr (fun k => ?_) h
  unfold odo_weaves_count.f
  rw [ints_length]
  simp [mc, mcA]
end Go.Proofs.Ytohpboblmmbjnaa.P
