/- The contracts of odo's makers of spaces, and of Len: what a space's pointer leads to. -/
import Derived.Test.YtohpboblmmbjnaaP6
import Derived.Test.YtohpboblmmbjnaaP7
namespace Go.Proofs.Ytohpboblmmbjnaa.P
open Go.RowKit Go.Proofs.YtohpboblmmbjnaaW.PrintWords Go.Proofs.YtohpboblmmbjnaaW.PrintLast Go.Proofs.YtohpboblmmbjnaaW.PrintMore

/-- A pointer to a space of a kind (its type's number) with some sizes or lengths. -/
def SpAt (T : Nat) (w : World) (v : Value) (l : List Int) : Prop :=
  ∃ (g : Nat) (A : Option Addr) (c : Nat), v = .pointer (some ⟨g, 0, none⟩) ∧ w.cell? ⟨g, 0, none⟩ = some (.iface T (.slice A l.length c)) ∧ l.length ≤ c ∧ Kd.C (Kd.int .i64) w A l.length l
theorem SpAt.below {T : Nat} {w w1 : World} {v : Value} {l : List Int} (h : SpAt T w v l) (hb : Below w.heap.size w w1) : SpAt T w1 v l := by
  obtain ⟨g, A, c, h1, h2, h3, h4⟩ := h
  exact ⟨g, A, c, h1, pw_cell_below hb h2, h3, Kd.C_below h4 hb⟩
theorem SpAt.made {T c : Nat} {w : World} {A : Option Addr} {l : List Int} (hc : l.length ≤ c) (h : Kd.C (Kd.int .i64) w A l.length l) :
    SpAt T (w.alloc (.cells #[.iface T (.slice A l.length c)] 67)) (.pointer (some ⟨w.heap.size, 0, none⟩)) l :=
  ⟨w.heap.size, A, c, rfl, by rw [World.cell?_alloc_new]; rfl, hc, Kd.C_below h (below_alloc (Below.refl _ _) _)⟩
/-- The same, or nil. -/
def SpO (T : Nat) (w : World) (v : Value) : Option (List Int) → Prop
  | none => v = .pointer none
  | some l => SpAt T w v l
theorem SpO.below {T : Nat} {w w1 : World} {v : Value} {o : Option (List Int)} (h : SpO T w v o) (hb : Below w.heap.size w w1) : SpO T w1 v o := by
  cases o with
  | none => exact h
  | some l => exact SpAt.below h hb

/-- Is a number negative? -/
def anyNeg (l : List Int) : Bool := l.any fun x => decide (x < 0)
theorem anyNeg_take {l : List Int} {k : Nat} (hk : k < l.length) : anyNeg (l.take (k + 1)) = (anyNeg (l.take k) || decide (rd l k < 0)) := by
  unfold anyNeg
  rw [List.take_succ_eq_append_getElem hk, List.any_append]
  simp [rd, List.getD_eq_getElem?_getD, List.getElem?_eq_getElem hk]
theorem anyNeg_more {l : List Int} {k : Nat} (h : anyNeg (l.take k) = true) : anyNeg l = true := by
  obtain ⟨x, hx, hq⟩ := List.any_eq_true.1 h
  exact List.any_eq_true.2 ⟨x, List.mem_of_mem_take hx, hq⟩

def odo_Product.f (l : List Int) : Option (List Int) × Int := if 64 < l.length then (none, 1) else if anyNeg l = true then (none, 4) else (some l, 0)

set_option maxHeartbeats 2000000 in
set_option maxRecDepth 100000 in
theorem odo_Product.calls (A0 : Option Addr) (c0 : Nat) (l0 : List Int) (w : World) (hr0 : Kd.C (Kd.int .i64) w A0 l0.length l0) (hc0 : l0.length ≤ c0) :
    Calls Try.prog 18 #[.slice A0 l0.length c0] w fun e w' => ∃ v, e = .returned (.tuple #[v, .int .i64 (odo_Product.f l0).2]) ∧ SpO 80 w' v (odo_Product.f l0).1 ∧ Below w.heap.size w w' := by
  have HR0 := Aside0.mk hr0
  have HC0 := Aside0.mk hc0
  clear hr0 hc0
  by_cases h64 : 64 < l0.length
  · have hf : odo_Product.f l0 = (none, 1) := by unfold odo_Product.f; rw [if_pos h64]
    rw [hf]
    clear hf
    have c3b0 : decide (64 < (l0.length : Int)) = true := decide_eq_true (by omega)
    go_enter Try.func18, Try.ntmps18
    go_wp2
    go_ret2
    exact ⟨_, rfl, rfl, Below.refl _ _⟩
  · have c3b0 : decide (64 < (l0.length : Int)) = false := decide_eq_false (by omega)
    have hlen : l0.length ≤ 64 := by omega
    have h64' := Aside0.mk h64
    clear h64
    go_enter Try.func18, Try.ntmps18
    go_wp2
    go_loop [11] (fun i => ∃ k : Nat, k ≤ l0.length ∧ i = .int .i64 k ∧ Aside0 (anyNeg (l0.take k) = false)) (fun i => l0.length - (intOf i).toNat)
    case atStart => exact ⟨0, by omega, rfl, ⟨by simp [anyNeg]⟩⟩
    case round =>
      obtain ⟨k, hk, rfl, ha⟩ := hrel
      by_cases hlt : k < l0.length
      · obtain ⟨ad256, e256, hx256_0⟩ := Kd.at_int HR0.out k (by omega) (by omega)
        cases e256
        rw [Int.toNat_natCast] at hx256_0
        have hs := anyNeg_take hlt
        rw [ha.out, Bool.false_or] at hs
        by_cases hn : rd l0 k < 0
        · have hfin : Aside0 (odo_Product.f l0 = (none, 4)) := ⟨by
            unfold odo_Product.f
            rw [if_neg h64'.out, if_pos (anyNeg_more (k := k + 1) (by rw [hs]; exact decide_eq_true hn))]⟩
          clear hs
          have hnb : decide (rd l0 k < 0) = true := decide_eq_true hn
          clear hn
          go_wp2
          go_ret2
          rw [hfin.out]
          exact ⟨_, rfl, rfl, Below.refl _ _⟩
        · have hs' : Aside0 (anyNeg (l0.take (k + 1)) = false) := ⟨by rw [hs]; exact decide_eq_false hn⟩
          clear hs
          have hnb : decide (rd l0 k < 0) = false := decide_eq_false hn
          clear hn
          go_wp2
          go_round
          case rel => exact ⟨k + 1, by omega, by go_num, hs'⟩
          case measure => simp [intOf]; omega
      · have hge : l0.length ≤ k := by omega
        have hfin : Aside0 (odo_Product.f l0 = (some l0, 0)) := ⟨by
          unfold odo_Product.f
          have := ha.out
          rw [List.take_of_length_le hge] at this
          rw [if_neg h64'.out, if_neg (by rw [this]; decide)]⟩
        clear ha hlt h64'
        have hcl : Aside0 (slices_Clone_int_int.f l0 = some l0) := ⟨by
          unfold slices_Clone_int_int.f
          simp only [Option.bind_some, List.length_nil, List.nil_append]
          rw [if_pos (by omega)]⟩
        go_wp2_with (go_at_call 32; refine (slices_Clone_int_int.calls A0 c0 l0 l0 _ HR0.out HC0.out hcl.out).mono ?_; rintro e w1 ⟨v1, rfl, hR1, hB1⟩)
        have hz := hB1.size
        obtain ⟨A1, c1, rfl, hc1, hC1⟩ := Kd.R_reads hR1
        have HC1 := Aside0.mk hC1
        have HL1 := Aside0.mk hc1
        have HB1 := Aside0.mk hB1
        clear hC1 hc1 hB1 hR1
        go_wp2
        go_ret2
        rw [hfin.out]
        exact ⟨_, rfl, SpAt.made HL1.out HC1.out, HB1.out.alloc hz _⟩
theorem sum_take {l : List Int} {k : Nat} (hk : k < l.length) : (l.take (k + 1)).sum = (l.take k).sum + rd l k := by
  rw [List.take_succ_eq_append_getElem hk, List.sum_append]
  simp [rd, List.getD_eq_getElem?_getD, List.getElem?_eq_getElem hk]
theorem sum_nonneg {l : List Int} (h : anyNeg l = false) : 0 ≤ l.sum := by
  induction l with
  | nil => simp
  | cons x l ih =>
    unfold anyNeg at h ih
    rw [List.any_cons, Bool.or_eq_false_iff] at h
    have h1 := of_decide_eq_false h.1
    have h2 := ih h.2
    rw [List.sum_cons]
    omega
theorem anyNeg_split {l : List Int} (h : anyNeg l = false) (k : Nat) : anyNeg (l.take k) = false ∧ anyNeg (l.drop k) = false := by
  unfold anyNeg at *
  rw [← List.take_append_drop k l, List.any_append, Bool.or_eq_false_iff] at h
  exact h
theorem sum_le {l : List Int} (h : anyNeg l = false) (k : Nat) : 0 ≤ (l.take k).sum ∧ (l.take k).sum ≤ l.sum := by
  have h1 := sum_nonneg (anyNeg_split h k).1
  have h2 := sum_nonneg (anyNeg_split h k).2
  have h3 : (l.take k ++ l.drop k).sum = l.sum := by rw [List.take_append_drop]
  rw [List.sum_append] at h3
  omega
def odo_Weaves.f (l : List Int) : Option (List Int) × Int := if 64 < l.length then (none, 1) else if anyNeg l = true then (none, 4) else if 64 < l.sum then (none, 1) else (some l, 0)

set_option maxHeartbeats 2000000 in
set_option maxRecDepth 100000 in
theorem odo_Weaves.calls (A0 : Option Addr) (c0 : Nat) (l0 : List Int) (w : World) (hr0 : Kd.C (Kd.int .i64) w A0 l0.length l0) (hc0 : l0.length ≤ c0) :
    Calls Try.prog 26 #[.slice A0 l0.length c0] w fun e w' => ∃ v, e = .returned (.tuple #[v, .int .i64 (odo_Weaves.f l0).2]) ∧ SpO 82 w' v (odo_Weaves.f l0).1 ∧ Below w.heap.size w w' := by
  have HR0 := Aside0.mk hr0
  have HC0 := Aside0.mk hc0
  clear hr0 hc0
  by_cases h64 : 64 < l0.length
  · have hf : odo_Weaves.f l0 = (none, 1) := by unfold odo_Weaves.f; rw [if_pos h64]
    rw [hf]
    clear hf
    have c3b0 : decide (64 < (l0.length : Int)) = true := decide_eq_true (by omega)
    go_enter Try.func26, Try.ntmps26
    go_wp2
    go_ret2
    exact ⟨_, rfl, rfl, Below.refl _ _⟩
  · have c3b0 : decide (64 < (l0.length : Int)) = false := decide_eq_false (by omega)
    have hlen : l0.length ≤ 64 := by omega
    have h64' := Aside0.mk h64
    clear h64
    go_enter Try.func26, Try.ntmps26
    go_wp2
    go_loop [14] (fun i => ∃ k : Nat, k ≤ l0.length ∧ i = .int .i64 k ∧ Aside0 (anyNeg (l0.take k) = false)) (fun i => l0.length - (intOf i).toNat)
    case atStart => exact ⟨0, by omega, rfl, ⟨by simp [anyNeg]⟩⟩
    case round =>
      obtain ⟨k, hk, rfl, ha⟩ := hrel
      by_cases hlt : k < l0.length
      · obtain ⟨ad256, e256, hx256_0⟩ := Kd.at_int HR0.out k (by omega) (by omega)
        cases e256
        rw [Int.toNat_natCast] at hx256_0
        have hs := anyNeg_take hlt
        rw [ha.out, Bool.false_or] at hs
        by_cases hn : rd l0 k < 0
        · have hfin : Aside0 (odo_Weaves.f l0 = (none, 4)) := ⟨by
            unfold odo_Weaves.f
            rw [if_neg h64'.out, if_pos (anyNeg_more (k := k + 1) (by rw [hs]; exact decide_eq_true hn))]⟩
          clear hs
          have hnb : decide (rd l0 k < 0) = true := decide_eq_true hn
          clear hn
          go_wp2
          go_ret2
          rw [hfin.out]
          exact ⟨_, rfl, rfl, Below.refl _ _⟩
        · have hs' : Aside0 (anyNeg (l0.take (k + 1)) = false) := ⟨by rw [hs]; exact decide_eq_false hn⟩
          clear hs
          have hnb : decide (rd l0 k < 0) = false := decide_eq_false hn
          clear hn
          go_wp2
          go_round
          case rel => exact ⟨k + 1, by omega, by go_num, hs'⟩
          case measure => simp [intOf]; omega
      · have hge : l0.length ≤ k := by omega
        have hnn : Aside0 (anyNeg l0 = false) := ⟨by
          have := ha.out
          rwa [List.take_of_length_le hge] at this⟩
        clear ha hlt
        go_wp2
        clear hge hk
        go_loop [6, 23] (fun s i => ∃ k : Nat, k ≤ l0.length ∧ i = .int .i64 k ∧ s = .int .i64 (l0.take k).sum ∧ Aside0 ((l0.take k).sum ≤ 64)) (fun _ i => l0.length - (intOf i).toNat)
        case atStart => exact ⟨0, by omega, rfl, by simp, ⟨by simp⟩⟩
        case round =>
          obtain ⟨k, hk, rfl, rfl, ha⟩ := hrel
          by_cases hlt : k < l0.length
          · obtain ⟨ad256, e256, hx256_0⟩ := Kd.at_int HR0.out k (by omega) (by omega)
            cases e256
            rw [Int.toNat_natCast] at hx256_0
            have hs := sum_take hlt
            have b1 := (sum_le hnn.out (k + 1)).1
            have b2 := sum_le hnn.out k
            have b3 := ha.out
            have b4 := (sum_le hnn.out (k + 1)).2
            obtain ⟨s, hse⟩ : ∃ s, (l0.take k).sum = s := ⟨_, rfl⟩
            obtain ⟨x, hxe⟩ : ∃ x, rd l0 k = x := ⟨_, rfl⟩
            rw [hse] at b2 b3 hs
            rw [hxe] at hs hx256_0
            have hx0 : 0 ≤ x := by
              have h1 := anyNeg_take hlt
              rw [(anyNeg_split hnn.out (k + 1)).1, (anyNeg_split hnn.out k).1, Bool.false_or] at h1
              have := of_decide_eq_false h1.symm
              omega
            have hs' := Aside0.mk hs
            rw [hs] at b1 b4
            clear hs
            rw [hse]
            clear hse hxe
            by_cases hn : 64 - s < x
            · have hfin : Aside0 (odo_Weaves.f l0 = (none, 1)) := ⟨by
                unfold odo_Weaves.f
                rw [if_neg h64'.out, if_neg (by rw [hnn.out]; decide), if_pos (by omega)]⟩
              have hnb : decide (64 - s < x) = true := decide_eq_true hn
              go_wp2
              go_ret2
              rw [hfin.out]
              exact ⟨_, rfl, rfl, Below.refl _ _⟩
            · have hnb : decide (64 - s < x) = false := decide_eq_false hn
              go_wp2
              go_round
              case rel => exact ⟨k + 1, by omega, by go_num, by rw [hs'.out], ⟨by rw [hs'.out]; omega⟩⟩
              case measure => simp [intOf]; omega
          · have hge : l0.length ≤ k := by omega
            have hfin : Aside0 (odo_Weaves.f l0 = (some l0, 0)) := ⟨by
              have := ha.out
              rw [List.take_of_length_le hge] at this
              unfold odo_Weaves.f
              rw [if_neg h64'.out, if_neg (by rw [hnn.out]; decide), if_neg (by omega)]⟩
            have hcl : Aside0 (slices_Clone_int_int.f l0 = some l0) := ⟨by
              unfold slices_Clone_int_int.f
              simp only [Option.bind_some, List.length_nil, List.nil_append]
              rw [if_pos (by omega)]⟩
            clear ha
            go_wp2_with (go_at_call 32; refine (slices_Clone_int_int.calls A0 c0 l0 l0 _ HR0.out HC0.out hcl.out).mono ?_; rintro e w1 ⟨v1, rfl, hR1, hB1⟩)
            have hz := hB1.size
            obtain ⟨A1, c1, rfl, hc1, hC1⟩ := Kd.R_reads hR1
            have HC1 := Aside0.mk hC1
            have HL1 := Aside0.mk hc1
            have HB1 := Aside0.mk hB1
            clear hC1 hc1 hB1 hR1
            go_wp2
            go_ret2
            rw [hfin.out]
            exact ⟨_, rfl, SpAt.made HL1.out HC1.out, HB1.out.alloc hz _⟩
end Go.Proofs.Ytohpboblmmbjnaa.P
