/- The contracts of At and Rank of odo's spaces, kind by kind. -/
import Derived.Test.YtohpboblmmbjnaaO2
namespace Go.Proofs.Ytohpboblmmbjnaa.P
open Go.RowKit Go.Proofs.YtohpboblmmbjnaaW.PrintWords Go.Proofs.YtohpboblmmbjnaaW.PrintLast Go.Proofs.YtohpboblmmbjnaaW.PrintMore

/-- What At answers, of a count and the list. -/
def atRes (r1 : Int) (r2 : Bool) (n : Int) (xs : List Int) : List Int × Int := if r2 = true then (if r1 ≤ n then ([], 3) else (xs, 0)) else ([], 30)
/-- What Rank answers, of a count and the list's number. -/
def rankRes (r2 : Bool) (q : Int) (ok : Bool) : Int × Int := if r2 = true then (if ok = true then (q, 0) else (0, 3)) else (0, 30)

set_option maxHeartbeats 1000000 in
set_option maxRecDepth 100000 in
theorem odo_At_product.calls (k : Nat) (l : List Int) (r1 : Int) (r2 : Bool) (n : Int) (xs : List Int) (v : Value) (w : World) (hs : SpAt 80 w v l) (h : odo_product_count.f k l = some (r1, r2))
    (ha : r2 = true → n < r1 → odo_product_at.f k l n = some xs) :
    Calls Try.prog 11 #[v, .int .u64 n] w fun e w' => ∃ v1 : Value, e = .returned (.tuple #[v1, .int .i64 (atRes r1 r2 n xs).2]) ∧ Kd.R (Kd.int .i64) 3 w' w.heap.size (fun _ => True) v1 (atRes r1 r2 n xs).1 ∧ Below w.heap.size w w' := by
  have HS := Aside0.mk hs
  obtain ⟨g, A, c, rfl, hg, hc, hC⟩ := hs
  have HC := Aside0.mk hC
  have HL := Aside0.mk hc
  have H := Aside0.mk h
  have HA := Aside0.mk ha
  clear hC hc h ha
  have hm := (m80 A l.length c).2.1
  cases r2 with
  | true =>
    by_cases hn : r1 ≤ n
    · have hr : atRes r1 true n xs = ([], 3) := by unfold atRes; rw [if_pos rfl, if_pos hn]
      rw [hr]
      clear hr
      have hb : decide (r1 ≤ n) = true := decide_eq_true hn
      clear hn
      go_enter Try.func11, Try.ntmps11
      go_wp2_with (go_at_call 9; refine (odo_Len_product.calls k l r1 true _ w HS.out H.out).mono ?_; rw [if_pos rfl, if_pos rfl]; rintro e w1 ⟨rfl, ⟨nd, rfl⟩⟩)
      go_ret2
      exact ⟨_, rfl, Kd.R_nil _ _ _ _ _, by repeat (first | exact Below.refl _ _ | refine pw_below_drewN ?_ _ | refine below_drew ?_)⟩
    · have hr : atRes r1 true n xs = (xs, 0) := by unfold atRes; rw [if_pos rfl, if_neg hn]
      rw [hr]
      clear hr
      have HX := Aside0.mk (HA.out rfl (by omega))
      have hb : decide (r1 ≤ n) = false := decide_eq_false hn
      clear hn
      go_enter Try.func11, Try.ntmps11
      go_wp2_with (first | (go_at_call 9; refine (odo_Len_product.calls k l r1 true _ w HS.out H.out).mono ?_; rw [if_pos rfl, if_pos rfl]; rintro e w1 ⟨rfl, ⟨nd, rfl⟩⟩) | (go_at_call 61; refine (odo_product_at.calls k A c l n xs _ (Kd.C_drewN HC.out _) HL.out HX.out).mono ?_; rintro e w2 ⟨v2, rfl, hR2, hB2⟩; have HR2 := Aside0.mk hR2; have HB2 := Aside0.mk hB2; clear hR2 hB2))
      go_ret2
      exact ⟨_, rfl, HR2.out, below_then (pw_below_drewN (Below.refl _ _) _) (Nat.le_refl _) HB2.out⟩
  | false =>
    have hr : atRes r1 false n xs = ([], 30) := rfl
    rw [hr]
    clear hr
    go_enter Try.func11, Try.ntmps11
    go_wp2_with (go_at_call 9; refine (odo_Len_product.calls k l r1 false _ w HS.out H.out).mono ?_; rw [if_neg (by decide), if_neg (by decide)]; rintro e w1 ⟨rfl, ⟨nd, rfl⟩⟩)
    go_ret2
    exact ⟨_, rfl, Kd.R_nil _ _ _ _ _, by repeat (first | exact Below.refl _ _ | refine pw_below_drewN ?_ _ | refine below_drew ?_)⟩

set_option maxHeartbeats 1000000 in
set_option maxRecDepth 100000 in
theorem odo_Rank_product.calls (k : Nat) (l : List Int) (r1 : Int) (r2 : Bool) (A1 : Option Addr) (c1 : Nat) (xs : List Int) (q : Int) (ok : Bool) (v : Value) (w : World) (hs : SpAt 80 w v l) (h : odo_product_count.f k l = some (r1, r2))
    (hr1 : Kd.C (Kd.int .i64) w A1 xs.length xs) (hc1 : xs.length ≤ c1) (ha : r2 = true → odo_product_rank.f k l xs = some (q, ok)) :
    Calls Try.prog 14 #[v, .slice A1 xs.length c1] w fun e w' => e = .returned (.tuple #[.int .u64 (rankRes r2 q ok).1, .int .i64 (rankRes r2 q ok).2]) ∧ Below w.heap.size w w' := by
  have HS := Aside0.mk hs
  obtain ⟨g, A, c, rfl, hg, hc, hC⟩ := hs
  have HC := Aside0.mk hC
  have HL := Aside0.mk hc
  have H := Aside0.mk h
  have HA := Aside0.mk ha
  have HR1 := Aside0.mk hr1
  have HC1 := Aside0.mk hc1
  clear hC hc h ha hr1 hc1
  have hm := (m80 A l.length c).2.2
  cases r2 with
  | true =>
    have HX := Aside0.mk (HA.out rfl)
    clear HA
    cases ok with
    | true =>
      have hr : rankRes true q true = (q, 0) := rfl
      rw [hr]
      clear hr
      go_enter Try.func14, Try.ntmps14
      go_wp2_with (first | (go_at_call 9; refine (odo_Len_product.calls k l r1 true _ w HS.out H.out).mono ?_; rw [if_pos rfl, if_pos rfl]; rintro e w1 ⟨rfl, ⟨nd, rfl⟩⟩) | (go_at_call 65; refine (odo_product_rank.calls k A c l A1 c1 xs q true _ (Kd.C_drewN HC.out _) HL.out (Kd.C_drewN HR1.out _) HC1.out HX.out).mono ?_; rintro e w2 ⟨rfl, hB2⟩; have HB2 := Aside0.mk hB2; clear hB2))
      go_ret2
      exact ⟨rfl, below_then (pw_below_drewN (Below.refl _ _) _) (Nat.le_refl _) HB2.out.below⟩
    | false =>
      have hr : rankRes true q false = (0, 3) := rfl
      rw [hr]
      clear hr
      go_enter Try.func14, Try.ntmps14
      go_wp2_with (first | (go_at_call 9; refine (odo_Len_product.calls k l r1 true _ w HS.out H.out).mono ?_; rw [if_pos rfl, if_pos rfl]; rintro e w1 ⟨rfl, ⟨nd, rfl⟩⟩) | (go_at_call 65; refine (odo_product_rank.calls k A c l A1 c1 xs q false _ (Kd.C_drewN HC.out _) HL.out (Kd.C_drewN HR1.out _) HC1.out HX.out).mono ?_; rintro e w2 ⟨rfl, hB2⟩; have HB2 := Aside0.mk hB2; clear hB2))
      go_ret2
      exact ⟨rfl, below_then (pw_below_drewN (Below.refl _ _) _) (Nat.le_refl _) HB2.out.below⟩
  | false =>
    have hr : rankRes false q ok = (0, 30) := rfl
    rw [hr]
    clear hr
    go_enter Try.func14, Try.ntmps14
    go_wp2_with (go_at_call 9; refine (odo_Len_product.calls k l r1 false _ w HS.out H.out).mono ?_; rw [if_neg (by decide), if_neg (by decide)]; rintro e w1 ⟨rfl, ⟨nd, rfl⟩⟩)
    go_ret2
    exact ⟨rfl, by repeat (first | exact Below.refl _ _ | refine pw_below_drewN ?_ _ | refine below_drew ?_)⟩
end Go.Proofs.Ytohpboblmmbjnaa.P
