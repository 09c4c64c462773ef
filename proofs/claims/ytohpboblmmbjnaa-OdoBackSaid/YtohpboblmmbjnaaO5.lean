/- The contracts of At and Rank of odo's spaces: weaves. -/
import Derived.Test.YtohpboblmmbjnaaO3
import Derived.Test.YtohpboblmmbjnaaWat
namespace Go.Proofs.Ytohpboblmmbjnaa.P
open Go Go.RowKit Go.Proofs.YtohpboblmmbjnaaW.PrintWords Go.Proofs.YtohpboblmmbjnaaW.PrintLast Go.Proofs.YtohpboblmmbjnaaW.PrintMore Go.Proofs.Odo

set_option maxHeartbeats 1000000 in
set_option maxRecDepth 100000 in
theorem odo_At_weaves.calls (k : Nat) (vl L : List Nat) (hb1 : vl.sum ≤ 64) (hb2 : vl.length ≤ 64) (r1 : Int) (r2 : Bool) (n : Int) (v : Value) (w : World) (hs : SpAt 82 w v (ints vl)) (h : odo_weaves_count.f k (ints vl) = some (r1, r2))
    (ha : r2 = true → n < r1 → mc vl < 18446744073709551616 ∧ Is vl L ∧ n = ((rank vl L : Nat) : Int)) :
    Calls Try.prog 11 #[v, .int .u64 n] w fun e w' => ∃ v1 : Value, e = .returned (.tuple #[v1, .int .i64 (atRes r1 r2 n (ints L)).2]) ∧ Kd.R (Kd.int .i64) 3 w' w.heap.size (fun _ => True) v1 (atRes r1 r2 n (ints L)).1 ∧ Below w.heap.size w w' := by
  have HS := Aside0.mk hs
  have HB1 := Aside0.mk hb1
  have HB2L := Aside0.mk hb2
  clear hb1 hb2
  obtain ⟨g, A, c, rfl, hg, hc, hC⟩ := hs
  have HC := Aside0.mk hC
  have HL := Aside0.mk hc
  have H := Aside0.mk h
  have HA := Aside0.mk ha
  clear hC hc h ha
  have hm := (m82 A (ints vl).length c).2.1
  cases r2 with
  | true =>
    by_cases hn : r1 ≤ n
    · have hr : atRes r1 true n (ints L) = ([], 3) := by unfold atRes; rw [if_pos rfl, if_pos hn]
      rw [hr]
      clear hr
      have hb : decide (r1 ≤ n) = true := decide_eq_true hn
      clear hn
      go_enter Try.func11, Try.ntmps11
      go_wp2_with (go_at_call 9; refine (odo_Len_weaves.calls k (ints vl) r1 true _ w HS.out H.out).mono ?_; rw [if_pos rfl, if_pos rfl]; rintro e w1 ⟨rfl, ⟨nd, rfl⟩⟩)
      go_ret2
      exact ⟨_, rfl, Kd.R_nil _ _ _ _ _, by repeat (first | exact Below.refl _ _ | refine pw_below_drewN ?_ _ | refine below_drew ?_)⟩
    · have hr : atRes r1 true n (ints L) = (ints L, 0) := by unfold atRes; rw [if_pos rfl, if_neg hn]
      rw [hr]
      clear hr
      have hX := HA.out rfl (by omega)
      obtain ⟨hX1, hX2, rfl⟩ := hX
      have HX := Aside0.mk (And.intro hX1 hX2)
      have hb : decide (r1 ≤ ((rank vl L : Nat) : Int)) = false := decide_eq_false hn
      clear hn hX1 hX2 HA
      go_enter Try.func11, Try.ntmps11
      go_wp2_with (first | (go_at_call 9; refine (odo_Len_weaves.calls k (ints vl) r1 true _ w HS.out H.out).mono ?_; rw [if_pos rfl, if_pos rfl]; rintro e w1 ⟨rfl, ⟨nd, rfl⟩⟩) | (go_at_call 68; refine (weaves_at.calls vl L A c _ (Kd.C_drewN HC.out _) HL.out HB1.out HB2L.out HX.out.1 HX.out.2).mono ?_; rintro e w2 ⟨v2, rfl, hR2, hB2⟩; replace hR2 := Kd.R_of_own (e := 3) (ok := fun _ => True) (h1 := fun _ => rfl) (enc := Value.int .i64) (xs := ints L) (by rw [ints_length]; exact hR2) (fun _ _ => trivial); have HR2 := Aside0.mk hR2; have HB2 := Aside0.mk hB2; clear hR2 hB2))
      go_ret2
      exact ⟨_, rfl, HR2.out, below_then (pw_below_drewN (Below.refl _ _) _) (Nat.le_refl _) HB2.out⟩
  | false =>
    have hr : atRes r1 false n (ints L) = ([], 30) := rfl
    rw [hr]
    clear hr
    go_enter Try.func11, Try.ntmps11
    go_wp2_with (go_at_call 9; refine (odo_Len_weaves.calls k (ints vl) r1 false _ w HS.out H.out).mono ?_; rw [if_neg (by decide), if_neg (by decide)]; rintro e w1 ⟨rfl, ⟨nd, rfl⟩⟩)
    go_ret2
    exact ⟨_, rfl, Kd.R_nil _ _ _ _ _, by repeat (first | exact Below.refl _ _ | refine pw_below_drewN ?_ _ | refine below_drew ?_)⟩

set_option maxHeartbeats 1000000 in
set_option maxRecDepth 100000 in
theorem odo_Rank_weaves.calls (k : Nat) (vl : List Nat) (hb1 : vl.sum ≤ 64) (hb2 : vl.length ≤ 64) (r1 : Int) (r2 : Bool) (A1 : Option Addr) (c1 : Nat) (xs : List Int) (hxs : xs.length < 9223372036854775807) (q : Int) (ok : Bool) (v : Value) (w : World) (hs : SpAt 82 w v (ints vl)) (h : odo_weaves_count.f k (ints vl) = some (r1, r2))
    (hr1 : Kd.C (Kd.int .i64) w A1 xs.length xs) (hc1 : xs.length ≤ c1) (ha : r2 = true → mc vl < 18446744073709551616 ∧ q = (((rankW vl xs 0).1 : Nat) : Int) ∧ ok = (rankW vl xs 0).2) :
    Calls Try.prog 14 #[v, .slice A1 xs.length c1] w fun e w' => e = .returned (.tuple #[.int .u64 (rankRes r2 q ok).1, .int .i64 (rankRes r2 q ok).2]) ∧ Below w.heap.size w w' := by
  have HS := Aside0.mk hs
  have HB1 := Aside0.mk hb1
  have HB2L := Aside0.mk hb2
  clear hb1 hb2
  obtain ⟨g, A, c, rfl, hg, hc, hC⟩ := hs
  have HC := Aside0.mk hC
  have HL := Aside0.mk hc
  have H := Aside0.mk h
  have HA := Aside0.mk ha
  have HXS := Aside0.mk hxs
  clear hxs
  have HR1 := Aside0.mk hr1
  have HC1 := Aside0.mk hc1
  clear hC hc h ha hr1 hc1
  have hm := (m82 A (ints vl).length c).2.2
  cases r2 with
  | true =>
    have HX := Aside0.mk (HA.out rfl)
    clear HA
    cases ok with
    | true =>
      have hr : rankRes true q true = (q, 0) := rfl
      rw [hr]
      clear hr
      go_enter Try.func14, Try.ntmps14
      go_wp2_with (first | (go_at_call 9; refine (odo_Len_weaves.calls k (ints vl) r1 true _ w HS.out H.out).mono ?_; rw [if_pos rfl, if_pos rfl]; rintro e w1 ⟨rfl, ⟨nd, rfl⟩⟩) | (go_at_call 72; refine (weaves_rank.calls vl A c A1 c1 xs _ (Kd.C_drewN HC.out _) HL.out (Kd.C_drewN HR1.out _) HC1.out HB1.out HB2L.out HX.out.1 HXS.out).mono ?_; rintro e w2 ⟨rfl, hB2⟩; rw [← HX.out.2.2, ← HX.out.2.1]; have HB2 := Aside0.mk hB2; clear hB2))
      go_ret2
      exact ⟨rfl, below_then (pw_below_drewN (Below.refl _ _) _) (Nat.le_refl _) HB2.out⟩
    | false =>
      have hr : rankRes true q false = (0, 3) := rfl
      rw [hr]
      clear hr
      go_enter Try.func14, Try.ntmps14
      go_wp2_with (first | (go_at_call 9; refine (odo_Len_weaves.calls k (ints vl) r1 true _ w HS.out H.out).mono ?_; rw [if_pos rfl, if_pos rfl]; rintro e w1 ⟨rfl, ⟨nd, rfl⟩⟩) | (go_at_call 72; refine (weaves_rank.calls vl A c A1 c1 xs _ (Kd.C_drewN HC.out _) HL.out (Kd.C_drewN HR1.out _) HC1.out HB1.out HB2L.out HX.out.1 HXS.out).mono ?_; rintro e w2 ⟨rfl, hB2⟩; rw [← HX.out.2.2, ← HX.out.2.1]; have HB2 := Aside0.mk hB2; clear hB2))
      go_ret2
      exact ⟨rfl, below_then (pw_below_drewN (Below.refl _ _) _) (Nat.le_refl _) HB2.out⟩
  | false =>
    have hr : rankRes false q ok = (0, 30) := rfl
    rw [hr]
    clear hr
    go_enter Try.func14, Try.ntmps14
    go_wp2_with (go_at_call 9; refine (odo_Len_weaves.calls k (ints vl) r1 false _ w HS.out H.out).mono ?_; rw [if_neg (by decide), if_neg (by decide)]; rintro e w1 ⟨rfl, ⟨nd, rfl⟩⟩)
    go_ret2
    exact ⟨rfl, by repeat (first | exact Below.refl _ _ | refine pw_below_drewN ?_ _ | refine below_drew ?_)⟩
end Go.Proofs.Ytohpboblmmbjnaa.P
