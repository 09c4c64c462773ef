/- The contracts of Orders, of the statements' awake and weaves. -/
import Derived.Test.YtohpboblmmbjnaaRep
import Derived.Laws.Pointers
namespace Go.Proofs.Ytohpboblmmbjnaa.P
open Go.RowKit Go.Proofs.YtohpboblmmbjnaaW.PrintWords Go.Proofs.YtohpboblmmbjnaaW.PrintLast Go.Proofs.YtohpboblmmbjnaaW.PrintMore

/-- A list that has just been written out. -/
theorem lit_C (W : World) (xs : List Int) (h : xs.length ≤ 9223372036854775807) : Kd.C (Kd.int .i64) (W.alloc (.cells (nums .i64 xs).toArray 3)) (some ⟨W.heap.size, 0, none⟩) xs.length xs :=
  (Kd.R_reads' (d := Kd.int .i64) (Kd.R_of_own (ok := fun _ => True) (own_lit W 0 3 .i64 xs (Nat.zero_le _) h) (fun _ _ => trivial))).2.2

def odo_Orders.f (n : Int) : Option (List Int) × Int := if 0 ≤ n ∧ n ≤ 64 then (some (List.replicate n.toNat 1), 0) else (none, 4)

set_option maxHeartbeats 1000000 in
set_option maxRecDepth 100000 in
theorem odo_Orders.calls (n : Int) (w : World) :
    Calls Try.prog 19 #[.int .i64 n] w fun e w' => ∃ v, e = .returned (.tuple #[v, .int .i64 (odo_Orders.f n).2]) ∧ SpO 82 w' v (odo_Orders.f n).1 ∧ Below w.heap.size w w' := by
  by_cases h0 : n < 0
  · have hf : odo_Orders.f n = (none, 4) := by unfold odo_Orders.f; rw [if_neg (by omega)]
    rw [hf]
    clear hf
    have b0 : decide (n < 0) = true := decide_eq_true h0
    go_enter Try.func19, Try.ntmps19
    go_wp2
    go_ret2
    exact ⟨_, rfl, rfl, Below.refl _ _⟩
  · have b0 : decide (n < 0) = false := decide_eq_false h0
    by_cases h1 : 64 < n
    · have hf : odo_Orders.f n = (none, 4) := by unfold odo_Orders.f; rw [if_neg (by omega)]
      rw [hf]
      clear hf
      have b1 : decide (64 < n) = true := decide_eq_true h1
      go_enter Try.func19, Try.ntmps19
      go_wp2
      go_ret2
      exact ⟨_, rfl, rfl, Below.refl _ _⟩
    · have b1 : decide (64 < n) = false := decide_eq_false h1
      obtain ⟨m, rfl⟩ := Int.eq_ofNat_of_zero_le (show 0 ≤ n by omega)
      have hf : odo_Orders.f m = (some (List.replicate m 1), 0) := by unfold odo_Orders.f; rw [if_pos (by omega)]; rfl
      rw [hf]
      clear hf
      have hm : m ≤ 64 := by omega
      have hC := Aside0.mk (lit_C w [1] (by decide))
      go_enter Try.func19, Try.ntmps19
      go_wp2_with (go_at_call 33; refine (slices_Repeat_one 1 m hm _ _ _ hC.out).mono ?_; rintro e w1 ⟨v1, rfl, hR1, hB1⟩)
      have hz := hB1.size
      obtain ⟨A1, c1, rfl, hc1, hC1⟩ := Kd.R_reads hR1
      have HC1 := Aside0.mk hC1
      have HL1 := Aside0.mk hc1
      have HB1 := Aside0.mk (below_then (below_alloc (Below.refl _ w) _) (by simp) hB1)
      clear hC1 hc1 hB1 hR1
      go_wp2
      go_ret2
      exact ⟨_, rfl, SpAt.made HL1.out HC1.out, HB1.out.alloc (by simp at hz; omega) _⟩

theorem pt26 : Try.prog.underlying 26 = some (.pointer (Try.prog.pointee 26)) := by unfold Program.pointee; rw [Try.underlying26]
/-- A pointer held against nil. -/
theorem ptr26 : (∀ (op : BinOp) (W : World) (p q : Option Addr) (x y : Operand), (eqGuard op 26 x y (.pointer p) (.pointer q)).run Try.prog W = .ok () W) ∧
    (∀ (W : World) (p : Option Addr), (binOp .eql 26 (.pointer p) (.pointer none)).run Try.prog W = .ok (.bool p.isNone) W) ∧
    (∀ (W : World) (p : Option Addr), (binOp .neq 26 (.pointer p) (.pointer none)).run Try.prog W = .ok (.bool (!p.isNone)) W) :=
  ⟨fun op W p q x y => by cases op <;> rfl, fun W p => run_eql_pointer_nil W 26 p pt26, fun W p => run_neq_pointer_nil W 26 p pt26⟩
theorem aw_count : odo_product_count.f 10 [2, 3] = some (6, true) := by decide +kernel
theorem aw_at : odo_product_at.f 10 [2, 3] 4 = some [1, 1] := by decide +kernel
theorem aw_rank : odo_product_rank.f 10 [2, 3] [1, 2] = some (5, true) := by decide +kernel
theorem aw_same : weirlaw01_SameInts.f 10 [1, 1] [1, 1] = some true := by decide +kernel
theorem aw_prod : odo_Product.f [2, 3] = (some [2, 3], 0) := by decide +kernel
theorem aw_atRes : atRes 6 true 4 [1, 1] = ([1, 1], 0) := by decide +kernel
theorem aw_rankRes : rankRes true 5 true = (5, 0) := by decide +kernel

set_option maxHeartbeats 2000000 in
set_option maxRecDepth 100000 in
theorem awake.calls (w : World) : Calls Try.prog 16 #[] w fun e w' => e = .returned (.bool true) ∧ Below w.heap.size w w' := by
  obtain ⟨g26, e26, n26⟩ := ptr26
  have hC0 := Aside0.mk (lit_C w [2, 3] (by decide))
  go_enter Try.func16, Try.ntmps16
  go_wp2_with (first
    | (go_at_call 18; refine (odo_Product.calls _ 2 [2, 3] _ hC0.out (by decide)).mono ?_; rw [aw_prod]; rintro e w1 ⟨v1, rfl, hS1, hB1⟩; have HB1 := Aside0.mk (below_then (below_alloc (Below.refl _ w) _) (by simp) hB1); have HS1 := Aside0.mk hS1; clear hB1 hC0; obtain ⟨g, A, c, rfl, hg, _, _⟩ := hS1; clear hg)
    | (go_at_call 11; refine (odo_At_product.calls 10 [2, 3] 6 true 4 [1, 1] _ _ HS1.out aw_count (fun _ _ => aw_at)).mono ?_; rw [aw_atRes]; rintro e w2 ⟨v2, rfl, hR2, hB2⟩; have HB2 := Aside0.mk (below_then HB1.out HB1.out.size hB2); have HS2 := Aside0.mk (HS1.out.below hB2); have HR2 := Aside0.mk hR2; have hz2 := HB2.out.size; clear hR2 hB2 HS1 HB1; have hC1 := Aside0.mk (lit_C w2 [1, 2] (by decide)))
    | (go_at_call 14; refine (odo_Rank_product.calls 10 [2, 3] 6 true _ 2 [1, 2] 5 true _ _ (HS2.out.below (below_alloc (Below.refl _ _) _)) aw_count hC1.out (by decide) (fun _ => aw_rank)).mono ?_; rw [aw_rankRes]; rintro e w3 ⟨rfl, hB3⟩; have HB3 := Aside0.mk (below_then (below_alloc HB2.out _) (by simp; omega) hB3); have HR3 := Aside0.mk (Kd.R_below (Kd.R_alloc HR2.out _) hB3); have hz3 := HB3.out.size; clear hB3 HR2 HB2 HS2 hC1; obtain ⟨A4, c4, rfl, hl4, hC4⟩ := Kd.R_reads HR3.out; have HC4 := Aside0.mk hC4; have HL4 := Aside0.mk hl4; clear hC4 hl4; have hC5 := Aside0.mk (lit_C w3 [1, 1] (by decide)))
    | (go_at_call 13; refine (weirlaw01_SameInts.calls 10 _ c4 [1, 1] _ 2 [1, 1] true _ (Kd.C_alloc HC4.out _) HL4.out hC5.out (by decide) aw_same).mono ?_; rintro e w5 ⟨rfl, ⟨nd, rfl⟩⟩))
  go_ret
  exact ⟨rfl, pw_below_drewN (below_alloc HB3.out _) _⟩

set_option maxHeartbeats 2000000 in
set_option maxRecDepth 100000 in
theorem weaves.calls (k : Nat) (a b r : Int) (w : World) (hw : odo_Weaves.f [a, b] = (some [a, b], 0)) (h : odo_weaves_count.f k [a, b] = some (r, true)) :
    Calls Try.prog 20 #[.int .i64 a, .int .i64 b] w fun e w' => e = .returned (.int .u64 r) ∧ Below w.heap.size w w' := by
  obtain ⟨g26, e26, n26⟩ := ptr26
  have hC0 := Aside0.mk (lit_C w [a, b] (show 2 ≤ 9223372036854775807 by decide))
  have HW := Aside0.mk hw
  have H := Aside0.mk h
  clear hw h
  go_enter Try.func20, Try.ntmps20
  go_wp2_with (first
    | (go_at_call 26; refine (odo_Weaves.calls _ 2 [a, b] _ hC0.out (by simp)).mono ?_; rw [HW.out]; rintro e w1 ⟨v1, rfl, hS1, hB1⟩; have HB1 := Aside0.mk (below_then (below_alloc (Below.refl _ w) _) (by simp) hB1); have HS1 := Aside0.mk hS1; clear hB1 hC0; obtain ⟨g, A, c, rfl, hg, _, _⟩ := hS1; clear hg)
    | (go_at_call 9; refine (odo_Len_weaves.calls k [a, b] r true _ _ HS1.out H.out).mono ?_; rw [if_pos rfl, if_pos rfl]; rintro e w2 ⟨rfl, ⟨nd, rfl⟩⟩))
  go_ret
  exact ⟨rfl, pw_below_drewN HB1.out _⟩
end Go.Proofs.Ytohpboblmmbjnaa.P
