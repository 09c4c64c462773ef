/- OdoWholes' own walk. -/
import Derived.Test.YtohpboblmmbjnaaO4
import Derived.Deep.RegionWith
namespace Go.Proofs.Ytohpboblmmbjnaa.P
open Go.RowKit Go.Proofs.YtohpboblmmbjnaaW.PrintWords Go.Proofs.YtohpboblmmbjnaaW.PrintLast Go.Proofs.YtohpboblmmbjnaaW.PrintMore

/-- What the first part asks: of a product with one size more. -/
def Part1 (l : List Int) (size : Int) : Prop :=
  (∃ e, odo_Product.f l = (none, e) ∧ odo_Product.f (l ++ [size]) = (none, e)) ∨
  (odo_Product.f l = (some l, 0) ∧ odo_Product.f (l ++ [size]) = (some (l ++ [size]), 0) ∧ ∃ k r1 ok1 r2 ok2, odo_product_count.f k l = some (r1, ok1) ∧ odo_product_count.f k (l ++ [size]) = some (r2, ok2) ∧
    (ok1 = true → ok2 = true → r2 = IntKind.u64.wrap (r1 * IntKind.u64.wrap size)) ∧ (ok1 = true → r1 < 1099511627776 → ok2 = true))

/-- What the second part asks: of the orders of one more. -/
def Part2 (n : Int) : Prop :=
  odo_Orders.f n = (some (List.replicate n.toNat 1), 0) ∧ odo_Orders.f (n + 1) = (some (List.replicate (n + 1).toNat 1), 0) ∧
    ∃ k x, odo_weaves_count.f k (List.replicate n.toNat 1) = some (x, true) ∧ odo_weaves_count.f k (List.replicate (n + 1).toNat 1) = some (IntKind.u64.wrap (x * IntKind.u64.wrap (n + 1)), true)
/-- What the third part asks: Pascal's rule. -/
def Part3 (a b : Int) : Prop :=
  odo_Weaves.f [a, b] = (some [a, b], 0) ∧ odo_Weaves.f [a - 1, b] = (some [a - 1, b], 0) ∧ odo_Weaves.f [a, b - 1] = (some [a, b - 1], 0) ∧ odo_Weaves.f [a, 0] = (some [a, 0], 0) ∧
    ∃ k x y, odo_weaves_count.f k [a, b] = some (IntKind.u64.wrap (x + y), true) ∧ odo_weaves_count.f k [a - 1, b] = some (x, true) ∧ odo_weaves_count.f k [a, b - 1] = some (y, true) ∧ odo_weaves_count.f k [a, 0] = some (1, true)

set_option maxHeartbeats 4000000 in
set_option maxRecDepth 100000 in
theorem wholes_walk (A0 : Option Addr) (c0 : Nat) (l : List Int) (size n a b : Int) (w : World) (hr0 : Kd.C (Kd.int .i64) w A0 l.length l) (hc0 : l.length ≤ c0)
    (h1 : l.length < 64 → 0 ≤ size → size < 1048576 → Part1 l size) (h2 : 0 ≤ n → n < 20 → Part2 n) (h3 : 1 ≤ a → 1 ≤ b → a ≤ 30 → b ≤ 30 → Part3 a b) :
    Calls Try.prog 5 #[.slice A0 l.length c0, .int .i64 size, .int .i64 n, .int .i64 a, .int .i64 b] w fun e w' => e = .returned (.bool true) ∧ Below w.heap.size w w' := by
  obtain ⟨g26, e26, n26⟩ := ptr26
  have HR0 := Aside0.mk hr0
  have HC0 := Aside0.mk hc0
  have HP1 := Aside0.mk h1
  have HP2 := Aside0.mk h2
  have HP3 := Aside0.mk h3
  clear hr0 hc0 h1 h2 h3
  go_enter Try.func5, Try.ntmps5
  go_upto_region 3 with (go_at_call 16; refine (awake.calls _).mono ?_; rintro e w1 ⟨rfl, hB1⟩; have HB := Aside0.mk hB1; clear hB1)
  obtain ⟨B1, hB1⟩ : ∃ B1 : Bool, B1 = decide (l.length < 64 ∧ 0 ≤ size ∧ size < 1048576) := ⟨_, rfl⟩
  have HC1 := Aside0.mk hB1
  clear hB1
  go_cut [39] (fun v wx => v = .bool B1 ∧ Aside0 (Below w.heap.size w wx))
  case first =>
    go_wp2
    all_goals go_meet
    all_goals refine ⟨?_, HB⟩
    all_goals rw [HC1.out]
    all_goals congr 1
    all_goals first
      | exact decide_eq_decide.2 (by omega)
      | exact (decide_eq_false (by omega)).symm
      | exact (decide_eq_true (by omega)).symm
  case rest =>
    clear HB
    obtain ⟨rfl, HB⟩ := hcut
    go_upto_if 39 with fail
    go_cut [] (fun wx => Aside0 (Below w.heap.size w wx))
    case first =>
      cases B1 with
      | false =>
        go_wp2
        go_meet
        exact HB
      | true =>
        have hc := of_decide_eq_true HC1.out.symm
        rcases HP1.out hc.1 hc.2.1 hc.2.2 with ⟨e, p1, p2⟩ | ⟨p1, p2, k, r1, ok1, r2, ok2, p3, p4, p5, p6⟩
        · obtain ⟨l2, hl2⟩ : ∃ l2, l ++ [size] = l2 := ⟨_, rfl⟩
          have HL2 := Aside0.mk hl2
          rw [hl2] at p2
          clear hl2
          have b0 : (e != e) = false := by simp
          go_wp2_with (first
            | (go_at_call 18; (with_reducible refine (odo_Product.calls A0 c0 l _ ?p1 ?p2).mono ?_); (case p1 => exact Kd.C_below HR0.out HB.out); (case p2 => exact HC0.out); rw [p1]; rintro e1 w2 ⟨v2, rfl, hS2, hB2⟩; have HB2 := Aside0.mk (below_then HB.out HB.out.size hB2); have hz2 := HB2.out.size; clear hB2 HB; obtain rfl := hS2; clear p1)
            | ((with_reducible refine gate_builtin (b := .append) (xs := #[.tmp 46, .tmp 47]) rfl ?_); at_builtin; refine Kd.R_append_rows (Kd.int .i64) (w0 := w) w.heap.size rfl (.tmp 46) (.tmp 47) 22 3 (.int .i64 0) 8 rfl Try.underlying22 info3 rfl (by decide) (by omega) (.slice (some ⟨w2.heap.size, 0, none⟩) 0 0) [] l _ _ _ (fun _ => True) (fun _ => False) rfl rfl ?aO ?aR (fun _ _ h => h) (fun _ h => h.elim) (fun _ _ => trivial) ?aB ?aS ?aL ?_; (case aO => exact Kd.R_of_own (own_lit w2 _ 3 .i64 [] hz2 (by decide)) (fun _ _ => trivial)); (case aR => exact Kd.C_below HR0.out (below_alloc HB2.out _)); (case aB => exact below_alloc HB2.out _); (case aS => exact (below_alloc HB2.out _).size); (case aL => simp; omega); intro v3 w3 hR3 hB3 hg3 hat3; have HR3 := Aside0.mk hR3; have HB3 := Aside0.mk hB3; have hz3 := hB3.size; clear hR3 hB3 hg3 hat3 HB2)
            | ((with_reducible refine gate_builtin (b := .append) (xs := #[.tmp 48, .tmp 50]) rfl ?_); at_builtin; refine Kd.R_append_rows (Kd.int .i64) (w0 := w) w.heap.size rfl (.tmp 48) (.tmp 50) 22 3 (.int .i64 0) 8 rfl Try.underlying22 info3 rfl (by decide) (by omega) v3 ([] ++ l) [size] _ _ _ (fun _ => True) (fun _ => False) rfl rfl ?aO ?aR (fun _ _ h => h) (fun _ h => h.elim) (fun _ _ => trivial) ?aB ?aS ?aL ?_; (case aO => exact Kd.R_alloc HR3.out _); (case aR => exact lit_C w3 [size] (by simp)); (case aB => exact below_alloc HB3.out _); (case aS => exact (below_alloc HB3.out _).size); (case aL => simp; omega); intro v4 w4 hR4 hB4 hg4 hat4; rw [List.nil_append, HL2.out] at hR4; obtain ⟨A4, c4, rfl, hc4, hC4⟩ := Kd.R_reads hR4; have HC4 := Aside0.mk hc4; have HR4 := Aside0.mk hC4; have HB4 := Aside0.mk hB4; clear hR4 hB4 hg4 hat4 HB3 HR3 hc4 hC4)
            | (go_at_call 18; (with_reducible refine (odo_Product.calls A4 c4 l2 _ ?p1 ?p2).mono ?_); (case p1 => exact HR4.out); (case p2 => exact HC4.out); rw [p2]; rintro e1 w5 ⟨v5, rfl, hS5, hB5⟩; have HB5 := Aside0.mk (below_then HB4.out HB4.out.size hB5); clear hB5 HB4; obtain rfl := hS5; clear p2))
          go_meet
          exact HB5
        · obtain ⟨l2, hl2⟩ : ∃ l2, l ++ [size] = l2 := ⟨_, rfl⟩
          have HL2 := Aside0.mk hl2
          rw [hl2] at p2 p4
          clear hl2
          have P3 := Aside0.mk p3
          have P4 := Aside0.mk p4
          clear p3 p4
          cases ok1 with
          | true =>
            cases ok2 with
            | true =>
              obtain rfl := p5 rfl rfl
              clear p5 p6
              go_wp2_with (first
                | (go_at_call 18; (with_reducible refine (odo_Product.calls A0 c0 l _ ?p1 ?p2).mono ?_); (case p1 => exact Kd.C_below HR0.out HB.out); (case p2 => exact HC0.out); rw [p1]; rintro e1 w2 ⟨v2, rfl, hS2, hB2⟩; have HB2 := Aside0.mk (below_then HB.out HB.out.size hB2); have HS2 := Aside0.mk hS2; clear hB2 HB; obtain ⟨g2, A2, d2, rfl, hg2, _, _⟩ := hS2; clear hg2 p1)
                | ((with_reducible refine gate_builtin (b := .append) (xs := #[.tmp 46, .tmp 47]) rfl ?_); at_builtin; refine Kd.R_append_rows (Kd.int .i64) (w0 := w2) w2.heap.size rfl (.tmp 46) (.tmp 47) 22 3 (.int .i64 0) 8 rfl Try.underlying22 info3 rfl (by decide) (by omega) (.slice (some ⟨w2.heap.size, 0, none⟩) 0 0) [] l _ _ _ (fun _ => True) (fun _ => False) rfl rfl ?aO ?aR (fun _ _ h => h) (fun _ h => h.elim) (fun _ _ => trivial) ?aB ?aS ?aL ?_; (case aO => exact Kd.R_of_own (own_lit w2 _ 3 .i64 [] (Nat.le_refl _) (by decide)) (fun _ _ => trivial)); (case aR => exact Kd.C_below HR0.out (below_alloc HB2.out _)); (case aB => exact below_alloc (Below.refl _ _) _); (case aS => exact (below_alloc (Below.refl w2.heap.size w2) _).size); (case aL => simp; omega); intro v3 w3 hR3 hB3 hg3 hat3; have HR3 := Aside0.mk hR3; have HB3 := Aside0.mk hB3; clear hR3 hB3 hg3 hat3)
                | ((with_reducible refine gate_builtin (b := .append) (xs := #[.tmp 48, .tmp 50]) rfl ?_); at_builtin; refine Kd.R_append_rows (Kd.int .i64) (w0 := w2) w2.heap.size rfl (.tmp 48) (.tmp 50) 22 3 (.int .i64 0) 8 rfl Try.underlying22 info3 rfl (by decide) (by omega) v3 ([] ++ l) [size] _ _ _ (fun _ => True) (fun _ => False) rfl rfl ?aO ?aR (fun _ _ h => h) (fun _ h => h.elim) (fun _ _ => trivial) ?aB ?aS ?aL ?_; (case aO => exact Kd.R_alloc HR3.out _); (case aR => exact lit_C w3 [size] (by simp)); (case aB => exact below_alloc HB3.out _); (case aS => exact (below_alloc HB3.out _).size); (case aL => simp; omega); intro v4 w4 hR4 hB4 hg4 hat4; rw [List.nil_append, HL2.out] at hR4; obtain ⟨A4, c4, rfl, hc4, hC4⟩ := Kd.R_reads hR4; have HC4 := Aside0.mk hc4; have HR4 := Aside0.mk hC4; replace HS2 := Aside0.mk (HS2.out.below hB4); have HB4 := Aside0.mk (below_then HB2.out HB2.out.size hB4); clear hR4 hB4 hg4 hat4 HB3 HR3 hc4 hC4 HB2)
                | (go_at_call 18; (with_reducible refine (odo_Product.calls A4 c4 l2 _ ?p1 ?p2).mono ?_); (case p1 => exact HR4.out); (case p2 => exact HC4.out); rw [p2]; rintro e1 w5 ⟨v5, rfl, hS5, hB5⟩; have HB5 := Aside0.mk (below_then HB4.out HB4.out.size hB5); replace HS2 := Aside0.mk (HS2.out.below hB5); clear hB5 HB4; have HS5 := Aside0.mk hS5; obtain ⟨g5, A5, d5, rfl, hg5, _, _⟩ := hS5; clear hg5 p2)
                | (go_at_call 9; (with_reducible refine (odo_Len_product.calls k l r1 true _ _ ?p1 ?p2).mono ?_); (case p1 => exact HS2.out); (case p2 => exact P3.out); rw [if_pos rfl, if_pos rfl]; rintro e1 w6 ⟨rfl, ⟨nd6, rfl⟩⟩)
                | (go_at_call 9; (with_reducible refine (odo_Len_product.calls k l2 (IntKind.u64.wrap (r1 * IntKind.u64.wrap size)) true _ _ ?p1 ?p2).mono ?_); (case p1 => exact HS5.out.below (pw_below_drewN (Below.refl _ _) _)); (case p2 => exact P4.out); rw [if_pos rfl, if_pos rfl]; rintro e1 w7 ⟨rfl, ⟨nd7, rfl⟩⟩))
              all_goals go_meet
              all_goals exact ⟨pw_below_drewN HB5.out _⟩
            | false =>
              have p7 : ¬ r1 < 1099511627776 := fun h => by have := p6 rfl h; cases this
              have b7 : decide (r1 < 1099511627776) = false := decide_eq_false p7
              clear p5 p6 p7
              go_wp2_with (first
                | (go_at_call 18; (with_reducible refine (odo_Product.calls A0 c0 l _ ?p1 ?p2).mono ?_); (case p1 => exact Kd.C_below HR0.out HB.out); (case p2 => exact HC0.out); rw [p1]; rintro e1 w2 ⟨v2, rfl, hS2, hB2⟩; have HB2 := Aside0.mk (below_then HB.out HB.out.size hB2); have HS2 := Aside0.mk hS2; clear hB2 HB; obtain ⟨g2, A2, d2, rfl, hg2, _, _⟩ := hS2; clear hg2 p1)
                | ((with_reducible refine gate_builtin (b := .append) (xs := #[.tmp 46, .tmp 47]) rfl ?_); at_builtin; refine Kd.R_append_rows (Kd.int .i64) (w0 := w2) w2.heap.size rfl (.tmp 46) (.tmp 47) 22 3 (.int .i64 0) 8 rfl Try.underlying22 info3 rfl (by decide) (by omega) (.slice (some ⟨w2.heap.size, 0, none⟩) 0 0) [] l _ _ _ (fun _ => True) (fun _ => False) rfl rfl ?aO ?aR (fun _ _ h => h) (fun _ h => h.elim) (fun _ _ => trivial) ?aB ?aS ?aL ?_; (case aO => exact Kd.R_of_own (own_lit w2 _ 3 .i64 [] (Nat.le_refl _) (by decide)) (fun _ _ => trivial)); (case aR => exact Kd.C_below HR0.out (below_alloc HB2.out _)); (case aB => exact below_alloc (Below.refl _ _) _); (case aS => exact (below_alloc (Below.refl w2.heap.size w2) _).size); (case aL => simp; omega); intro v3 w3 hR3 hB3 hg3 hat3; have HR3 := Aside0.mk hR3; have HB3 := Aside0.mk hB3; clear hR3 hB3 hg3 hat3)
                | ((with_reducible refine gate_builtin (b := .append) (xs := #[.tmp 48, .tmp 50]) rfl ?_); at_builtin; refine Kd.R_append_rows (Kd.int .i64) (w0 := w2) w2.heap.size rfl (.tmp 48) (.tmp 50) 22 3 (.int .i64 0) 8 rfl Try.underlying22 info3 rfl (by decide) (by omega) v3 ([] ++ l) [size] _ _ _ (fun _ => True) (fun _ => False) rfl rfl ?aO ?aR (fun _ _ h => h) (fun _ h => h.elim) (fun _ _ => trivial) ?aB ?aS ?aL ?_; (case aO => exact Kd.R_alloc HR3.out _); (case aR => exact lit_C w3 [size] (by simp)); (case aB => exact below_alloc HB3.out _); (case aS => exact (below_alloc HB3.out _).size); (case aL => simp; omega); intro v4 w4 hR4 hB4 hg4 hat4; rw [List.nil_append, HL2.out] at hR4; obtain ⟨A4, c4, rfl, hc4, hC4⟩ := Kd.R_reads hR4; have HC4 := Aside0.mk hc4; have HR4 := Aside0.mk hC4; replace HS2 := Aside0.mk (HS2.out.below hB4); have HB4 := Aside0.mk (below_then HB2.out HB2.out.size hB4); clear hR4 hB4 hg4 hat4 HB3 HR3 hc4 hC4 HB2)
                | (go_at_call 18; (with_reducible refine (odo_Product.calls A4 c4 l2 _ ?p1 ?p2).mono ?_); (case p1 => exact HR4.out); (case p2 => exact HC4.out); rw [p2]; rintro e1 w5 ⟨v5, rfl, hS5, hB5⟩; have HB5 := Aside0.mk (below_then HB4.out HB4.out.size hB5); replace HS2 := Aside0.mk (HS2.out.below hB5); clear hB5 HB4; have HS5 := Aside0.mk hS5; obtain ⟨g5, A5, d5, rfl, hg5, _, _⟩ := hS5; clear hg5 p2)
                | (go_at_call 9; (with_reducible refine (odo_Len_product.calls k l r1 true _ _ ?p1 ?p2).mono ?_); (case p1 => exact HS2.out); (case p2 => exact P3.out); rw [if_pos rfl, if_pos rfl]; rintro e1 w6 ⟨rfl, ⟨nd6, rfl⟩⟩)
                | (go_at_call 9; (with_reducible refine (odo_Len_product.calls k l2 r2 false _ _ ?p1 ?p2).mono ?_); (case p1 => exact HS5.out.below (pw_below_drewN (Below.refl _ _) _)); (case p2 => exact P4.out); rw [if_neg (by decide), if_neg (by decide)]; rintro e1 w7 ⟨rfl, ⟨nd7, rfl⟩⟩))
              all_goals go_meet
              all_goals exact ⟨pw_below_drewN HB5.out _⟩
          | false =>
            clear p5 p6
            cases ok2 with
            | true =>
              go_wp2_with (first
                | (go_at_call 18; (with_reducible refine (odo_Product.calls A0 c0 l _ ?p1 ?p2).mono ?_); (case p1 => exact Kd.C_below HR0.out HB.out); (case p2 => exact HC0.out); rw [p1]; rintro e1 w2 ⟨v2, rfl, hS2, hB2⟩; have HB2 := Aside0.mk (below_then HB.out HB.out.size hB2); have HS2 := Aside0.mk hS2; clear hB2 HB; obtain ⟨g2, A2, d2, rfl, hg2, _, _⟩ := hS2; clear hg2 p1)
                | ((with_reducible refine gate_builtin (b := .append) (xs := #[.tmp 46, .tmp 47]) rfl ?_); at_builtin; refine Kd.R_append_rows (Kd.int .i64) (w0 := w2) w2.heap.size rfl (.tmp 46) (.tmp 47) 22 3 (.int .i64 0) 8 rfl Try.underlying22 info3 rfl (by decide) (by omega) (.slice (some ⟨w2.heap.size, 0, none⟩) 0 0) [] l _ _ _ (fun _ => True) (fun _ => False) rfl rfl ?aO ?aR (fun _ _ h => h) (fun _ h => h.elim) (fun _ _ => trivial) ?aB ?aS ?aL ?_; (case aO => exact Kd.R_of_own (own_lit w2 _ 3 .i64 [] (Nat.le_refl _) (by decide)) (fun _ _ => trivial)); (case aR => exact Kd.C_below HR0.out (below_alloc HB2.out _)); (case aB => exact below_alloc (Below.refl _ _) _); (case aS => exact (below_alloc (Below.refl w2.heap.size w2) _).size); (case aL => simp; omega); intro v3 w3 hR3 hB3 hg3 hat3; have HR3 := Aside0.mk hR3; have HB3 := Aside0.mk hB3; clear hR3 hB3 hg3 hat3)
                | ((with_reducible refine gate_builtin (b := .append) (xs := #[.tmp 48, .tmp 50]) rfl ?_); at_builtin; refine Kd.R_append_rows (Kd.int .i64) (w0 := w2) w2.heap.size rfl (.tmp 48) (.tmp 50) 22 3 (.int .i64 0) 8 rfl Try.underlying22 info3 rfl (by decide) (by omega) v3 ([] ++ l) [size] _ _ _ (fun _ => True) (fun _ => False) rfl rfl ?aO ?aR (fun _ _ h => h) (fun _ h => h.elim) (fun _ _ => trivial) ?aB ?aS ?aL ?_; (case aO => exact Kd.R_alloc HR3.out _); (case aR => exact lit_C w3 [size] (by simp)); (case aB => exact below_alloc HB3.out _); (case aS => exact (below_alloc HB3.out _).size); (case aL => simp; omega); intro v4 w4 hR4 hB4 hg4 hat4; rw [List.nil_append, HL2.out] at hR4; obtain ⟨A4, c4, rfl, hc4, hC4⟩ := Kd.R_reads hR4; have HC4 := Aside0.mk hc4; have HR4 := Aside0.mk hC4; replace HS2 := Aside0.mk (HS2.out.below hB4); have HB4 := Aside0.mk (below_then HB2.out HB2.out.size hB4); clear hR4 hB4 hg4 hat4 HB3 HR3 hc4 hC4 HB2)
                | (go_at_call 18; (with_reducible refine (odo_Product.calls A4 c4 l2 _ ?p1 ?p2).mono ?_); (case p1 => exact HR4.out); (case p2 => exact HC4.out); rw [p2]; rintro e1 w5 ⟨v5, rfl, hS5, hB5⟩; have HB5 := Aside0.mk (below_then HB4.out HB4.out.size hB5); replace HS2 := Aside0.mk (HS2.out.below hB5); clear hB5 HB4; have HS5 := Aside0.mk hS5; obtain ⟨g5, A5, d5, rfl, hg5, _, _⟩ := hS5; clear hg5 p2)
                | (go_at_call 9; (with_reducible refine (odo_Len_product.calls k l r1 false _ _ ?p1 ?p2).mono ?_); (case p1 => exact HS2.out); (case p2 => exact P3.out); rw [if_neg (by decide), if_neg (by decide)]; rintro e1 w6 ⟨rfl, ⟨nd6, rfl⟩⟩)
                | (go_at_call 9; (with_reducible refine (odo_Len_product.calls k l2 r2 true _ _ ?p1 ?p2).mono ?_); (case p1 => exact HS5.out.below (pw_below_drewN (Below.refl _ _) _)); (case p2 => exact P4.out); rw [if_pos rfl, if_pos rfl]; rintro e1 w7 ⟨rfl, ⟨nd7, rfl⟩⟩))
              all_goals go_meet
              all_goals exact ⟨pw_below_drewN HB5.out _⟩
            | false =>
              go_wp2_with (first
                | (go_at_call 18; (with_reducible refine (odo_Product.calls A0 c0 l _ ?p1 ?p2).mono ?_); (case p1 => exact Kd.C_below HR0.out HB.out); (case p2 => exact HC0.out); rw [p1]; rintro e1 w2 ⟨v2, rfl, hS2, hB2⟩; have HB2 := Aside0.mk (below_then HB.out HB.out.size hB2); have HS2 := Aside0.mk hS2; clear hB2 HB; obtain ⟨g2, A2, d2, rfl, hg2, _, _⟩ := hS2; clear hg2 p1)
                | ((with_reducible refine gate_builtin (b := .append) (xs := #[.tmp 46, .tmp 47]) rfl ?_); at_builtin; refine Kd.R_append_rows (Kd.int .i64) (w0 := w2) w2.heap.size rfl (.tmp 46) (.tmp 47) 22 3 (.int .i64 0) 8 rfl Try.underlying22 info3 rfl (by decide) (by omega) (.slice (some ⟨w2.heap.size, 0, none⟩) 0 0) [] l _ _ _ (fun _ => True) (fun _ => False) rfl rfl ?aO ?aR (fun _ _ h => h) (fun _ h => h.elim) (fun _ _ => trivial) ?aB ?aS ?aL ?_; (case aO => exact Kd.R_of_own (own_lit w2 _ 3 .i64 [] (Nat.le_refl _) (by decide)) (fun _ _ => trivial)); (case aR => exact Kd.C_below HR0.out (below_alloc HB2.out _)); (case aB => exact below_alloc (Below.refl _ _) _); (case aS => exact (below_alloc (Below.refl w2.heap.size w2) _).size); (case aL => simp; omega); intro v3 w3 hR3 hB3 hg3 hat3; have HR3 := Aside0.mk hR3; have HB3 := Aside0.mk hB3; clear hR3 hB3 hg3 hat3)
                | ((with_reducible refine gate_builtin (b := .append) (xs := #[.tmp 48, .tmp 50]) rfl ?_); at_builtin; refine Kd.R_append_rows (Kd.int .i64) (w0 := w2) w2.heap.size rfl (.tmp 48) (.tmp 50) 22 3 (.int .i64 0) 8 rfl Try.underlying22 info3 rfl (by decide) (by omega) v3 ([] ++ l) [size] _ _ _ (fun _ => True) (fun _ => False) rfl rfl ?aO ?aR (fun _ _ h => h) (fun _ h => h.elim) (fun _ _ => trivial) ?aB ?aS ?aL ?_; (case aO => exact Kd.R_alloc HR3.out _); (case aR => exact lit_C w3 [size] (by simp)); (case aB => exact below_alloc HB3.out _); (case aS => exact (below_alloc HB3.out _).size); (case aL => simp; omega); intro v4 w4 hR4 hB4 hg4 hat4; rw [List.nil_append, HL2.out] at hR4; obtain ⟨A4, c4, rfl, hc4, hC4⟩ := Kd.R_reads hR4; have HC4 := Aside0.mk hc4; have HR4 := Aside0.mk hC4; replace HS2 := Aside0.mk (HS2.out.below hB4); have HB4 := Aside0.mk (below_then HB2.out HB2.out.size hB4); clear hR4 hB4 hg4 hat4 HB3 HR3 hc4 hC4 HB2)
                | (go_at_call 18; (with_reducible refine (odo_Product.calls A4 c4 l2 _ ?p1 ?p2).mono ?_); (case p1 => exact HR4.out); (case p2 => exact HC4.out); rw [p2]; rintro e1 w5 ⟨v5, rfl, hS5, hB5⟩; have HB5 := Aside0.mk (below_then HB4.out HB4.out.size hB5); replace HS2 := Aside0.mk (HS2.out.below hB5); clear hB5 HB4; have HS5 := Aside0.mk hS5; obtain ⟨g5, A5, d5, rfl, hg5, _, _⟩ := hS5; clear hg5 p2)
                | (go_at_call 9; (with_reducible refine (odo_Len_product.calls k l r1 false _ _ ?p1 ?p2).mono ?_); (case p1 => exact HS2.out); (case p2 => exact P3.out); rw [if_neg (by decide), if_neg (by decide)]; rintro e1 w6 ⟨rfl, ⟨nd6, rfl⟩⟩)
                | (go_at_call 9; (with_reducible refine (odo_Len_product.calls k l2 r2 false _ _ ?p1 ?p2).mono ?_); (case p1 => exact HS5.out.below (pw_below_drewN (Below.refl _ _) _)); (case p2 => exact P4.out); rw [if_neg (by decide), if_neg (by decide)]; rintro e1 w7 ⟨rfl, ⟨nd7, rfl⟩⟩))
              all_goals go_meet
              all_goals exact ⟨pw_below_drewN HB5.out _⟩
    case rest =>
      clear HB
      rename_i wd_
      have HB := hcut
      clear hcut
      go_upto_region 13 with fail
      obtain ⟨B2, hB2⟩ : ∃ B2 : Bool, B2 = decide (0 ≤ n ∧ n < 20) := ⟨_, rfl⟩
      have HC2 := Aside0.mk hB2
      clear hB2
      go_cut [108] (fun v wx => v = .bool B2 ∧ Aside0 (Below w.heap.size w wx))
      case first =>
        go_wp2
        all_goals go_meet
        all_goals refine ⟨?_, HB⟩
        all_goals rw [HC2.out]
        all_goals congr 1
        all_goals first
          | exact decide_eq_decide.2 (by omega)
          | exact (decide_eq_false (by omega)).symm
          | exact (decide_eq_true (by omega)).symm
      case rest =>
        clear HB
        obtain ⟨rfl, HB⟩ := hcut
        go_upto_if 108 with fail
        go_cut [] (fun wx => Aside0 (Below w.heap.size w wx))
        case first =>
          cases B2 with
          | false =>
            go_wp2
            go_meet
            exact HB
          | true =>
            have hc := of_decide_eq_true HC2.out.symm
            obtain ⟨p1, p2, k, x, p3, p4⟩ := HP2.out hc.1 hc.2
            obtain ⟨hn0, hn1⟩ := hc
            obtain ⟨l1, hl1⟩ : ∃ l1 : List Int, List.replicate n.toNat 1 = l1 := ⟨_, rfl⟩
            obtain ⟨l2, hl2⟩ : ∃ l2 : List Int, List.replicate (n + 1).toNat 1 = l2 := ⟨_, rfl⟩
            rw [hl1] at p1 p3
            rw [hl2] at p2 p4
            have P1 := Aside0.mk p1
            have P2 := Aside0.mk p2
            have P3 := Aside0.mk p3
            have P4 := Aside0.mk p4
            clear p1 p2 p3 p4 hl1 hl2
            go_wp2_with (first
              | (go_at_call 19; (with_reducible refine (odo_Orders.calls n _).mono ?_); rw [P1.out]; rintro e1 w2 ⟨v2, rfl, hS2, hB2⟩; have HB2 := Aside0.mk (below_then HB.out HB.out.size hB2); have HS2 := Aside0.mk hS2; clear hB2 HB; obtain ⟨g2, A2, d2, rfl, hg2, _, _⟩ := hS2; clear hg2)
              | (go_at_call 19; (with_reducible refine (odo_Orders.calls (n + 1) _).mono ?_); rw [P2.out]; rintro e1 w3 ⟨v3, rfl, hS3, hB3⟩; have HB3 := Aside0.mk (below_then HB2.out HB2.out.size hB3); replace HS2 := Aside0.mk (HS2.out.below hB3); have HS3 := Aside0.mk hS3; clear hB3 HB2; obtain ⟨g3, A3, d3, rfl, hg3, _, _⟩ := hS3; clear hg3)
              | (go_at_call 9; (with_reducible refine (odo_Len_weaves.calls k l1 x true _ _ ?p1 ?p2).mono ?_); (case p1 => exact HS2.out); (case p2 => exact P3.out); rw [if_pos rfl, if_pos rfl]; rintro e1 w6 ⟨rfl, ⟨nd6, rfl⟩⟩)
              | (go_at_call 9; (with_reducible refine (odo_Len_weaves.calls k l2 (IntKind.u64.wrap (x * IntKind.u64.wrap (n + 1))) true _ _ ?p1 ?p2).mono ?_); (case p1 => exact HS3.out.below (pw_below_drewN (Below.refl _ _) _)); (case p2 => exact P4.out); rw [if_pos rfl, if_pos rfl]; rintro e1 w7 ⟨rfl, ⟨nd7, rfl⟩⟩))
            all_goals go_meet
            all_goals exact ⟨pw_below_drewN HB3.out _⟩
        case rest =>
          clear HB
          have HB := hcut
          clear hcut
          go_upto_region 22 with fail
          obtain ⟨B3, hB3⟩ : ∃ B3 : Bool, B3 = decide (a < 1 ∨ b < 1 ∨ 30 < a ∨ 30 < b) := ⟨_, rfl⟩
          have HC3 := Aside0.mk hB3
          clear hB3
          go_cut [160] (fun v wx => v = .bool B3 ∧ Aside0 (Below w.heap.size w wx))
          case first =>
            go_wp2
            all_goals go_meet
            all_goals refine ⟨?_, HB⟩
            all_goals rw [HC3.out]
            all_goals congr 1
            all_goals first
              | exact decide_eq_decide.2 (by omega)
              | exact (decide_eq_false (by omega)).symm
              | exact (decide_eq_true (by omega)).symm
              | simp [Bool.or_assoc]
          case rest =>
            clear HB
            obtain ⟨rfl, HB⟩ := hcut
            cases B3 with
            | true =>
              go_wp2
              go_ret
              exact ⟨rfl, HB.out⟩
            | false =>
              have hc := of_decide_eq_false HC3.out.symm
              obtain ⟨q1, q2, q3, q4, k, x, y, p1, p2, p3, p4⟩ := HP3.out (by omega) (by omega) (by omega) (by omega)
              have ha1 : 1 ≤ a := by omega
              have ha2 : a ≤ 30 := by omega
              have hb1 : 1 ≤ b := by omega
              have hb2 : b ≤ 30 := by omega
              have Q1 := Aside0.mk q1
              have Q2 := Aside0.mk q2
              have Q3 := Aside0.mk q3
              have Q4 := Aside0.mk q4
              have P1 := Aside0.mk p1
              have P2 := Aside0.mk p2
              have P3 := Aside0.mk p3
              have P4 := Aside0.mk p4
              clear hc q1 q2 q3 q4 p1 p2 p3 p4
              go_wp2_with (first
                | (go_at_call 20; (with_reducible refine (weaves.calls k a b (IntKind.u64.wrap (x + y)) _ Q1.out P1.out).mono ?_); rintro e1 w2 ⟨rfl, hB2⟩; replace HB := Aside0.mk (below_then HB.out HB.out.size hB2); clear hB2)
                | (go_at_call 20; (with_reducible refine (weaves.calls k (a - 1) b x _ Q2.out P2.out).mono ?_); rintro e1 w3 ⟨rfl, hB2⟩; replace HB := Aside0.mk (below_then HB.out HB.out.size hB2); clear hB2)
                | (go_at_call 20; (with_reducible refine (weaves.calls k a (b - 1) y _ Q3.out P3.out).mono ?_); rintro e1 w4 ⟨rfl, hB2⟩; replace HB := Aside0.mk (below_then HB.out HB.out.size hB2); clear hB2)
                | (go_at_call 20; (with_reducible refine (weaves.calls k a 0 1 _ Q4.out P4.out).mono ?_); rintro e1 w5 ⟨rfl, hB2⟩; replace HB := Aside0.mk (below_then HB.out HB.out.size hB2); clear hB2))
              go_ret
              exact ⟨rfl, HB.out⟩
end Go.Proofs.Ytohpboblmmbjnaa.P
