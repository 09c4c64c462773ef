/- What odo's at of weaves needs: append of one number in a fence. -/
import Derived.Test.YtohpboblmmbjnaaWrk
namespace Go.Proofs.Ytohpboblmmbjnaa.P
open Go Go.RowKit Go.Shelf Go.Proofs.YtohpboblmmbjnaaW.PrintWords Go.Proofs.YtohpboblmmbjnaaW.PrintLast Go.Proofs.YtohpboblmmbjnaaW.PrintMore Go.Proofs.Odo
attribute [local go_sem] Oper.semAt_some

section
variable {P : Program} {F : Fence} {n : Nat}
/-- append of one number onto a row of one's own, in a fence. -/
theorem append_oneIn {ops : Array Oper} {rest : List Oper} {o : Oper} {a : Act} {Q : Exit → Act → World → Prop} (W : World)
    (hg : o.guard = none) (s x : Operand) (t : TypeId) (hop : o.op = Op.call { callee := Callee.builtin Builtin.append, args := #[s, x], argTypes := #[t, t] }) (ht : P.underlying t = some (.slice 3))
    (hinfo : (P.info? 3).map (fun i => (i.zero, i.size, i.bytes)) = some (some (.int .i64 0), 1, 8)) (base : Nat) (v : Value) (k : Nat) (xs : List Value) (y : Int) (hs : a.eval s = v) (hx : a.eval x = .slice (some ⟨W.heap.size, 0, none⟩) 1 1)
    (hown : W.ownsRow base 3 1 v k xs) (hk : k ≤ 1000) (hbase : base ≤ W.heap.size)
    (hK : ∀ v' w', w'.ownsRow base 3 1 v' (k + 1) (xs ++ [.int .i64 y]) → (W.alloc (.cells #[.int .i64 y] 3)).grownBy w' v.ownBlock → (v'.ownBlock = v.ownBlock ∨ v'.ownBlock = some (W.heap.size + 1)) → wpListIn F n P ops Q rest (a.put o.dst v') w') :
    wpListIn F n P ops Q (o :: rest) a (W.alloc (.cells #[.int .i64 y] 3)) := by
  obtain ⟨i0, hi, hzz⟩ := Option.map_eq_some_iff.1 hinfo
  simp only [Prod.mk.injEq] at hzz
  obtain ⟨hz0, hz1, hz2⟩ := hzz
  refine wpListIn_plain hg fun K hK' => ?_
  obtain ⟨v', w', hrun, r1, r2, _, r4⟩ := run_append_own_at (P := P) (W.alloc (.cells #[.int .i64 y] 3)) base t o.type 3 i0 (.int .i64 0) 1 8 ht hi hz0 hz1 hz2 rfl (by decide) v k xs (hown.alloc _) ⟨W.heap.size, 0, none⟩ 1 1 [.int .i64 y] (by simp)
    (cell_one_new _ _ _) (by simp [Value.oneCell']) (by simp only [maxLen]; omega) (by omega) (by simp; omega)
  unfold Oper.wpIn
  refine ⟨?_, ?_⟩
  · simp [Oper.about, hop, resolve, Target.leads, Sem.run_pure]
  · rw [Oper.semAt_plain F _ _ (by rw [hop]; intro c hc'; cases hc')]
    simp [execOp, hop, resolve, invoke, builtin, hs, hx, hrun, Result.andThen]
    exact hK' _ _ (hK v' w' r1 r2 (by simpa using r4))
end
theorem own_form {W : World} {base n : Nat} {e : TypeId} {size : Nat} {v : Value} {vs : List Value} (h : W.ownsRow base e size v n vs) : ∃ A c, v = .slice A n c := by
  rcases h.2 with ⟨h1, h2⟩ | ⟨g', cap', cur, h1, _⟩
  · subst h2; exact ⟨_, _, h1⟩
  · exact ⟨_, _, h1⟩
/-- A row behind an append. -/
theorem Bag.appended {B : Nat} {w W w' : World} {ds : List Nat} {rows : List (Value × Nat × List Int)} {cells : List (Nat × TypeId × Value)} {v v' : Value} {k k' : Nat} {xs xs' : List Int} {u : Value} {t : TypeId}
    (h : Bag B w ds ((v, k, xs) :: rows) cells W) (hr : w'.ownsRow B 3 1 v' k' (nums .i64 xs')) (hg : (W.alloc (.cells #[u] t)).grownBy w' v.ownBlock) (hat : v'.ownBlock = v.ownBlock ∨ v'.ownBlock = some (W.heap.size + 1)) :
    Bag B w ds ((v', k', xs') :: rows) cells w' := by
  have hW : W.grownBy (W.alloc (.cells #[u] t)) v.ownBlock := World.grownBy_alloc W _ _
  have hg2 : W.grownBy w' v.ownBlock := World.grownBy.trans hW hg
  have hsub : ∀ k, v.ownBlock = some k → k ∉ blocks rows cells := fun k hk hkk => by
    have hnd := h.nodup
    unfold blocks at hnd
    rw [List.filterMap_cons] at hnd
    simp only [hk] at hnd
    exact (List.nodup_cons.1 (List.perm_middle.nodup_iff.1 hnd)).1 hkk
  have h0 := h.lose
  have h1 := h0.grown hg2 (fun b hk => ⟨((h.row (v, k, xs) (by simp)).lt b hk).1, hsub b hk, h.ds_cells (List.mem_append.2 (.inr (List.mem_filterMap.2 ⟨(v, k, xs), by simp, hk⟩)))⟩)
  refine ⟨fun r hrr => ?_, h1.cell, ?_, h1.un, h1.lo, h1.below, h1.hB⟩
  · rcases List.mem_cons.1 hrr with rfl | hrr
    · exact hr
    · exact h1.row r hrr
  · unfold blocks
    rw [List.filterMap_cons]
    split
    · exact h1.nodup
    · rename_i b hb
      refine List.perm_middle.nodup_iff.2 (List.nodup_cons.2 ⟨fun hkk => ?_, h1.nodup⟩)
      rcases hat with e | e
      · exact hsub b (e ▸ hb) hkk
      · obtain ⟨_, c, t, fr, hc⟩ := h0.is_cells (k := b) hkk
        have h2 := (Array.getElem?_eq_some_iff.1 hc).1
        have hb' : v'.ownBlock = some b := hb
        rw [e] at hb'
        have := Option.some.inj hb'
        omega

/-! What the going through the numbers that may stand next finds. -/
theorem pick_pos {v T : List Nat} {x : Nat} (h : Is v (x :: T)) : 0 < v.sum := by have := less_sum v x h.1; omega
theorem pick_keep {v T : List Nat} {x q : Nat} (hz : v.getD q 0 = 0) : rank v (x :: T) - shares v (q + 1) = rank v (x :: T) - shares v q := by
  rw [shares_succ]; unfold share; rw [if_pos hz]; rfl
theorem pick_on {v T : List Nat} {x q M : Nat} (h : Is v (x :: T)) (hq : q < x) (hz : v.getD q 0 ≠ 0) (hm : rank v (x :: T) ≤ M) (hM : M < 18446744073709551616) :
    ¬ rank v (x :: T) - shares v q < mc (less v q) ∧ IntKind.u64.wrap (((rank v (x :: T) - shares v q : Nat) : Int) - ((mc (less v q) : Nat) : Int)) = ((rank v (x :: T) - shares v (q + 1) : Nat) : Int) := by
  have h1 := (rank_first h).1
  have h2 := shares_le v (show q + 1 ≤ x from hq)
  rw [shares_succ] at h2 ⊢
  have h3 : share v q = mc (less v q) := by unfold share; rw [if_neg hz]
  rw [h3] at h2 ⊢
  refine ⟨by omega, ?_⟩
  rw [u64_wrap (by omega) (by omega)]
  omega
theorem pick_at {v T : List Nat} {x : Nat} (h : Is v (x :: T)) : rank v (x :: T) - shares v x < mc (less v x) ∧ rank v (x :: T) - shares v x = rank (less v x) T := by
  have h1 : rank v (x :: T) = shares v x + rank (less v x) T := rfl
  have h2 := rank_lt h.2
  omega
theorem sum_step {v : List Nat} {q : Nat} (hq : q < v.length) (hs : v.sum ≤ 64) : wrap64 ((((v.take q).sum : Nat) : Int) + ((v.getD q 0 : Nat) : Int)) = (((v.take (q + 1)).sum : Nat) : Int) := by
  have h1 : (v.take (q + 1)).sum ≤ v.sum := by
    have := List.take_append_drop (q + 1) v
    have h2 : v.sum = (v.take (q + 1)).sum + (v.drop (q + 1)).sum := by rw [← List.sum_append, this]
    omega
  rw [take_snoc_nat v q hq, List.sum_append] at h1 ⊢
  simp only [List.sum_cons, List.sum_nil, Nat.add_zero] at h1 ⊢
  rw [w64 (by omega) (by omega)]
  omega
end Go.Proofs.Ytohpboblmmbjnaa.P
