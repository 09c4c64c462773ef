/- What odo's at of weaves needs: append of one number in a fence. -/
import Derived.Test.YtohpboblmmbjnaaWrk
import Derived.Test.YtohpboblmmbjnaaCount
import Derived.Test.YtohpboblmmbjnaaP0
import Derived.Test.YtohpboblmmbjnaaP6
set_option linter.unusedVariables false
set_option linter.unusedSimpArgs false
namespace Go.Proofs.Ytohpboblmmbjnaa.P
open Go Go.RowKit Go.Shelf Go.Proofs.YtohpboblmmbjnaaW.PrintWords Go.Proofs.YtohpboblmmbjnaaW.PrintLast Go.Proofs.YtohpboblmmbjnaaW.PrintMore Go.Proofs.Odo
attribute [local go_sem] Oper.semAt_some

section
variable {P : Program} {F : Fence} {n : Nat}
/-- append of one number onto a row of one's own, in a fence. -/
theorem append_oneIn {ops : Array Oper} {rest : List Oper} {o : Oper} {a : Act} {Q : Exit → Act → World → Prop} (W : World)
    (hg : o.guard = none) (s x : Operand) (t : TypeId) (hop : o.op = Op.call { callee := Callee.builtin Builtin.append, args := #[s, x], argTypes := #[t, t] }) (ht : P.underlying t = some (.slice 3))
    (hinfo : (P.info? 3).map (fun i => (i.zero, i.size, i.bytes)) = some (some (.int .i64 0), 1, 8)) (base : Nat) (v : Value) (k : Nat) (xs : List Value) (y : Int) (hs : a.eval s = v) (hx : a.eval x = .slice (some ⟨W.heap.size, 0, none⟩) 1 1)
    (hown : W.ownsRow base 3 1 v k xs) (hk : k ≤ 1000) (hbase : base ≤ W.heap.size)
    (hK : ∀ v' w', w'.ownsRow base 3 1 v' (k + 1) (xs ++ [.int .i64 y]) → (W.alloc (.cells #[.int .i64 y] 3)).grownBy w' v.ownBlock → (v'.ownBlock = v.ownBlock ∨ v'.ownBlock = some (W.heap.size + 1)) → wpListIn F n P ops Q rest (a.put o.dst v') w') :
    wpListIn F n P ops Q (o :: rest) a (W.alloc (.cells #[.int .i64 y] 3)) := by
  obtain ⟨i0, hi, hzz⟩ := Option.map_eq_some_iff.1 hinfo
  simp only [Prod.mk.injEq] at hzz
  obtain ⟨hz0, hz1, hz2⟩ := hzz
  refine wpListIn_plain hg fun K hK' => ?_
  obtain ⟨v', w', hrun, r1, r2, _, r4⟩ := run_append_own_at (P := P) (W.alloc (.cells #[.int .i64 y] 3)) base t o.type 3 i0 (.int .i64 0) 1 8 ht hi hz0 hz1 hz2 rfl (by decide) v k xs (hown.alloc _) ⟨W.heap.size, 0, none⟩ 1 1 [.int .i64 y] (by simp)
    (cell_one_new _ _ _) (by simp [Value.oneCell']) (by simp only [maxLen]; omega) (by omega) (by simp; omega)
  unfold Oper.wpIn
  refine ⟨?_, ?_⟩
  · simp [Oper.about, hop, resolve, Target.leads, Sem.run_pure]
  · rw [Oper.semAt_plain F _ _ (by rw [hop]; intro c hc'; cases hc')]
    simp [execOp, hop, resolve, invoke, builtin, hs, hx, hrun, Result.andThen]
    exact hK' _ _ (hK v' w' r1 r2 (by simpa using r4))
end
theorem own_form {W : World} {base n : Nat} {e : TypeId} {size : Nat} {v : Value} {vs : List Value} (h : W.ownsRow base e size v n vs) : ∃ A c, v = .slice A n c := by
  rcases h.2 with ⟨h1, h2⟩ | ⟨g', cap', cur, h1, _⟩
  · subst h2; exact ⟨_, _, h1⟩
  · exact ⟨_, _, h1⟩
/-- A row behind an append. -/
theorem Bag.appended {B : Nat} {w W w' : World} {ds : List Nat} {rows : List (Value × Nat × List Int)} {cells : List (Nat × TypeId × Value)} {v v' : Value} {k k' : Nat} {xs xs' : List Int} {u : Value} {t : TypeId}
    (h : Bag B w ds ((v, k, xs) :: rows) cells W) (hr : w'.ownsRow B 3 1 v' k' (nums .i64 xs')) (hg : (W.alloc (.cells #[u] t)).grownBy w' v.ownBlock) (hat : v'.ownBlock = v.ownBlock ∨ v'.ownBlock = some (W.heap.size + 1)) :
    Bag B w ds ((v', k', xs') :: rows) cells w' := by
  have hW : W.grownBy (W.alloc (.cells #[u] t)) v.ownBlock := World.grownBy_alloc W _ _
  have hg2 : W.grownBy w' v.ownBlock := World.grownBy.trans hW hg
  have hsub : ∀ k, v.ownBlock = some k → k ∉ blocks rows cells := fun k hk hkk => by
    have hnd := h.nodup
    unfold blocks at hnd
    rw [List.filterMap_cons] at hnd
    simp only [hk] at hnd
    exact (List.nodup_cons.1 (List.perm_middle.nodup_iff.1 hnd)).1 hkk
  have h0 := h.lose
  have h1 := h0.grown hg2 (fun b hk => ⟨((h.row (v, k, xs) (by simp)).lt b hk).1, hsub b hk, h.ds_cells (List.mem_append.2 (.inr (List.mem_filterMap.2 ⟨(v, k, xs), by simp, hk⟩)))⟩)
  refine ⟨fun r hrr => ?_, h1.cell, ?_, h1.un, h1.lo, h1.below, h1.hB⟩
  · rcases List.mem_cons.1 hrr with rfl | hrr
    · exact hr
    · exact h1.row r hrr
  · unfold blocks
    rw [List.filterMap_cons]
    split
    · exact h1.nodup
    · rename_i b hb
      refine List.perm_middle.nodup_iff.2 (List.nodup_cons.2 ⟨fun hkk => ?_, h1.nodup⟩)
      rcases hat with e | e
      · exact hsub b (e ▸ hb) hkk
      · obtain ⟨_, c, t, fr, hc⟩ := h0.is_cells (k := b) hkk
        have h2 := (Array.getElem?_eq_some_iff.1 hc).1
        have hb' : v'.ownBlock = some b := hb
        rw [e] at hb'
        have := Option.some.inj hb'
        omega

theorem pick_keep {v T : List Nat} {x q : Nat} (hz : v.getD q 0 = 0) : rank v (x :: T) - shares v (q + 1) = rank v (x :: T) - shares v q := by
  rw [shares_succ]; unfold share; rw [if_pos hz]; rfl
theorem pick_on {v T : List Nat} {x q M : Nat} (h : Is v (x :: T)) (hq : q < x) (hz : v.getD q 0 ≠ 0) (hm : rank v (x :: T) ≤ M) (hM : M < 18446744073709551616) :
    ¬ rank v (x :: T) - shares v q < mc (less v q) ∧ IntKind.u64.wrap (((rank v (x :: T) - shares v q : Nat) : Int) - ((mc (less v q) : Nat) : Int)) = ((rank v (x :: T) - shares v (q + 1) : Nat) : Int) := by
  have h1 := (rank_first h).1
  have h2 := shares_le v (show q + 1 ≤ x from hq)
  rw [shares_succ] at h2 ⊢
  have h3 : share v q = mc (less v q) := by unfold share; rw [if_neg hz]
  rw [h3] at h2 ⊢
  refine ⟨by omega, ?_⟩
  rw [u64_wrap (by omega) (by omega)]
  omega
theorem pick_at {v T : List Nat} {x : Nat} (h : Is v (x :: T)) : rank v (x :: T) - shares v x < mc (less v x) ∧ rank v (x :: T) - shares v x = rank (less v x) T := by
  have h1 : rank v (x :: T) = shares v x + rank (less v x) T := rfl
  have h2 := rank_lt h.2
  omega
theorem sum_step {v : List Nat} {q : Nat} (hq : q < v.length) (hs : v.sum ≤ 64) : wrap64 ((((v.take q).sum : Nat) : Int) + ((v.getD q 0 : Nat) : Int)) = (((v.take (q + 1)).sum : Nat) : Int) := by
  have h1 : (v.take (q + 1)).sum ≤ v.sum := by
    have := List.take_append_drop (q + 1) v
    have h2 : v.sum = (v.take (q + 1)).sum + (v.drop (q + 1)).sum := by rw [← List.sum_append, this]
    omega
  rw [take_snoc_nat v q hq, List.sum_append] at h1 ⊢
  simp only [List.sum_cons, List.sum_nil, Nat.add_zero] at h1 ⊢
  rw [w64 (by omega) (by omega)]
  omega
end Go.Proofs.Ytohpboblmmbjnaa.P
/- The contract of odo's at of weaves. -/
namespace Go.Proofs.Ytohpboblmmbjnaa.P
open Go Go.RowKit Go.Shelf Go.Proofs.YtohpboblmmbjnaaW.PrintWords Go.Proofs.YtohpboblmmbjnaaW.PrintLast Go.Proofs.YtohpboblmmbjnaaW.PrintMore Go.Proofs.Odo
attribute [local go_sem] Oper.semAt_some

def lenCell : Option Value → Nat
  | some (.slice _ n _) => n
  | _ => 0
theorem nums_snoc {L' L : List Nat} {x : Nat} (h : L' = L ++ [x]) : nums .i64 (ints L) ++ [.int .i64 (x : Int)] = nums .i64 (ints L') := by
  subst h
  simp [nums, ints]
theorem last_at {L' L : List Nat} {j x : Nat} (h : L' = L.take j ++ [x]) (hj : j ≤ L.length) : L'.getD j 0 = x := by
  subst h
  rw [List.getD_eq_getElem?_getD, List.getElem?_append_right (by rw [List.length_take]; omega), List.length_take, Nat.min_eq_left hj, Nat.sub_self]
  rfl
theorem sub_next2 {j n : Nat} (h : j < n) {A A' : Option Addr} {c c' : Nat} : n - lenCell (some (.slice A (j + 1) c)) < n - lenCell (some (.slice A' j c')) := by simp only [lenCell]; omega
theorem take_drop_snoc {L T : List Nat} {j x : Nat} (h : L.drop j = x :: T) : L.take (j + 1) = L.take j ++ [x] := by
  have hj : j < L.length := by
    rcases Nat.lt_or_ge j L.length with h1 | h1
    · exact h1
    · rw [List.drop_eq_nil_of_le h1] at h; cases h
  rw [List.drop_eq_getElem_cons hj] at h
  rw [List.take_succ_eq_append_getElem hj, (List.cons.inj h).1]
set_option maxHeartbeats 2000000 in
set_option maxRecDepth 100000 in
theorem weaves_at.calls (v L : List Nat) (A0 : Option Addr) (c0 : Nat) (w : World) (hr0 : Kd.C (Kd.int .i64) w A0 (ints v).length (ints v)) (hc0 : (ints v).length ≤ c0)
    (hs : v.sum ≤ 64) (hl : v.length ≤ 64) (hm : mc v < 18446744073709551616) (hIs : Is v L) :
    Calls Try.prog 68 #[.slice A0 (ints v).length c0, .int .u64 (rank v L)] w fun e w' => ∃ v1, e = .returned v1 ∧ w'.ownsRow w.heap.size 3 1 v1 L.length (nums .i64 (ints L)) ∧ Below w.heap.size w w' := by
  have HR0 := Aside0.mk hr0
  have HC0 := Aside0.mk hc0
  have hcl : Aside0 (slices_Clone_odo_weaves_int.f (ints v) = some (ints v)) := ⟨by
    unfold slices_Clone_odo_weaves_int.f
    simp only [Option.bind_some, List.length_nil, List.nil_append]
    rw [if_pos (by rw [ints_length]; omega)]⟩
  have HBND := Aside0.mk hl
  have HMC := Aside0.mk hm
  have HIS := Aside0.mk hIs
  obtain ⟨n0, hn0⟩ : ∃ n0, rank v L = n0 := ⟨_, rfl⟩
  rw [hn0]
  have HN0 := Aside0.mk hn0
  have HB0 := Aside0.mk (Bag.fresh (B := w.heap.size) (w := w) (ds := []) (rows := []) (cells := []) (W := w) ⟨by simp, by simp, by simp [blocks], ⟨List.nodup_nil, by simp⟩, by simp, Below.refl _ _, Nat.le_refl _⟩ 25 (.int .u64 n0))
  clear hr0 hc0 hm hIs hn0
  refine (callsIn_wide (n := 3)).1 ?_
  refine callsIn_of_wp_marks Try.func68 rfl trivial ?_ rfl
  simp only [Try.ntmps68, List.size_toArray, List.length_cons, List.length_nil, Nat.reduceAdd, Nat.reduceSub, Array.replicate_succ, Array.replicate_zero, List.push_toArray, List.append_toArray, List.nil_append, List.cons_append]
  gi_wp2_with fail
  refine ⟨trivial, ?_⟩
  refine (callsIn_wide.2 (slices_Clone_odo_weaves_int.calls A0 c0 (ints v) (ints v) _ (Kd.C_below HR0.out (below_alloc (Below.refl _ _) _)) HC0.out hcl.out)).mono ?_
  rintro e w1 ⟨v1, rfl, hR1, hB1⟩
  obtain ⟨AL, cL, rfl⟩ := Kd.R_slice hR1
  have hO := Kd.own_of_R hR1
  rw [ints_length] at hO
  have HB1 := Aside0.mk (HB0.out.hold hB1 hO)
  clear hR1 hB1 hO HB0
  simp only [ints_length]
  have HB2 := Aside0.mk (HB1.out.hold (W' := w1.alloc (.cells #[] 3)) (v := .slice (some ⟨w1.heap.size, 0, none⟩) 0 0) (n := 0) (xs := []) (below_alloc (Below.refl _ _) _) (own_lit w1 w1.heap.size 3 .i64 [] (Nat.le_refl _) (Nat.zero_le _)))
  replace HB2 := Aside0.mk (HB2.out.fresh 22 (.slice (some ⟨w1.heap.size, 0, none⟩) 0 0))
  clear HB1
  have hcs : (w1.alloc (.cells #[] 3)).heap.size = w1.heap.size + 1 := by simp
  rw [hcs] at HB2
  have HSM := Aside0.mk hs
  clear hcs
  gi_wp2_with fail
  gi_loopw [7, 17] (fun p7 p17 wr => ∃ q : Nat, p7 = .int .i64 (((v.take q).sum : Nat) : Int) ∧ p17 = .int .i64 q ∧ q ≤ v.length ∧ Aside0 (Bag w.heap.size w [] [(.slice (some ⟨w1.heap.size, 0, none⟩) 0 0, 0, []), (.slice AL v.length cL, v.length, ints v)] [(w1.heap.size + 1, 22, .slice (some ⟨w1.heap.size, 0, none⟩) 0 0), (w.heap.size, 25, .int .u64 n0)] wr)) (fun _ p17 _ => v.length - (intOf p17).toNat)
  case atStart => exact ⟨0, rfl, rfl, Nat.zero_le _, HB2⟩
  case round =>
    clear HB2
    obtain ⟨q, rfl, rfl, hq, HB2⟩ := hrel
    by_cases hlt : q < v.length
    · have hx := Kd.at_int HR0.out (q : Int) (by omega) (by rw [ints_length]; omega)
      obtain ⟨ad, e0, hx0⟩ := hx
      cases e0
      rw [Int.toNat_natCast, rd_ints] at hx0
      have hxW := pw_cell_below HB2.out.below hx0
      have hst := sum_step hlt hs
      obtain ⟨y, hy⟩ : ∃ y, v.getD q 0 = y := ⟨_, rfl⟩
      rw [hy] at hxW hst
      have hq1 : wrap64 ((q : Int) + 1) = ((q + 1 : Nat) : Int) := by rw [w64 (by omega) (by omega)]; omega
      clear hx0 hy
      gi_wp2_with fail
      exact ⟨⟨q + 1, by rw [hst], by go_num, by omega, HB2⟩, by simp [intOf]; omega⟩
    · have hge : v.length ≤ q := by omega
      obtain rfl : q = v.length := by omega
      have hall : (v.take v.length).sum = L.length := by rw [List.take_length, is_length HIS.out]
      rw [hall]
      gi_wp2_with fail
      refine wpIn_loop (fun a W => ∃ (x10 x11 x25 x26 x27 x28 x29 x30 x31 x32 x33 x34 x35 x36 x37 x38 x39 x40 x41 x42 x43 x44 x45 x46 x47 x48 x49 x50 x51 x52 x53 : Value) (ds : List Nat) (j : Nat) (vj : List Nat) (vl : Value), (j ≤ L.length ∧ Aside0 (Is vj (L.drop j)) ∧ Aside0 (vj.length = v.length) ∧ Aside0 (vj.sum ≤ 64) ∧ Aside0 (mc vj ≤ mc v) ∧ Aside0 (Bag w.heap.size w ds [(vl, j, ints (L.take j)), (.slice AL v.length cL, v.length, ints vj)] [(w1.heap.size + 1, 22, vl), (w.heap.size, 25, .int .u64 (rank vj (L.drop j)))] W)) ∧
        a = { tmps := #[.slice A0 v.length c0, .int .u64 n0, undef, .pointer (some ⟨w.heap.size, 0, none⟩), .slice none 0 0, .slice AL v.length cL, .pointer (some ⟨w1.heap.size + 1, 0, none⟩), .int .i64 L.length, undef, u9, x10, x11, .slice A0 v.length c0, .slice AL v.length cL, .slice (some ⟨w1.heap.size, 0, none⟩) 0 0, .slice A0 v.length c0, .int .i64 v.length, .int .i64 v.length, .bool false, u19, u20, u21, u22, u23, u24, x25, x26, x27, x28, x29, x30, x31, x32, x33, x34, x35, x36, x37, x38, x39, x40, x41, x42, x43, x44, x45, x46, x47, x48, x49, x50, x51, x52, x53, undef], defers := marks ds })
        (fun _ W => L.length - lenCell (W.cell? ⟨w1.heap.size + 1, 0, none⟩)) ?start ?round
      case start => exact ⟨undef, undef, undef, undef, undef, undef, undef, undef, undef, undef, undef, undef, undef, undef, undef, undef, undef, undef, undef, undef, undef, undef, undef, undef, undef, undef, undef, undef, undef, undef, undef, [], 0, v, _, ⟨Nat.zero_le _, HIS, ⟨rfl⟩, ⟨hs⟩, ⟨Nat.le_refl _⟩, by rw [List.drop_zero, HN0.out]; exact HB2⟩, rfl⟩
      case round =>
        clear HB2
        rintro a W ⟨x10, x11, x25, x26, x27, x28, x29, x30, x31, x32, x33, x34, x35, x36, x37, x38, x39, x40, x41, x42, x43, x44, x45, x46, x47, x48, x49, x50, x51, x52, x53, ds, j, vj, vl, ⟨hj, HI, HL, HS, HM, HG⟩, rfl⟩
        have hform : ∃ A c, vl = .slice A j c := own_form (HG.out.row (vl, j, ints (L.take j)) (by simp))
        obtain ⟨Al, cl, rfl⟩ := hform
        obtain ⟨hcl1, hcl2⟩ := HG.out.cellOf (c := (w1.heap.size + 1, 22, .slice Al j cl)) (by simp)
        by_cases hlt : j < L.length
        · obtain ⟨x, T, hxT⟩ : ∃ x T, L.drop j = x :: T := ⟨_, _, List.drop_eq_getElem_cons hlt⟩
          have hT : L.drop (j + 1) = T := by rw [← List.drop_drop, hxT]; rfl
          have htake : L.take (j + 1) = L.take j ++ [x] := take_drop_snoc hxT
          have HT := Aside0.mk hT
          have HTK := Aside0.mk htake
          have hP := HI.out
          rw [hxT] at hP
          have HP := Aside0.mk hP
          rw [hxT] at HG
          have hvj : vj.length = v.length := HL.out
          have hiN : x < v.length := by rw [← hvj]; exact getD_lt hP.1
          have hmc : mc vj < 18446744073709551616 := Nat.lt_of_le_of_lt HM.out HMC.out
          obtain ⟨kc, hkc⟩ := counts_are vj HS.out (by rw [hvj]; exact HBND.out) hmc vj.length
          obtain ⟨more, hmore⟩ : ∃ more : Nat → Nat, ∀ q, more q = mc (less vj q) := ⟨_, fun _ => rfl⟩
          obtain ⟨acc, hacc⟩ : ∃ acc : Nat → Nat, ∀ q, acc q = rank vj (x :: T) - shares vj q := ⟨_, fun _ => rfl⟩
          have hrl : rank vj (x :: T) ≤ mc vj := Nat.le_of_lt (rank_lt hP)
          have HON := Aside0.mk (show ∀ q, q < x → vj.getD q 0 ≠ 0 → ¬ acc q < more q ∧ IntKind.u64.wrap ((acc q : Int) - (more q : Int)) = (acc (q + 1) : Int) from fun q hq hz => by
            rw [hacc, hacc, hmore]; exact pick_on hP hq hz hrl hmc)
          have HKP := Aside0.mk (show ∀ q, vj.getD q 0 = 0 → acc (q + 1) = acc q from fun q hz => by rw [hacc, hacc]; exact pick_keep hz)
          have HAT := Aside0.mk (show acc x < more x ∧ acc x = rank (less vj x) T by rw [hacc, hmore]; exact pick_at hP)
          have ha0 : acc 0 = rank vj (x :: T) := by rw [hacc]; rfl
          rw [← ha0] at HG
          have HY := Aside0.mk hP.1
          have HS1 := Aside0.mk (fun D (hD : D ∈ ds) => HG.out.lt hD)
          have HVB := Aside0.mk (show ∀ k, (Value.slice Al j cl).ownBlock = some k → k < W.heap.size from fun k hk => ((HG.out.row (.slice Al j cl, j, ints (L.take j)) (by simp)).lt k hk).2)
          have hrl2 := HG.out.row (.slice AL v.length cL, v.length, ints vj) (by simp)
          obtain ⟨g, rfl⟩ := own_ptr hrl2 (Nat.lt_of_le_of_lt (Nat.zero_le _) hiN)
          have heach := each_stops 2 (by decide) g cL vj kc (fun q => ((more q : Nat) : Int)) (fun _ => true) (fun u hu => sum_small (mem_le_sum hu) HS.out) (by rw [hvj]; exact HBND.out) (fun q h1 h2 => by rw [hmore]; exact hkc kc (Nat.le_refl _) q h1 h2)
          rw [hvj] at heach
          have HEA := Aside0.mk heach
          have HLT := Aside0.mk hlt
          have HIN := Aside0.mk hiN
          have HVJ := Aside0.mk hvj
          have hj64 : j < 64 := Nat.lt_of_lt_of_le hlt (by rw [is_length HIS.out]; exact HSM.out)
          have HJ := Aside0.mk hj64
          clear hxT hT htake hP hmc hkc hmore hacc hrl ha0 hrl2 heach
          gi_wp2_with fail
          refine wpIn_rangeFunc_each rfl (by decide) (gf := 74) (fb := #[.slice (some ⟨g, 0, none⟩) v.length cL]) rfl trivial (enters_of Try.func74 (by kernel_rfl) rfl) HEA.out (fun _ => rfl)
            (fun q W' => q ≤ x ∧ Bag w.heap.size w ds [(.slice Al j cl, j, ints (L.take j)), (.slice (some ⟨g, 0, none⟩) v.length cL, v.length, ints vj)] [(w1.heap.size + 1, 22, .slice Al j cl), (w.heap.size, 25, .int .u64 (acc q))] W')
            (fun c W' => c = .exit 4 ∧ ∃ A2 c2, Bag w.heap.size w ds [(.slice A2 (j + 1) c2, j + 1, ints (L.take (j + 1))), (.slice (some ⟨g, 0, none⟩) v.length cL, v.length, ints vj)] [(w1.heap.size + 1, 22, .slice A2 (j + 1) c2), (w.heap.size, 25, .int .u64 (acc x))] W')
            ?hI ?hIx ?hRow ?hskip ?h0
            (fun q => { tmps := #[.slice A0 v.length c0, .int .u64 n0, undef, .pointer (some ⟨w.heap.size, 0, none⟩), .slice none 0 0, .slice (some ⟨g, 0, none⟩) v.length cL, .pointer (some ⟨w1.heap.size + 1, 0, none⟩), .int .i64 L.length, undef, u9, .int .i64 q, .int .u64 (more q), .slice A0 v.length c0, .slice (some ⟨g, 0, none⟩) v.length cL, .slice (some ⟨w1.heap.size, 0, none⟩) 0 0, .slice A0 v.length c0, .int .i64 v.length, .int .i64 v.length, .bool false, u19, u20, u21, u22, u23, u24, .slice Al j cl, .int .i64 j, .int .i64 L.length, .bool true, .slice (some ⟨g, 0, none⟩) v.length cL, .func (.func 74) #[.slice (some ⟨g, 0, none⟩) v.length cL] #[], .int .i64 q, .int .u64 (more q), x33, x34, x35, x36, x37, x38, x39, x40, x41, x42, x43, x44, x45, x46, x47, x48, x49, x50, x51, x52, x53, undef], defers := [] }) ?assign ?body ?done ?stop
          case hI =>
            exact OwnFrom.and (ownFrom_pure _ _) (fun q W1 W2 row h hg hr => Bag.own (β := Nat) HS1.out (Nat.le_trans HG.out.hB HG.out.below.size) q W1 W2 row h hg hr)
          case hIx =>
            rintro c W1 W2 row ⟨hc, A2, c2, h⟩ hg hr
            exact ⟨hc, A2, c2, Bag.own (β := Code) HS1.out (Nat.le_trans HG.out.hB HG.out.below.size) c W1 W2 row h hg hr⟩
          case hRow =>
            intro q W1 h
            have h1 := h.2.row (.slice (some ⟨g, 0, none⟩) v.length cL, v.length, ints vj) (by simp)
            unfold LeftRow
            rw [HVJ.out]
            exact own_le h1 (Nat.zero_le _)
          case hskip =>
            rintro q W1 ⟨hq, hb⟩ hlt2 hno
            have hz2 : vj.getD q 0 = 0 := Classical.byContradiction fun h => by
              rw [decide_eq_true h] at hno; cases hno
            have hne : q ≠ x := fun e => by subst e; exact HY.out hz2
            rw [← HKP.out q hz2] at hb
            exact ⟨by omega, hb⟩
          case h0 => exact ⟨Nat.zero_le _, HG.out⟩
          case assign =>
            intro lp q W1 K hK
            gi_wp2_with fail
            exact hK
          case body =>
            rintro lp q W1 hlp ⟨hq, hb⟩ hlt2 hyes
            obtain ⟨d1, f1⟩ := hb.cellOf (c := (w.heap.size, 25, .int .u64 (acc q))) (by simp)
            obtain ⟨d2, f2⟩ := hb.cellOf (c := (w1.heap.size + 1, 22, .slice Al j cl)) (by simp)
            by_cases he : q = x
            · subst he
              have hd : decide (acc q < more q) = true := decide_eq_true HAT.out.1
              have hd2 : decide ((acc q : Int) < more q) = true := decide_eq_true (Int.ofNat_lt.2 HAT.out.1)
              have HB9 := Aside0.mk hb
              clear hb
              gi_wp2_with (gi_at_builtin; refine append_oneIn W1 rfl (.tmp 36) (.tmp 38) 22 rfl Try.underlying22 info3 w.heap.size (.slice Al j cl) j (nums .i64 (ints (L.take j))) (q : Int) rfl rfl (HB9.out.row (.slice Al j cl, j, ints (L.take j)) (by simp)) (Nat.le_trans (Nat.le_of_lt HJ.out) (by decide)) HB9.out.below.size ?_; intro v' w' hr hg hat; rw [nums_snoc HTK.out] at hr; have hf : ∃ A c, v' = .slice A (j + 1) c := own_form hr; obtain ⟨A2, c2, rfl⟩ := hf; have hb2 := HB9.out.appended hr hg hat; obtain ⟨e1, g1⟩ := hb2.cellOf (c := (w1.heap.size + 1, 22, .slice Al j cl)) (by simp); replace hb2 := Aside0.mk hb2; replace hg := Aside0.mk hg; clear hr hat)
              refine ⟨(KeepsFrom.of_grownBy (World.grownBy.trans (World.grownBy_alloc W1 _ _) hg.out) HVB.out).trans ((KeepsOthers.setCell _ _ _).from _), rfl, A2, c2, hb2.out.set (.slice A2 (j + 1) c2)⟩
            · have hne : vj.getD q 0 ≠ 0 := of_decide_eq_true hyes
              obtain ⟨hn1, hw⟩ := HON.out q (by omega) hne
              have hd : decide (acc q < more q) = false := decide_eq_false hn1
              have hd2 : decide ((acc q : Int) < more q) = false := decide_eq_false (fun h => hn1 (Int.ofNat_lt.1 h))
              clear hn1
              gi_wp2_with fail
              refine ⟨(KeepsOthers.setCell _ _ _).from _, by omega, ?_⟩
              exact ((hb.perm (.refl _) (.swap _ _ _)).set (.int .u64 (acc (q + 1)))).perm (.refl _) (.swap _ _ _)
          case done =>
            rintro D W1 hD ⟨hq, hb⟩ hDD
            omega
          case stop =>
            rintro D c W1 hD ⟨rfl, A2, c2, hb⟩ hDD
            have hBD : w.heap.size ≤ D := Nat.le_trans HG.out.below.size hD
            have HB2 := Aside0.mk (hb.mark hBD (fun h => by have := HS1.out D h; omega) hDD)
            obtain ⟨e1, g1⟩ := hb.cellOf (c := (w1.heap.size + 1, 22, .slice A2 (j + 1) c2)) (by simp)
            have hrow2 := hb.row (.slice A2 (j + 1) c2, j + 1, ints (L.take (j + 1))) (by simp)
            obtain ⟨g2, rfl⟩ := own_ptr hrow2 (Nat.succ_pos j)
            have hat2 := own_at hrow2 (j : Int) (by omega) (by show (j : Int) < ((j + 1 : Nat) : Int); omega)
            rw [Int.toNat_natCast, rd_ints, last_at HTK.out (Nat.le_of_lt HLT.out)] at hat2
            obtain ⟨hcj, hfj⟩ := hat2
            have hat := own_at (hb.row (.slice (some ⟨g, 0, none⟩) v.length cL, v.length, ints vj) (by simp)) (x : Int) (by omega) (by show (x : Int) < v.length; omega)
            obtain ⟨y, hy⟩ : ∃ y, vj.getD x 0 = y := ⟨_, rfl⟩
            have HYY := Aside0.mk hy
            rw [Int.toNat_natCast, rd_ints, hy] at hat
            obtain ⟨hcx, hfx⟩ := hat
            clear hrow2 hb hy
            gi_wp2_with fail
            have hB3 := ((HB2.out.perm (.swap _ _ _) (.refl _)).setRow (x : Int) (wrap64 ((y : Int) - 1))).perm (.swap _ _ _) (.refl _)
            rw [Int.toNat_natCast, ints_less HYY.out (HYY.out ▸ HY.out) (sum_small (mem_le_sum_at HYY.out (HYY.out ▸ HY.out)) HS.out), HAT.out.2, ← HT.out] at hB3
            obtain ⟨e2, _⟩ := hB3.cellOf (c := (w1.heap.size + 1, 22, .slice (some ⟨g2, 0, none⟩) (j + 1) c2)) (by simp)
            refine ⟨⟨_, _, _, _, _, _, _, _, _, _, _, _, _, _, _, _, _, _, _, _, _, _, _, _, _, _, _, _, _, _, _, D :: ds, ⟨j + 1, HLT.out, less vj x, ⟨?g1⟩, ⟨?g2⟩, ⟨?g3⟩, ⟨?g4⟩, _, ⟨hB3⟩⟩, ⟨rfl, rfl, rfl, rfl, rfl, rfl, rfl, rfl, rfl, rfl, rfl, rfl, rfl, rfl, rfl, rfl, rfl, rfl, rfl, rfl, rfl, rfl, rfl, rfl, rfl, rfl, rfl, rfl, rfl, rfl, rfl⟩, rfl⟩, ?g7⟩
            case g1 => rw [HT.out]; exact HP.out.2
            case g2 => rw [less_length]; exact HVJ.out
            case g3 => have := less_sum vj x HY.out; have := HS.out; omega
            case g4 => exact Nat.le_trans (mc_less_le HY.out) HM.out
            case g7 => rw [e2]; exact sub_next2 HLT.out
        · have hge : L.length ≤ j := by omega
          obtain rfl : j = L.length := by omega
          gi_wp2_with fail
          refine leaves_marks ds _ HG.out.un ⟨_, results_tmp rfl _ _ _, ⟨_, rfl, ?_, shutAll_below (Nat.le_refl _) ds _ HG.out.below HG.out.lo⟩⟩
          have h1 := shut_own ds W HG.out.un (HG.out.row (.slice Al L.length cl, L.length, ints (L.take L.length)) (by simp))
          rw [List.take_length] at h1
          exact h1
end Go.Proofs.Ytohpboblmmbjnaa.P
/- The contracts of At and Rank of odo's spaces: weaves. -/
namespace Go.Proofs.Ytohpboblmmbjnaa.P
open Go Go.RowKit Go.Proofs.YtohpboblmmbjnaaW.PrintWords Go.Proofs.YtohpboblmmbjnaaW.PrintLast Go.Proofs.YtohpboblmmbjnaaW.PrintMore Go.Proofs.Odo

set_option maxHeartbeats 1000000 in
set_option maxRecDepth 100000 in
theorem odo_At_weaves.calls (k : Nat) (vl L : List Nat) (hb1 : vl.sum ≤ 64) (hb2 : vl.length ≤ 64) (r1 : Int) (r2 : Bool) (n : Int) (v : Value) (w : World) (hs : SpAt 82 w v (ints vl)) (h : odo_weaves_count.f k (ints vl) = some (r1, r2))
    (ha : r2 = true → n < r1 → mc vl < 18446744073709551616 ∧ Is vl L ∧ n = ((rank vl L : Nat) : Int)) :
    Calls Try.prog 11 #[v, .int .u64 n] w fun e w' => ∃ v1 : Value, e = .returned (.tuple #[v1, .int .i64 (atRes r1 r2 n (ints L)).2]) ∧ Kd.R (Kd.int .i64) 3 w' w.heap.size (fun _ => True) v1 (atRes r1 r2 n (ints L)).1 ∧ Below w.heap.size w w' := by
  have HS := Aside0.mk hs
  have HB1 := Aside0.mk hb1
  have HB2L := Aside0.mk hb2
  clear hb1 hb2
  obtain ⟨g, A, c, rfl, hg, hc, hC⟩ := hs
  have HC := Aside0.mk hC
  have HL := Aside0.mk hc
  have H := Aside0.mk h
  have HA := Aside0.mk ha
  clear hC hc h ha
  have hm := (m82 A (ints vl).length c).2.1
  cases r2 with
  | true =>
    by_cases hn : r1 ≤ n
    · have hr : atRes r1 true n (ints L) = ([], 3) := by unfold atRes; rw [if_pos rfl, if_pos hn]
      rw [hr]
      clear hr
      have hb : decide (r1 ≤ n) = true := decide_eq_true hn
      clear hn
      go_enter Try.func11, Try.ntmps11
      go_wp2_with (go_at_call 9; refine (odo_Len_weaves.calls k (ints vl) r1 true _ w HS.out H.out).mono ?_; rw [if_pos rfl, if_pos rfl]; rintro e w1 ⟨rfl, ⟨nd, rfl⟩⟩)
      go_ret2
      exact ⟨_, rfl, Kd.R_nil _ _ _ _ _, by repeat (first | exact Below.refl _ _ | refine pw_below_drewN ?_ _ | refine below_drew ?_)⟩
    · have hr : atRes r1 true n (ints L) = (ints L, 0) := by unfold atRes; rw [if_pos rfl, if_neg hn]
      rw [hr]
      clear hr
      have hX := HA.out rfl (by omega)
      obtain ⟨hX1, hX2, rfl⟩ := hX
      have HX := Aside0.mk (And.intro hX1 hX2)
      have hb : decide (r1 ≤ ((rank vl L : Nat) : Int)) = false := decide_eq_false hn
      clear hn hX1 hX2 HA
      go_enter Try.func11, Try.ntmps11
      go_wp2_with (first | (go_at_call 9; refine (odo_Len_weaves.calls k (ints vl) r1 true _ w HS.out H.out).mono ?_; rw [if_pos rfl, if_pos rfl]; rintro e w1 ⟨rfl, ⟨nd, rfl⟩⟩) | (go_at_call 68; refine (weaves_at.calls vl L A c _ (Kd.C_drewN HC.out _) HL.out HB1.out HB2L.out HX.out.1 HX.out.2).mono ?_; rintro e w2 ⟨v2, rfl, hR2, hB2⟩; replace hR2 := Kd.R_of_own (e := 3) (ok := fun _ => True) (h1 := fun _ => rfl) (enc := Value.int .i64) (xs := ints L) (by rw [ints_length]; exact hR2) (fun _ _ => trivial); have HR2 := Aside0.mk hR2; have HB2 := Aside0.mk hB2; clear hR2 hB2))
      go_ret2
      exact ⟨_, rfl, HR2.out, below_then (pw_below_drewN (Below.refl _ _) _) (Nat.le_refl _) HB2.out⟩
  | false =>
    have hr : atRes r1 false n (ints L) = ([], 30) := rfl
    rw [hr]
    clear hr
    go_enter Try.func11, Try.ntmps11
    go_wp2_with (go_at_call 9; refine (odo_Len_weaves.calls k (ints vl) r1 false _ w HS.out H.out).mono ?_; rw [if_neg (by decide), if_neg (by decide)]; rintro e w1 ⟨rfl, ⟨nd, rfl⟩⟩)
    go_ret2
    exact ⟨_, rfl, Kd.R_nil _ _ _ _ _, by repeat (first | exact Below.refl _ _ | refine pw_below_drewN ?_ _ | refine below_drew ?_)⟩

set_option maxHeartbeats 1000000 in
set_option maxRecDepth 100000 in
theorem odo_Rank_weaves.calls (k : Nat) (vl : List Nat) (hb1 : vl.sum ≤ 64) (hb2 : vl.length ≤ 64) (r1 : Int) (r2 : Bool) (A1 : Option Addr) (c1 : Nat) (xs : List Int) (hxs : xs.length < 9223372036854775807) (q : Int) (ok : Bool) (v : Value) (w : World) (hs : SpAt 82 w v (ints vl)) (h : odo_weaves_count.f k (ints vl) = some (r1, r2))
    (hr1 : Kd.C (Kd.int .i64) w A1 xs.length xs) (hc1 : xs.length ≤ c1) (ha : r2 = true → mc vl < 18446744073709551616 ∧ q = (((rankW vl xs 0).1 : Nat) : Int) ∧ ok = (rankW vl xs 0).2) :
    Calls Try.prog 14 #[v, .slice A1 xs.length c1] w fun e w' => e = .returned (.tuple #[.int .u64 (rankRes r2 q ok).1, .int .i64 (rankRes r2 q ok).2]) ∧ Below w.heap.size w w' := by
  have HS := Aside0.mk hs
  have HB1 := Aside0.mk hb1
  have HB2L := Aside0.mk hb2
  clear hb1 hb2
  obtain ⟨g, A, c, rfl, hg, hc, hC⟩ := hs
  have HC := Aside0.mk hC
  have HL := Aside0.mk hc
  have H := Aside0.mk h
  have HA := Aside0.mk ha
  have HXS := Aside0.mk hxs
  clear hxs
  have HR1 := Aside0.mk hr1
  have HC1 := Aside0.mk hc1
  clear hC hc h ha hr1 hc1
  have hm := (m82 A (ints vl).length c).2.2
  cases r2 with
  | true =>
    have HX := Aside0.mk (HA.out rfl)
    clear HA
    cases ok with
    | true =>
      have hr : rankRes true q true = (q, 0) := rfl
      rw [hr]
      clear hr
      go_enter Try.func14, Try.ntmps14
      go_wp2_with (first | (go_at_call 9; refine (odo_Len_weaves.calls k (ints vl) r1 true _ w HS.out H.out).mono ?_; rw [if_pos rfl, if_pos rfl]; rintro e w1 ⟨rfl, ⟨nd, rfl⟩⟩) | (go_at_call 72; refine (weaves_rank.calls vl A c A1 c1 xs _ (Kd.C_drewN HC.out _) HL.out (Kd.C_drewN HR1.out _) HC1.out HB1.out HB2L.out HX.out.1 HXS.out).mono ?_; rintro e w2 ⟨rfl, hB2⟩; rw [← HX.out.2.2, ← HX.out.2.1]; have HB2 := Aside0.mk hB2; clear hB2))
      go_ret2
      exact ⟨rfl, below_then (pw_below_drewN (Below.refl _ _) _) (Nat.le_refl _) HB2.out⟩
    | false =>
      have hr : rankRes true q false = (0, 3) := rfl
      rw [hr]
      clear hr
      go_enter Try.func14, Try.ntmps14
      go_wp2_with (first | (go_at_call 9; refine (odo_Len_weaves.calls k (ints vl) r1 true _ w HS.out H.out).mono ?_; rw [if_pos rfl, if_pos rfl]; rintro e w1 ⟨rfl, ⟨nd, rfl⟩⟩) | (go_at_call 72; refine (weaves_rank.calls vl A c A1 c1 xs _ (Kd.C_drewN HC.out _) HL.out (Kd.C_drewN HR1.out _) HC1.out HB1.out HB2L.out HX.out.1 HXS.out).mono ?_; rintro e w2 ⟨rfl, hB2⟩; rw [← HX.out.2.2, ← HX.out.2.1]; have HB2 := Aside0.mk hB2; clear hB2))
      go_ret2
      exact ⟨rfl, below_then (pw_below_drewN (Below.refl _ _) _) (Nat.le_refl _) HB2.out⟩
  | false =>
    have hr : rankRes false q ok = (0, 30) := rfl
    rw [hr]
    clear hr
    go_enter Try.func14, Try.ntmps14
    go_wp2_with (go_at_call 9; refine (odo_Len_weaves.calls k (ints vl) r1 false _ w HS.out H.out).mono ?_; rw [if_neg (by decide), if_neg (by decide)]; rintro e w1 ⟨rfl, ⟨nd, rfl⟩⟩)
    go_ret2
    exact ⟨rfl, by repeat (first | exact Below.refl _ _ | refine pw_below_drewN ?_ _ | refine below_drew ?_)⟩
end Go.Proofs.Ytohpboblmmbjnaa.P
/- What odo's products answer: their count, their lists by number, their lists' numbers. -/
namespace Go.Proofs.Ytohpboblmmbjnaa.P
open Go.RowKit Go.Proofs.YtohpboblmmbjnaaW.PrintWords Go.Proofs.YtohpboblmmbjnaaW.PrintMore Go.Proofs.Odo

theorem index_list (l : List Int) (v : Int) (hl : l.length ≤ 9223372036854775806) : ∀ (d j : Nat), j + d = l.length →
    ∃ r : Int, Ev (fun k => slices_Index_odo_product_int.l0 k l v (l.length : Int) (j : Int)) r ∧ (0 ≤ r ↔ v ∈ l.drop j) := by
  intro d
  induction d with
  | zero =>
    intro j hj
    refine ⟨-1, Ev.step (fun k => ?_) (Ev.now _), ?_⟩
    · simp only [slices_Index_odo_product_int.l0]
      rw [if_neg (by omega)]
    · rw [List.drop_of_length_le (by omega)]; simp
  | succ d ih =>
    intro j hj
    have hjl : j < l.length := by omega
    have hd : l.drop j = rd l j :: l.drop (j + 1) := by
      rw [List.drop_eq_getElem_cons hjl]
      congr 1
      simp [rd, List.getD_eq_getElem?_getD, List.getElem?_eq_getElem hjl]
    by_cases hv : v = rd l j
    · refine ⟨j, Ev.step (fun k => ?_) (Ev.now _), ?_⟩
      · simp only [slices_Index_odo_product_int.l0]
        rw [if_pos (by omega), if_pos (by omega), if_pos (by omega), if_pos hv]
      · rw [hd, ← hv]; simp
    · obtain ⟨r, h1, h2⟩ := ih (j + 1) (by omega)
      refine ⟨r, Ev.step (fun k => ?_) h1, ?_⟩
      · simp only [slices_Index_odo_product_int.l0]
        rw [if_pos (by omega), if_pos (by omega), if_pos (by omega), if_neg hv, w64 (by omega) (by omega)]
        rfl
      · rw [hd, h2]; simp [hv]
theorem contains_is (l : List Int) (v : Int) (hl : l.length ≤ 9223372036854775806) : Ev (fun k => slices_Contains_odo_product_int.f k l v) (decide (v ∈ l)) := by
  obtain ⟨r, h1, h2⟩ := index_list l v hl l.length 0 (by omega)
  have e : decide (v ∈ l) = decide (r ≥ 0) := by
    rw [List.drop_zero] at h2
    exact decide_eq_decide.2 h2.symm
  rw [e]
  refine Ev.congr (fun k => ?_) (Ev.bind (f := fun _ t => some (decide (t ≥ 0))) h1 (Ev.now _))
  rfl

/-- What count answers of a product. -/
def prodRes (p : List Nat) : Int × Bool := if prod p < 18446744073709551616 then (((prod p : Nat) : Int), true) else (0, false)
theorem prod_take_le (p : List Nat) (h0 : ¬ 0 ∈ p) (j : Nat) : prod (p.take j) ≤ prod p := by
  have h := prod_append (p.take j) (p.drop j)
  rw [List.take_append_drop] at h
  rw [h]
  exact Nat.le_mul_of_pos_right _ (prod_pos (fun hm => h0 (List.mem_of_mem_drop hm)))
theorem prod_list (p : List Nat) (h0 : ¬ 0 ∈ p) (hp : ∀ x ∈ p, x < 18446744073709551616) (hl : p.length ≤ 9223372036854775806) : ∀ (d j : Nat), j + d = p.length → prod (p.take j) < 18446744073709551616 →
    Ev (fun k => odo_product_count.l0 k ((prod (p.take j) : Nat) : Int) (ints p) (p.length : Int) (j : Int)) (prodRes p) := by
  intro d
  induction d with
  | zero =>
    intro j hj hb
    have ht : p.take j = p := List.take_of_length_le (by omega)
    rw [ht] at hb ⊢
    refine Ev.step (fun k => ?_) (Ev.now _)
    simp only [odo_product_count.l0]
    rw [if_neg (by omega)]
    unfold prodRes
    rw [if_pos hb]
  | succ d ih =>
    intro j hj hb
    have hjl : j < p.length := by omega
    have hts := take_snoc_nat p j hjl
    have hx : p.getD j 0 < 18446744073709551616 := by
      rw [List.getD_eq_getElem?_getD, List.getElem?_eq_getElem hjl]
      exact hp _ (List.getElem_mem hjl)
    have hpr : prod (p.take (j + 1)) = prod (p.take j) * p.getD j 0 := by rw [hts, prod_append]; simp [prod]
    have hm := mul64_is (prod (p.take j)) (p.getD j 0) hb hx
    rw [← hpr] at hm
    have hdm := Nat.div_add_mod (prod (p.take (j + 1))) 18446744073709551616
    have e1 : IntKind.u64.wrap ((p.getD j 0 : Nat) : Int) = ((p.getD j 0 : Nat) : Int) := u64_wrap (by omega) (by omega)
    by_cases hov : 0 < prod (p.take (j + 1)) / 18446744073709551616
    · have hr : prodRes p = (0, false) := by
        unfold prodRes
        rw [if_neg (by have := prod_take_le p h0 (j + 1); omega)]
      rw [hr]
      refine Ev.step (fun k => ?_) (Ev.now _)
      simp only [odo_product_count.l0]
      rw [if_pos (by omega), if_pos (by omega), if_pos (by rw [ints_length]; omega), rd_ints, e1, hm]
      simp only [Option.bind_some]
      exact if_pos (Int.ofNat_lt.2 hov)
    · refine Ev.step (fun k => ?_) (ih (j + 1) (by omega) (by omega))
      simp only [odo_product_count.l0]
      rw [if_pos (by omega), if_pos (by omega), if_pos (by rw [ints_length]; omega), rd_ints, e1, hm]
      simp only [Option.bind_some]
      refine (if_neg (fun h => hov (Int.ofNat_lt.1 h))).trans ?_
      rw [w64 (by omega) (by omega), Nat.mod_eq_of_lt (by omega)]
      rfl
theorem prod_is (p : List Nat) (hp : ∀ x ∈ p, x < 18446744073709551616) (hl : p.length ≤ 9223372036854775806) : Ev (fun k => odo_product_count.f k (ints p)) (prodRes p) := by
  have hc := contains_is (ints p) 0 (by rw [ints_length]; exact hl)
  by_cases h0 : 0 ∈ p
  · have hm : (0 : Int) ∈ ints p := List.mem_map.2 ⟨0, h0, rfl⟩
    have hr : prodRes p = (0, true) := by unfold prodRes; rw [prod_zero h0]; rfl
    rw [decide_eq_true hm] at hc
    rw [hr]
    exact Ev.congr (fun k => rfl) (Ev.bind hc (Ev.congr (fun k => if_pos rfl) (Ev.now _)))
  · have hm : ¬ (0 : Int) ∈ ints p := by
      intro h
      obtain ⟨x, hx, he⟩ := List.mem_map.1 h
      have : x = 0 := by have : (x : Int) = 0 := he; omega
      exact h0 (this ▸ hx)
    rw [decide_eq_false hm] at hc
    have h := prod_list p h0 hp hl p.length 0 (by omega) (by simp [prod])
    refine Ev.congr (fun k => rfl) (Ev.bind hc (Ev.congr (fun k => (if_neg (by decide)).trans ?_) h))
    rw [ints_length]
    simp [prod]
end Go.Proofs.Ytohpboblmmbjnaa.P
/- What odo's products answer: their lists by number, their lists' numbers. -/
namespace Go.Proofs.Ytohpboblmmbjnaa.P
open Go.RowKit Go.Proofs.YtohpboblmmbjnaaW.PrintWords Go.Proofs.YtohpboblmmbjnaaW.PrintMore Go.Proofs.Odo

theorem getD_mem {p : List Nat} {j : Nat} (h : j < p.length) : p.getD j 0 ∈ p := by
  rw [List.getD_eq_getElem?_getD, List.getElem?_eq_getElem h]
  exact List.getElem_mem h
theorem drop_cons (p : List Nat) {j : Nat} (h : j < p.length) : p.drop j = p.getD j 0 :: p.drop (j + 1) := by
  rw [List.drop_eq_getElem_cons h]
  congr 1
  simp [List.getD_eq_getElem?_getD, List.getElem?_eq_getElem h]
theorem tdivN (a b : Nat) : (a : Int).tdiv (b : Int) = ((a / b : Nat) : Int) := by rw [Int.tdiv_eq_ediv_of_nonneg (Int.natCast_nonneg _)]; rfl
theorem tmodN (a b : Nat) : (a : Int).tmod (b : Int) = ((a % b : Nat) : Int) := by rw [Int.tmod_eq_emod_of_nonneg (Int.natCast_nonneg _)]; rfl

theorem at_list (p : List Nat) (n : Nat) (hn : n < 18446744073709551616) (h0 : ¬ 0 ∈ p) (hp : ∀ x ∈ p, x < 9223372036854775808) (hl : p.length ≤ 9223372036854775806) : ∀ (m : Nat), m ≤ p.length →
    Ev (fun k => odo_product_at.l0 k (ints p) ((n / prod (p.drop m) : Nat) : Int) (List.replicate m 0 ++ ints (digits (p.drop m) n)) ((m : Int) - 1)) (ints (digits p n)) := by
  intro m
  induction m with
  | zero =>
    intro _
    refine Ev.step (fun k => ?_) (Ev.now _)
    simp only [odo_product_at.l0]
    rw [if_neg (by omega)]
    simp
  | succ m ih =>
    intro hm
    have hml : m < p.length := by omega
    have hx := hp _ (getD_mem hml)
    have hx0 : 0 < p.getD m 0 := Nat.pos_of_ne_zero (fun h => h0 (h ▸ getD_mem hml))
    have hd := drop_cons p hml
    have h1 := ih (by omega)
    rw [hd, digits, prod, Nat.mul_comm, ← Nat.div_div_eq_div_mul] at h1
    obtain ⟨q, hq⟩ : ∃ q, n / prod (p.drop (m + 1)) = q := ⟨_, rfl⟩
    have hqn : q ≤ n := by rw [← hq]; exact Nat.div_le_self _ _
    rw [hq] at h1 ⊢
    obtain ⟨x, hxe⟩ : ∃ x, p.getD m 0 = x := ⟨_, rfl⟩
    have hrd := rd_ints p m
    rw [hxe] at h1 hx hx0 hrd
    have hqx : q / x ≤ q := Nat.div_le_self _ _
    have hqm : q % x < x := Nat.mod_lt _ hx0
    refine Ev.step (fun k => ?_) h1
    simp only [odo_product_at.l0]
    have e0 : ((m + 1 : Nat) : Int) - 1 = (m : Int) := by omega
    have e1 : IntKind.u64.wrap (x : Int) = (x : Int) := u64_wrap (by omega) (by omega)
    have hq64 : q / x < 18446744073709551616 := by omega
    have e3 : IntKind.u64.wrap ((q / x : Nat) : Int) = ((q / x : Nat) : Int) := u64_wrap (Int.natCast_nonneg _) (Int.ofNat_lt.2 hq64)
    rw [e0, if_pos (by omega), if_pos (by omega), if_pos (by rw [ints_length]; omega), hrd, e1, if_neg (by omega), if_pos (by rw [List.length_append, List.length_replicate]; omega), tdivN, tmodN,
      e3, w64 (by omega) (by omega), w64 (by omega) (by omega), Int.toNat_natCast]
    congr 1
    rw [List.replicate_succ', List.append_assoc, List.set_append_right _ _ (by simp)]
    simp [ints]
theorem at_is (p : List Nat) (n : Nat) (hn : n < prod p) (hb : prod p < 18446744073709551616) (hp : ∀ x ∈ p, x < 9223372036854775808) (hl : p.length ≤ 35184372088832) :
    Ev (fun k => odo_product_at.f k (ints p) n) (ints (atP p n)) := by
  have h0 : ¬ 0 ∈ p := fun h => by rw [prod_zero h] at hn; omega
  have h := at_list p n (by omega) h0 hp (by omega) p.length (Nat.le_refl _)
  rw [atP_digits hn]
  refine Ev.congr (fun k => ?_) h
  unfold odo_product_at.f
  rw [ints_length, if_pos (by omega), Int.toNat_natCast, if_pos hl, w64 (by omega) (by omega)]
  simp [List.drop_length, prod, digits, ints]

/-- Is a list of the program's one of a product's? -/
def ValidP (p : List Nat) (l : List Int) : Prop := ∃ x, l = ints x ∧ IsP p x
theorem validP_of (p : List Nat) : ∀ (l : List Int), l.length = p.length → (∀ i, i < p.length → 0 ≤ rd l i ∧ rd l i < (p.getD i 0 : Nat)) → ValidP p l := by
  induction p with
  | nil =>
    intro l hl _
    obtain rfl := List.length_eq_zero_iff.1 hl
    exact ⟨[], rfl, trivial⟩
  | cons a p ih =>
    intro l hl h
    cases l with
    | nil => simp at hl
    | cons x l =>
      have h0 := h 0 (by simp)
      have hx0 : 0 ≤ x := h0.1
      have hxa : x < (a : Int) := h0.2
      obtain ⟨y, hy, hi⟩ := ih l (by simpa using hl) (fun i hi => h (i + 1) (by simpa using hi))
      refine ⟨x.toNat :: y, ?_, ?_, hi⟩
      · rw [hy]
        show _ = Int.ofNat x.toNat :: ints y
        congr 1
        show x = ((x.toNat : Nat) : Int)
        omega
      · omega
theorem validP_at {p : List Nat} {l : List Int} (h : ValidP p l) : l.length = p.length ∧ ∀ i, i < p.length → 0 ≤ rd l i ∧ rd l i < (p.getD i 0 : Nat) := by
  obtain ⟨x, rfl, hx⟩ := h
  refine ⟨by rw [ints_length, isP_length hx], fun i hi => ?_⟩
  rw [rd_ints]
  refine ⟨by omega, ?_⟩
  induction p generalizing x i with
  | nil => simp at hi
  | cons a p ih =>
    cases x with
    | nil => exact hx.elim
    | cons y x =>
      cases i with
      | zero => have := hx.1; simp; omega
      | succ i => have := ih x hx.2 i (by simpa using hi); simpa using this

theorem rank_bad (p : List Nat) (l : List Int) (hlen : l.length = p.length) (hl : p.length ≤ 9223372036854775806) (hb : ¬ ValidP p l) : ∀ (d j : Nat), j + d = p.length → (∀ i, i < j → 0 ≤ rd l i ∧ rd l i < (p.getD i 0 : Nat)) → ∀ a : Int,
    Ev (fun k => odo_product_rank.l0 k (ints p) a l (l.length : Int) (j : Int)) (0, false) := by
  intro d
  induction d with
  | zero =>
    intro j hj hv a
    exact absurd (validP_of p l hlen (fun i hi => hv i (by omega))) hb
  | succ d ih =>
    intro j hj hv a
    by_cases h1 : rd l (j : Int) < 0
    · refine Ev.step (fun k => ?_) (Ev.now _)
      simp only [odo_product_rank.l0]
      rw [if_pos (by omega), if_pos (by omega), if_pos (by omega), if_pos h1]
    · by_cases h2 : rd l (j : Int) ≥ (p.getD j 0 : Nat)
      · refine Ev.step (fun k => ?_) (Ev.now _)
        simp only [odo_product_rank.l0]
        rw [if_pos (by omega), if_pos (by omega), if_pos (by omega), if_neg h1, if_pos (by rw [ints_length]; omega), rd_ints, if_pos h2]
      · refine Ev.step (fun k => ?_) (ih (j + 1) (by omega) (fun i hi => by
          rcases Nat.lt_or_ge i j with h | h
          · exact hv i h
          · obtain rfl : i = j := by omega
            omega) (IntKind.u64.wrap ((IntKind.u64.wrap (a * (IntKind.u64.wrap ((p.getD j 0 : Nat) : Int)))) + (IntKind.u64.wrap (rd l j)))))
        simp only [odo_product_rank.l0]
        rw [if_pos (by omega), if_pos (by omega), if_pos (by omega), if_neg h1, if_pos (by rw [ints_length]; omega), rd_ints, if_neg h2, w64 (by omega) (by omega)]
        rfl
theorem rankP_snoc {p x : List Nat} (h : p.length = x.length) (a y : Nat) : rankP (p ++ [a]) (x ++ [y]) = rankP p x * a + y := by
  induction p generalizing x with
  | nil =>
    cases x with
    | nil => simp [rankP, prod]
    | cons z x => simp at h
  | cons b p ih =>
    cases x with
    | nil => simp at h
    | cons z x =>
      simp only [List.cons_append, rankP]
      rw [ih (by simpa using h), prod_append, Nat.add_mul]
      simp only [prod, Nat.mul_one]
      rw [← Nat.mul_assoc]
      omega
theorem isP_take {p x : List Nat} (h : IsP p x) (j : Nat) : IsP (p.take j) (x.take j) := by
  induction p generalizing x j with
  | nil => cases x with
    | nil => simp [IsP]
    | cons z x => exact h.elim
  | cons a p ih => cases x with
    | nil => exact h.elim
    | cons z x => cases j with
      | zero => exact trivial
      | succ j => exact ⟨h.1, ih h.2 j⟩
theorem rank_good (p x : List Nat) (hx : IsP p x) (hb : prod p < 18446744073709551616) (hp : ∀ a ∈ p, a < 9223372036854775808) (hl : p.length ≤ 9223372036854775806) : ∀ (d j : Nat), j + d = p.length →
    Ev (fun k => odo_product_rank.l0 k (ints p) ((rankP (p.take j) (x.take j) : Nat) : Int) (ints x) (p.length : Int) (j : Int)) (((rankP p x : Nat) : Int), true) := by
  have hxl := isP_length hx
  have h0 : ¬ 0 ∈ p := fun h => by have := rankP_lt hx; rw [prod_zero h] at this; omega
  intro d
  induction d with
  | zero =>
    intro j hj
    refine Ev.step (fun k => ?_) (Ev.now _)
    simp only [odo_product_rank.l0]
    rw [if_neg (by omega), List.take_of_length_le (by omega), List.take_of_length_le (by omega)]
  | succ d ih =>
    intro j hj
    have hjl : j < p.length := by omega
    have hv := (validP_at (l := ints x) ⟨x, rfl, hx⟩).2 j hjl
    rw [rd_ints] at hv
    have ha := hp _ (getD_mem hjl)
    have hs : rankP (p.take (j + 1)) (x.take (j + 1)) = rankP (p.take j) (x.take j) * p.getD j 0 + x.getD j 0 := by
      rw [take_snoc_nat p j hjl, take_snoc_nat x j (by omega), rankP_snoc (by simp; omega)]
    have hlt := rankP_lt (isP_take hx (j + 1))
    have hle := prod_take_le p h0 (j + 1)
    rw [hs] at hlt
    have hr := ih (j + 1) (by omega)
    rw [hs] at hr
    obtain ⟨A, hA⟩ : ∃ A, p.getD j 0 = A := ⟨_, rfl⟩
    obtain ⟨Y, hY⟩ : ∃ Y, x.getD j 0 = Y := ⟨_, rfl⟩
    obtain ⟨R, hR⟩ : ∃ R, rankP (p.take j) (x.take j) = R := ⟨_, rfl⟩
    have e1 := rd_ints p j
    have e2 := rd_ints x j
    rw [hA] at hr hv hlt ha e1
    rw [hY] at hr hv hlt e2
    rw [hR] at hr hlt ⊢
    obtain ⟨RA, hRA⟩ : ∃ RA, R * A = RA := ⟨_, rfl⟩
    refine Ev.step (fun k => ?_) hr
    simp only [odo_product_rank.l0]
    rw [if_pos (by omega), if_pos (by omega), if_pos (by rw [ints_length]; omega), e2, if_neg (by omega), if_pos (by rw [ints_length]; omega), e1, if_neg (by omega), w64 (by omega) (by omega),
      u64_wrap (x := (A : Int)) (by omega) (by omega), u64_wrap (x := (Y : Int)) (by omega) (by omega), Mul64.mulN, hRA]
    rw [hRA] at hlt
    rw [u64_wrap (x := (RA : Int)) (by omega) (by omega), u64_wrap (by omega) (by omega)]
    rfl
/-- What rank answers of a product. -/
theorem rankP_is (p : List Nat) (l : List Int) (hb : prod p < 18446744073709551616) (hp : ∀ a ∈ p, a < 9223372036854775808) (hl : p.length ≤ 9223372036854775806) :
    (¬ ValidP p l → Ev (fun k => odo_product_rank.f k (ints p) l) (0, false)) ∧ (∀ x, l = ints x → IsP p x → Ev (fun k => odo_product_rank.f k (ints p) l) (((rankP p x : Nat) : Int), true)) := by
  constructor
  · intro hv
    by_cases hlen : l.length = p.length
    · refine Ev.congr (fun k => ?_) (rank_bad p l hlen hl hv p.length 0 (by omega) (fun i hi => by omega) 0)
      unfold odo_product_rank.f
      rw [ints_length, if_pos (by omega)]
      rfl
    · refine Ev.congr (fun k => ?_) (Ev.now _)
      unfold odo_product_rank.f
      rw [ints_length, if_neg (by omega)]
  · rintro x rfl hx
    refine Ev.congr (fun k => ?_) (rank_good p x hx hb hp hl p.length 0 (by omega))
    have hxl := isP_length hx
    unfold odo_product_rank.f
    rw [ints_length, ints_length, if_pos (by omega), hxl]
    simp [rankP]
end Go.Proofs.Ytohpboblmmbjnaa.P
/- What a countable space of odo answers, whatever its kind. -/
namespace Go.Proofs.Ytohpboblmmbjnaa.P
open Go Go.RowKit Go.Proofs.YtohpboblmmbjnaaW.PrintWords Go.Proofs.YtohpboblmmbjnaaW.PrintLast Go.Proofs.YtohpboblmmbjnaaW.PrintMore Go.Proofs.Odo

structure Serves (T : Nat) (l : List Int) (all : Nat) (ok : Bool) (IsL : List Nat → Prop) (num : List Nat → Nat) : Prop where
  len : ∀ w v, SpAt T w v l → Calls Try.prog 9 #[v] w fun e w' => e = .returned (.tuple #[.int .u64 (if ok = true then (all : Int) else 0), .int .i64 (if ok = true then 0 else 30)]) ∧ Drawn0 w w'
  at_ : ok = true → ∀ n, n < all → ∃ x, IsL x ∧ num x = n ∧ ∀ w v, SpAt T w v l → Calls Try.prog 11 #[v, .int .u64 (n : Int)] w fun e w' => ∃ v1, e = .returned (.tuple #[v1, .int .i64 0]) ∧ Kd.R (Kd.int .i64) 3 w' w.heap.size (fun _ => True) v1 (ints x) ∧ Below w.heap.size w w'
  rank : ok = true → ∀ xs : List Int, xs.length < 9223372036854775807 → ∃ q r : Int, ((∃ x, xs = ints x ∧ IsL x ∧ q = ((num x : Nat) : Int) ∧ r = 0) ∨ ((∀ x, xs = ints x → ¬ IsL x) ∧ q = 0 ∧ r = 3)) ∧
    ∀ w v A c, SpAt T w v l → Kd.C (Kd.int .i64) w A xs.length xs → xs.length ≤ c → Calls Try.prog 14 #[v, .slice A xs.length c] w fun e w' => e = .returned (.tuple #[.int .u64 q, .int .i64 r]) ∧ Below w.heap.size w w'
  big : ok = true → all < 18446744073709551616
  lt : ∀ x, IsL x → num x < all
  inj : ∀ x y, IsL x → IsL y → num x = num y → x = y
  same : ∀ x y, IsL x → IsL y → x.length = y.length
  small : ∀ x, IsL x → x.length ≤ 64 ∧ ∀ a ∈ x, a < 9223372036854775808
  lex : ∀ p a b x y, IsL (p ++ a :: x) → IsL (p ++ b :: y) → a < b → num (p ++ a :: x) < num (p ++ b :: y)

theorem isP_lt {p x : List Nat} (h : IsP p x) (hp : ∀ a ∈ p, a < 9223372036854775808) : ∀ a ∈ x, a < 9223372036854775808 := by
  induction p generalizing x with
  | nil => cases x with
    | nil => intro a h; cases h
    | cons y x => exact h.elim
  | cons b p ih => cases x with
    | nil => intro a h; cases h
    | cons y x =>
      intro a ha
      rcases List.mem_cons.1 ha with rfl | ha
      · exact Nat.lt_trans h.1 (hp b (by simp))
      · exact ih h.2 (fun c hc => hp c (by simp [hc])) a ha
theorem serves_product (p : List Nat) (hp : ∀ a ∈ p, a < 9223372036854775808) (hl : p.length ≤ 64) : Serves 80 (ints p) (prod p) (prodRes p).2 (IsP p) (rankP p) := by
  have hcount := prod_is p (fun a ha => Nat.lt_trans (hp a ha) (by decide)) (by omega)
  have hok : (prodRes p).2 = true → prod p < 18446744073709551616 := fun h => by
    unfold prodRes at h
    split at h
    · assumption
    · cases h
  have hres : (prodRes p).2 = true → prodRes p = (((prod p : Nat) : Int), true) := fun h => by
    unfold prodRes
    rw [if_pos (hok h)]
  obtain ⟨kc, hkc⟩ := hcount.rounds
  have hkc' : odo_product_count.f kc (ints p) = some ((prodRes p).1, (prodRes p).2) := hkc
  refine ⟨fun w v hs => ?_, fun ho n hn => ?_, fun ho xs hxs => ?_, hok, fun x h => rankP_lt h, fun x y hx hy e => ?_, fun x y hx hy => ?_, fun x h => ?_, fun q a b x y hx hy hab => rankP_lex hx hy hab⟩
  · refine (odo_Len_product.calls kc (ints p) _ _ v w hs hkc').mono ?_
    rintro e w' ⟨rfl, hd⟩
    refine ⟨?_, hd⟩
    by_cases ho : (prodRes p).2 = true
    · rw [if_pos ho, if_pos ho, hres ho]; rfl
    · rw [if_neg ho, if_neg ho, if_neg ho]
  · obtain ⟨ka, hka⟩ := at_is p n hn (hok ho) hp (by omega)
    obtain ⟨K, hK⟩ := hcount
    refine ⟨atP p n, atP_is hn, rankP_atP hn, fun w v hs => ?_⟩
    have hc : odo_product_count.f (max K ka) (ints p) = some (((prod p : Nat) : Int), true) := by rw [← hres ho]; exact hK _ (Nat.le_max_left _ _)
    refine (odo_At_product.calls (max K ka) (ints p) _ _ n (ints (atP p n)) v w hs hc (fun _ _ => hka _ (Nat.le_max_right _ _))).mono ?_
    rintro e w' ⟨v1, rfl, hR, hB⟩
    have hr : atRes ((prod p : Nat) : Int) true n (ints (atP p n)) = (ints (atP p n), 0) := by unfold atRes; rw [if_pos rfl, if_neg (by omega)]
    rw [hr] at hR ⊢
    exact ⟨v1, rfl, hR, hB⟩
  · obtain ⟨h1, h2⟩ := rankP_is p xs (hok ho) hp (by omega)
    obtain ⟨K, hK⟩ := hcount
    by_cases hv : ValidP p xs
    · obtain ⟨x, rfl, hx⟩ := hv
      obtain ⟨kr, hkr⟩ := h2 x rfl hx
      refine ⟨_, 0, .inl ⟨x, rfl, hx, rfl, rfl⟩, fun w v A c hs hC hc => ?_⟩
      have hcn : odo_product_count.f (max K kr) (ints p) = some (((prod p : Nat) : Int), true) := by rw [← hres ho]; exact hK _ (Nat.le_max_left _ _)
      exact (odo_Rank_product.calls (max K kr) (ints p) _ _ A c (ints x) _ true v w hs hcn hC hc (fun _ => hkr _ (Nat.le_max_right _ _)))
    · obtain ⟨kr, hkr⟩ := h1 hv
      refine ⟨0, 3, .inr ⟨fun x e hx => hv ⟨x, e, hx⟩, rfl, rfl⟩, fun w v A c hs hC hc => ?_⟩
      have hcn : odo_product_count.f (max K kr) (ints p) = some (((prod p : Nat) : Int), true) := by rw [← hres ho]; exact hK _ (Nat.le_max_left _ _)
      exact (odo_Rank_product.calls (max K kr) (ints p) _ _ A c xs 0 false v w hs hcn hC hc (fun _ => hkr _ (Nat.le_max_right _ _)))
  · rw [← atP_rankP hx, ← atP_rankP hy, e]
  · rw [isP_length hx, isP_length hy]
  · exact ⟨by rw [isP_length h]; exact hl, isP_lt h hp⟩

theorem rankW_good (v L : List Nat) (a : Nat) (h : Is v L) : rankW v (ints L) a = (a + rank v L, true) := by
  induction L generalizing v a with
  | nil =>
    have hv : v.sum = 0 := h
    show (a, decide (v.sum = 0)) = _
    rw [decide_eq_true hv]; rfl
  | cons x L ih =>
    have hx := getD_lt h.1
    show rankW v ((x : Int) :: ints L) a = _
    rw [rankW, if_pos ⟨by omega, by omega, by rw [Int.toNat_natCast]; exact h.1⟩, Int.toNat_natCast, ih _ _ h.2]
    show (a + shares v x + rank (less v x) L, true) = (a + (shares v x + rank (less v x) L), true)
    rw [Nat.add_assoc]
theorem rankW_true (v : List Nat) (l : List Int) (a : Nat) (h : (rankW v l a).2 = true) : ∃ L, l = ints L ∧ Is v L := by
  induction l generalizing v a with
  | nil => exact ⟨[], rfl, (of_decide_eq_true h : v.sum = 0)⟩
  | cons x l ih =>
    rw [rankW] at h
    split at h
    · rename_i hc
      obtain ⟨L, e, hL⟩ := ih _ _ h
      obtain ⟨i, rfl⟩ : ∃ i : Nat, x = i := ⟨x.toNat, by omega⟩
      rw [Int.toNat_natCast] at hL hc
      exact ⟨i :: L, by rw [e]; rfl, hc.2.2, hL⟩
    · cases h
theorem is_lt {v L : List Nat} (h : Is v L) : ∀ a ∈ L, a < v.length := by
  induction L generalizing v with
  | nil => intro a h; cases h
  | cons x L ih =>
    intro a ha
    rcases List.mem_cons.1 ha with rfl | ha
    · exact getD_lt h.1
    · have := ih h.2 a ha; rwa [less_length] at this
theorem serves_weaves (p : List Nat) (hs : p.sum ≤ 64) (hl : p.length ≤ 64) : Serves 82 (ints p) (mc p) (countRes p).2 (Is p) (rank p) := by
  have hcount := count_is p hs (by omega)
  have hok : (countRes p).2 = true → mc p < 18446744073709551616 := fun h => by
    unfold countRes at h
    split at h
    · assumption
    · cases h
  have hres : (countRes p).2 = true → countRes p = (((mc p : Nat) : Int), true) := fun h => by
    unfold countRes
    rw [if_pos (hok h)]
  obtain ⟨kc, hkc⟩ := hcount.rounds
  have hkc' : odo_weaves_count.f kc (ints p) = some ((countRes p).1, (countRes p).2) := hkc
  refine ⟨fun w v hs => ?_, fun ho n hn => ?_, fun ho xs hxs => ?_, hok, fun x h => rank_lt h, fun x y hx hy e => rank_inj hx hy e, fun x y hx hy => ?_, fun x h => ?_, fun q a b x y hx hy hab => rank_lex hx hy hab⟩
  · refine (odo_Len_weaves.calls kc (ints p) _ _ v w hs hkc').mono ?_
    rintro e w' ⟨rfl, hd⟩
    refine ⟨?_, hd⟩
    by_cases ho : (countRes p).2 = true
    · rw [if_pos ho, if_pos ho, hres ho]; rfl
    · rw [if_neg ho, if_neg ho, if_neg ho]
  · obtain ⟨x, hx, hr⟩ := list_ex _ p n rfl hn
    rw [hres ho] at hkc
    refine ⟨x, hx, hr, fun w v hsp => ?_⟩
    refine (odo_At_weaves.calls kc p x hs hl _ _ n v w hsp hkc (fun _ _ => ⟨hok ho, hx, by rw [hr]⟩)).mono ?_
    rintro e w' ⟨v1, rfl, hR, hB⟩
    have hr : atRes ((mc p : Nat) : Int) true n (ints x) = (ints x, 0) := by unfold atRes; rw [if_pos rfl, if_neg (by omega)]
    rw [hr] at hR ⊢
    exact ⟨v1, rfl, hR, hB⟩
  · rw [hres ho] at hkc
    by_cases hv : (rankW p xs 0).2 = true
    · obtain ⟨x, rfl, hx⟩ := rankW_true p xs 0 hv
      have hg := rankW_good p x 0 hx
      rw [Nat.zero_add] at hg
      refine ⟨_, 0, .inl ⟨x, rfl, hx, rfl, rfl⟩, fun w v A c hsp hC hc => ?_⟩
      exact (odo_Rank_weaves.calls kc p hs hl _ _ A c (ints x) hxs _ true v w hsp hkc hC hc (fun _ => ⟨hok ho, by rw [hg], by rw [hg]⟩))
    · refine ⟨0, 3, .inr ⟨fun x e hx => hv (by rw [e, rankW_good p x 0 hx]), rfl, rfl⟩, fun w v A c hsp hC hc => ?_⟩
      exact (odo_Rank_weaves.calls kc p hs hl _ _ A c xs hxs _ false v w hsp hkc hC hc (fun _ => ⟨hok ho, rfl, (Bool.eq_false_iff.2 hv).symm⟩))
  · rw [is_length hx, is_length hy]
  · exact ⟨by rw [is_length h]; exact hs, fun a ha => by have := is_lt h a ha; omega⟩
end Go.Proofs.Ytohpboblmmbjnaa.P
