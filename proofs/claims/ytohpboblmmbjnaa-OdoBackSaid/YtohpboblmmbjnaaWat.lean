/- The contract of odo's at of weaves. -/
import Derived.Test.YtohpboblmmbjnaaWat0
namespace Go.Proofs.Ytohpboblmmbjnaa.P
open Go Go.RowKit Go.Shelf Go.Proofs.YtohpboblmmbjnaaW.PrintWords Go.Proofs.YtohpboblmmbjnaaW.PrintLast Go.Proofs.YtohpboblmmbjnaaW.PrintMore Go.Proofs.Odo
attribute [local go_sem] Oper.semAt_some

def lenCell : Option Value → Nat
  | some (.slice _ n _) => n
  | _ => 0
theorem nums_snoc {L' L : List Nat} {x : Nat} (h : L' = L ++ [x]) : nums .i64 (ints L) ++ [.int .i64 (x : Int)] = nums .i64 (ints L') := by
  subst h
  simp [nums, ints]
theorem last_at {L' L : List Nat} {j x : Nat} (h : L' = L.take j ++ [x]) (hj : j ≤ L.length) : L'.getD j 0 = x := by
  subst h
  rw [List.getD_eq_getElem?_getD, List.getElem?_append_right (by rw [List.length_take]; omega), List.length_take, Nat.min_eq_left hj, Nat.sub_self]
  rfl
theorem sub_next2 {j n : Nat} (h : j < n) {A A' : Option Addr} {c c' : Nat} : n - lenCell (some (.slice A (j + 1) c)) < n - lenCell (some (.slice A' j c')) := by simp only [lenCell]; omega
theorem take_drop_snoc {L T : List Nat} {j x : Nat} (h : L.drop j = x :: T) : L.take (j + 1) = L.take j ++ [x] := by
  have hj : j < L.length := by
    rcases Nat.lt_or_ge j L.length with h1 | h1
    · exact h1
    · rw [List.drop_eq_nil_of_le h1] at h; cases h
  rw [List.drop_eq_getElem_cons hj] at h
  rw [List.take_succ_eq_append_getElem hj, (List.cons.inj h).1]
set_option maxHeartbeats 2000000 in
set_option maxRecDepth 100000 in
theorem weaves_at.calls (v L : List Nat) (A0 : Option Addr) (c0 : Nat) (w : World) (hr0 : Kd.C (Kd.int .i64) w A0 (ints v).length (ints v)) (hc0 : (ints v).length ≤ c0)
    (hs : v.sum ≤ 64) (hl : v.length ≤ 64) (hm : mc v < 18446744073709551616) (hIs : Is v L) :
    Calls Try.prog 68 #[.slice A0 (ints v).length c0, .int .u64 (rank v L)] w fun e w' => ∃ v1, e = .returned v1 ∧ w'.ownsRow w.heap.size 3 1 v1 L.length (nums .i64 (ints L)) ∧ Below w.heap.size w w' := by
  have HR0 := Aside0.mk hr0
  have HC0 := Aside0.mk hc0
  have hcl : Aside0 (slices_Clone_odo_weaves_int.f (ints v) = some (ints v)) := ⟨by
    unfold slices_Clone_odo_weaves_int.f
    simp only [Option.bind_some, List.length_nil, List.nil_append]
    rw [if_pos (by rw [ints_length]; omega)]⟩
  have HBND := Aside0.mk hl
  have HMC := Aside0.mk hm
  have HIS := Aside0.mk hIs
  obtain ⟨n0, hn0⟩ : ∃ n0, rank v L = n0 := ⟨_, rfl⟩
  rw [hn0]
  have HN0 := Aside0.mk hn0
  have HB0 := Aside0.mk (Bag.fresh (B := w.heap.size) (w := w) (ds := []) (rows := []) (cells := []) (W := w) ⟨by simp, by simp, by simp [blocks], ⟨List.nodup_nil, by simp⟩, by simp, Below.refl _ _, Nat.le_refl _⟩ 25 (.int .u64 n0))
  clear hr0 hc0 hm hIs hn0
  refine (callsIn_wide (n := 3)).1 ?_
  refine callsIn_of_wp_marks Try.func68 rfl trivial ?_ rfl
  simp only [Try.ntmps68, List.size_toArray, List.length_cons, List.length_nil, Nat.reduceAdd, Nat.reduceSub, Array.replicate_succ, Array.replicate_zero, List.push_toArray, List.append_toArray, List.nil_append, List.cons_append]
  gi_wp2_with fail
  refine ⟨trivial, ?_⟩
  refine (callsIn_wide.2 (slices_Clone_odo_weaves_int.calls A0 c0 (ints v) (ints v) _ (Kd.C_below HR0.out (below_alloc (Below.refl _ _) _)) HC0.out hcl.out)).mono ?_
  rintro e w1 ⟨v1, rfl, hR1, hB1⟩
  obtain ⟨AL, cL, rfl⟩ := Kd.R_slice hR1
  have hO := Kd.own_of_R hR1
  rw [ints_length] at hO
  have HB1 := Aside0.mk (HB0.out.hold hB1 hO)
  clear hR1 hB1 hO HB0
  simp only [ints_length]
  have HB2 := Aside0.mk (HB1.out.hold (W' := w1.alloc (.cells #[] 3)) (v := .slice (some ⟨w1.heap.size, 0, none⟩) 0 0) (n := 0) (xs := []) (below_alloc (Below.refl _ _) _) (own_lit w1 w1.heap.size 3 .i64 [] (Nat.le_refl _) (Nat.zero_le _)))
  replace HB2 := Aside0.mk (HB2.out.fresh 22 (.slice (some ⟨w1.heap.size, 0, none⟩) 0 0))
  clear HB1
  have hcs : (w1.alloc (.cells #[] 3)).heap.size = w1.heap.size + 1 := by simp
  rw [hcs] at HB2
  have HSM := Aside0.mk hs
  clear hcs
  gi_wp2_with fail
  gi_loopw [7, 17] (fun p7 p17 wr => ∃ q : Nat, p7 = .int .i64 (((v.take q).sum : Nat) : Int) ∧ p17 = .int .i64 q ∧ q ≤ v.length ∧ Aside0 (Bag w.heap.size w [] [(.slice (some ⟨w1.heap.size, 0, none⟩) 0 0, 0, []), (.slice AL v.length cL, v.length, ints v)] [(w1.heap.size + 1, 22, .slice (some ⟨w1.heap.size, 0, none⟩) 0 0), (w.heap.size, 25, .int .u64 n0)] wr)) (fun _ p17 _ => v.length - (intOf p17).toNat)
  case atStart => exact ⟨0, rfl, rfl, Nat.zero_le _, HB2⟩
  case round =>
    clear HB2
    obtain ⟨q, rfl, rfl, hq, HB2⟩ := hrel
    by_cases hlt : q < v.length
    · have hx := Kd.at_int HR0.out (q : Int) (by omega) (by rw [ints_length]; omega)
      obtain ⟨ad, e0, hx0⟩ := hx
      cases e0
      rw [Int.toNat_natCast, rd_ints] at hx0
      have hxW := pw_cell_below HB2.out.below hx0
      have hst := sum_step hlt hs
      obtain ⟨y, hy⟩ : ∃ y, v.getD q 0 = y := ⟨_, rfl⟩
      rw [hy] at hxW hst
      have hq1 : wrap64 ((q : Int) + 1) = ((q + 1 : Nat) : Int) := by rw [w64 (by omega) (by omega)]; omega
      clear hx0 hy
      gi_wp2_with fail
      exact ⟨⟨q + 1, by rw [hst], by go_num, by omega, HB2⟩, by simp [intOf]; omega⟩
    · have hge : v.length ≤ q := by omega
      obtain rfl : q = v.length := by omega
      have hall : (v.take v.length).sum = L.length := by rw [List.take_length, is_length HIS.out]
      rw [hall]
      gi_wp2_with fail
      refine wpIn_loop (fun a W => ∃ (x10 x11 x25 x26 x27 x28 x29 x30 x31 x32 x33 x34 x35 x36 x37 x38 x39 x40 x41 x42 x43 x44 x45 x46 x47 x48 x49 x50 x51 x52 x53 : Value) (ds : List Nat) (j : Nat) (vj : List Nat) (vl : Value), (j ≤ L.length ∧ Aside0 (Is vj (L.drop j)) ∧ Aside0 (vj.length = v.length) ∧ Aside0 (vj.sum ≤ 64) ∧ Aside0 (mc vj ≤ mc v) ∧ Aside0 (Bag w.heap.size w ds [(vl, j, ints (L.take j)), (.slice AL v.length cL, v.length, ints vj)] [(w1.heap.size + 1, 22, vl), (w.heap.size, 25, .int .u64 (rank vj (L.drop j)))] W)) ∧
        a = { tmps := #[.slice A0 v.length c0, .int .u64 n0, undef, .pointer (some ⟨w.heap.size, 0, none⟩), .slice none 0 0, .slice AL v.length cL, .pointer (some ⟨w1.heap.size + 1, 0, none⟩), .int .i64 L.length, undef, u9, x10, x11, .slice A0 v.length c0, .slice AL v.length cL, .slice (some ⟨w1.heap.size, 0, none⟩) 0 0, .slice A0 v.length c0, .int .i64 v.length, .int .i64 v.length, .bool false, u19, u20, u21, u22, u23, u24, x25, x26, x27, x28, x29, x30, x31, x32, x33, x34, x35, x36, x37, x38, x39, x40, x41, x42, x43, x44, x45, x46, x47, x48, x49, x50, x51, x52, x53, undef], defers := marks ds })
        (fun _ W => L.length - lenCell (W.cell? ⟨w1.heap.size + 1, 0, none⟩)) ?start ?round
      case start => exact ⟨undef, undef, undef, undef, undef, undef, undef, undef, undef, undef, undef, undef, undef, undef, undef, undef, undef, undef, undef, undef, undef, undef, undef, undef, undef, undef, undef, undef, undef, undef, undef, [], 0, v, _, ⟨Nat.zero_le _, HIS, ⟨rfl⟩, ⟨hs⟩, ⟨Nat.le_refl _⟩, by rw [List.drop_zero, HN0.out]; exact HB2⟩, rfl⟩
      case round =>
        clear HB2
        rintro a W ⟨x10, x11, x25, x26, x27, x28, x29, x30, x31, x32, x33, x34, x35, x36, x37, x38, x39, x40, x41, x42, x43, x44, x45, x46, x47, x48, x49, x50, x51, x52, x53, ds, j, vj, vl, ⟨hj, HI, HL, HS, HM, HG⟩, rfl⟩
        have hform : ∃ A c, vl = .slice A j c := own_form (HG.out.row (vl, j, ints (L.take j)) (by simp))
        obtain ⟨Al, cl, rfl⟩ := hform
        obtain ⟨hcl1, hcl2⟩ := HG.out.cellOf (c := (w1.heap.size + 1, 22, .slice Al j cl)) (by simp)
        by_cases hlt : j < L.length
        · obtain ⟨x, T, hxT⟩ : ∃ x T, L.drop j = x :: T := ⟨_, _, List.drop_eq_getElem_cons hlt⟩
          have hT : L.drop (j + 1) = T := by rw [← List.drop_drop, hxT]; rfl
          have htake : L.take (j + 1) = L.take j ++ [x] := take_drop_snoc hxT
          have HT := Aside0.mk hT
          have HTK := Aside0.mk htake
          have hP := HI.out
          rw [hxT] at hP
          have HP := Aside0.mk hP
          rw [hxT] at HG
          have hvj : vj.length = v.length := HL.out
          have hiN : x < v.length := by rw [← hvj]; exact getD_lt hP.1
          have hmc : mc vj < 18446744073709551616 := Nat.lt_of_le_of_lt HM.out HMC.out
          obtain ⟨kc, hkc⟩ := counts_are vj HS.out (by rw [hvj]; exact HBND.out) hmc vj.length
          obtain ⟨more, hmore⟩ : ∃ more : Nat → Nat, ∀ q, more q = mc (less vj q) := ⟨_, fun _ => rfl⟩
          obtain ⟨acc, hacc⟩ : ∃ acc : Nat → Nat, ∀ q, acc q = rank vj (x :: T) - shares vj q := ⟨_, fun _ => rfl⟩
          have hrl : rank vj (x :: T) ≤ mc vj := Nat.le_of_lt (rank_lt hP)
          have HON := Aside0.mk (show ∀ q, q < x → vj.getD q 0 ≠ 0 → ¬ acc q < more q ∧ IntKind.u64.wrap ((acc q : Int) - (more q : Int)) = (acc (q + 1) : Int) from fun q hq hz => by
            rw [hacc, hacc, hmore]; exact pick_on hP hq hz hrl hmc)
          have HKP := Aside0.mk (show ∀ q, vj.getD q 0 = 0 → acc (q + 1) = acc q from fun q hz => by rw [hacc, hacc]; exact pick_keep hz)
          have HAT := Aside0.mk (show acc x < more x ∧ acc x = rank (less vj x) T by rw [hacc, hmore]; exact pick_at hP)
          have ha0 : acc 0 = rank vj (x :: T) := by rw [hacc]; rfl
          rw [← ha0] at HG
          have HY := Aside0.mk hP.1
          have HS1 := Aside0.mk (fun D (hD : D ∈ ds) => HG.out.lt hD)
          have HVB := Aside0.mk (show ∀ k, (Value.slice Al j cl).ownBlock = some k → k < W.heap.size from fun k hk => ((HG.out.row (.slice Al j cl, j, ints (L.take j)) (by simp)).lt k hk).2)
          have hrl2 := HG.out.row (.slice AL v.length cL, v.length, ints vj) (by simp)
          obtain ⟨g, rfl⟩ := own_ptr hrl2 (Nat.lt_of_le_of_lt (Nat.zero_le _) hiN)
          have heach := each_stops 2 (by decide) g cL vj kc (fun q => ((more q : Nat) : Int)) (fun _ => true) (fun u hu => sum_small (mem_le_sum hu) HS.out) (by rw [hvj]; exact HBND.out) (fun q h1 h2 => by rw [hmore]; exact hkc kc (Nat.le_refl _) q h1 h2)
          rw [hvj] at heach
          have HEA := Aside0.mk heach
          have HLT := Aside0.mk hlt
          have HIN := Aside0.mk hiN
          have HVJ := Aside0.mk hvj
          have hj64 : j < 64 := Nat.lt_of_lt_of_le hlt (by rw [is_length HIS.out]; exact HSM.out)
          have HJ := Aside0.mk hj64
          clear hxT hT htake hP hmc hkc hmore hacc hrl ha0 hrl2 heach
          gi_wp2_with fail
          refine wpIn_rangeFunc_each rfl (by decide) (gf := 74) (fb := #[.slice (some ⟨g, 0, none⟩) v.length cL]) rfl trivial (enters_of Try.func74 (by kernel_rfl) rfl) HEA.out (fun _ => rfl)
            (fun q W' => q ≤ x ∧ Bag w.heap.size w ds [(.slice Al j cl, j, ints (L.take j)), (.slice (some ⟨g, 0, none⟩) v.length cL, v.length, ints vj)] [(w1.heap.size + 1, 22, .slice Al j cl), (w.heap.size, 25, .int .u64 (acc q))] W')
            (fun c W' => c = .exit 4 ∧ ∃ A2 c2, Bag w.heap.size w ds [(.slice A2 (j + 1) c2, j + 1, ints (L.take (j + 1))), (.slice (some ⟨g, 0, none⟩) v.length cL, v.length, ints vj)] [(w1.heap.size + 1, 22, .slice A2 (j + 1) c2), (w.heap.size, 25, .int .u64 (acc x))] W')
            ?hI ?hIx ?hRow ?hskip ?h0
            (fun q => { tmps := #[.slice A0 v.length c0, .int .u64 n0, undef, .pointer (some ⟨w.heap.size, 0, none⟩), .slice none 0 0, .slice (some ⟨g, 0, none⟩) v.length cL, .pointer (some ⟨w1.heap.size + 1, 0, none⟩), .int .i64 L.length, undef, u9, .int .i64 q, .int .u64 (more q), .slice A0 v.length c0, .slice (some ⟨g, 0, none⟩) v.length cL, .slice (some ⟨w1.heap.size, 0, none⟩) 0 0, .slice A0 v.length c0, .int .i64 v.length, .int .i64 v.length, .bool false, u19, u20, u21, u22, u23, u24, .slice Al j cl, .int .i64 j, .int .i64 L.length, .bool true, .slice (some ⟨g, 0, none⟩) v.length cL, .func (.func 74) #[.slice (some ⟨g, 0, none⟩) v.length cL] #[], .int .i64 q, .int .u64 (more q), x33, x34, x35, x36, x37, x38, x39, x40, x41, x42, x43, x44, x45, x46, x47, x48, x49, x50, x51, x52, x53, undef], defers := [] }) ?assign ?body ?done ?stop
          case hI =>
            exact OwnFrom.and (ownFrom_pure _ _) (fun q W1 W2 row h hg hr => Bag.own (β := Nat) HS1.out (Nat.le_trans HG.out.hB HG.out.below.size) q W1 W2 row h hg hr)
          case hIx =>
            rintro c W1 W2 row ⟨hc, A2, c2, h⟩ hg hr
            exact ⟨hc, A2, c2, Bag.own (β := Code) HS1.out (Nat.le_trans HG.out.hB HG.out.below.size) c W1 W2 row h hg hr⟩
          case hRow =>
            intro q W1 h
            have h1 := h.2.row (.slice (some ⟨g, 0, none⟩) v.length cL, v.length, ints vj) (by simp)
            unfold LeftRow
            rw [HVJ.out]
            exact own_le h1 (Nat.zero_le _)
          case hskip =>
            rintro q W1 ⟨hq, hb⟩ hlt2 hno
            have hz2 : vj.getD q 0 = 0 := Classical.byContradiction fun h => by
              rw [decide_eq_true h] at hno; cases hno
            have hne : q ≠ x := fun e => by subst e; exact HY.out hz2
            rw [← HKP.out q hz2] at hb
            exact ⟨by omega, hb⟩
          case h0 => exact ⟨Nat.zero_le _, HG.out⟩
          case assign =>
            intro lp q W1 K hK
            gi_wp2_with fail
            exact hK
          case body =>
            rintro lp q W1 hlp ⟨hq, hb⟩ hlt2 hyes
            obtain ⟨d1, f1⟩ := hb.cellOf (c := (w.heap.size, 25, .int .u64 (acc q))) (by simp)
            obtain ⟨d2, f2⟩ := hb.cellOf (c := (w1.heap.size + 1, 22, .slice Al j cl)) (by simp)
            by_cases he : q = x
            · subst he
              have hd : decide (acc q < more q) = true := decide_eq_true HAT.out.1
              have hd2 : decide ((acc q : Int) < more q) = true := decide_eq_true (Int.ofNat_lt.2 HAT.out.1)
              have HB9 := Aside0.mk hb
              clear hb
              gi_wp2_with (gi_at_builtin; refine append_oneIn W1 rfl (.tmp 36) (.tmp 38) 22 rfl Try.underlying22 info3 w.heap.size (.slice Al j cl) j (nums .i64 (ints (L.take j))) (q : Int) rfl rfl (HB9.out.row (.slice Al j cl, j, ints (L.take j)) (by simp)) (Nat.le_trans (Nat.le_of_lt HJ.out) (by decide)) HB9.out.below.size ?_; intro v' w' hr hg hat; rw [nums_snoc HTK.out] at hr; have hf : ∃ A c, v' = .slice A (j + 1) c := own_form hr; obtain ⟨A2, c2, rfl⟩ := hf; have hb2 := HB9.out.appended hr hg hat; obtain ⟨e1, g1⟩ := hb2.cellOf (c := (w1.heap.size + 1, 22, .slice Al j cl)) (by simp); replace hb2 := Aside0.mk hb2; replace hg := Aside0.mk hg; clear hr hat)
              refine ⟨(KeepsFrom.of_grownBy (World.grownBy.trans (World.grownBy_alloc W1 _ _) hg.out) HVB.out).trans ((KeepsOthers.setCell _ _ _).from _), rfl, A2, c2, hb2.out.set (.slice A2 (j + 1) c2)⟩
            · have hne : vj.getD q 0 ≠ 0 := of_decide_eq_true hyes
              obtain ⟨hn1, hw⟩ := HON.out q (by omega) hne
              have hd : decide (acc q < more q) = false := decide_eq_false hn1
              have hd2 : decide ((acc q : Int) < more q) = false := decide_eq_false (fun h => hn1 (Int.ofNat_lt.1 h))
              clear hn1
              gi_wp2_with fail
              refine ⟨(KeepsOthers.setCell _ _ _).from _, by omega, ?_⟩
              exact ((hb.perm (.refl _) (.swap _ _ _)).set (.int .u64 (acc (q + 1)))).perm (.refl _) (.swap _ _ _)
          case done =>
            rintro D W1 hD ⟨hq, hb⟩ hDD
            omega
          case stop =>
            rintro D c W1 hD ⟨rfl, A2, c2, hb⟩ hDD
            have hBD : w.heap.size ≤ D := Nat.le_trans HG.out.below.size hD
            have HB2 := Aside0.mk (hb.mark hBD (fun h => by have := HS1.out D h; omega) hDD)
            obtain ⟨e1, g1⟩ := hb.cellOf (c := (w1.heap.size + 1, 22, .slice A2 (j + 1) c2)) (by simp)
            have hrow2 := hb.row (.slice A2 (j + 1) c2, j + 1, ints (L.take (j + 1))) (by simp)
            obtain ⟨g2, rfl⟩ := own_ptr hrow2 (Nat.succ_pos j)
            have hat2 := own_at hrow2 (j : Int) (by omega) (by show (j : Int) < ((j + 1 : Nat) : Int); omega)
            rw [Int.toNat_natCast, rd_ints, last_at HTK.out (Nat.le_of_lt HLT.out)] at hat2
            obtain ⟨hcj, hfj⟩ := hat2
            have hat := own_at (hb.row (.slice (some ⟨g, 0, none⟩) v.length cL, v.length, ints vj) (by simp)) (x : Int) (by omega) (by show (x : Int) < v.length; omega)
            obtain ⟨y, hy⟩ : ∃ y, vj.getD x 0 = y := ⟨_, rfl⟩
            have HYY := Aside0.mk hy
            rw [Int.toNat_natCast, rd_ints, hy] at hat
            obtain ⟨hcx, hfx⟩ := hat
            clear hrow2 hb hy
            gi_wp2_with fail
            have hB3 := ((HB2.out.perm (.swap _ _ _) (.refl _)).setRow (x : Int) (wrap64 ((y : Int) - 1))).perm (.swap _ _ _) (.refl _)
            rw [Int.toNat_natCast, ints_less HYY.out (HYY.out ▸ HY.out) (sum_small (mem_le_sum_at HYY.out (HYY.out ▸ HY.out)) HS.out), HAT.out.2, ← HT.out] at hB3
            obtain ⟨e2, _⟩ := hB3.cellOf (c := (w1.heap.size + 1, 22, .slice (some ⟨g2, 0, none⟩) (j + 1) c2)) (by simp)
            refine ⟨⟨_, _, _, _, _, _, _, _, _, _, _, _, _, _, _, _, _, _, _, _, _, _, _, _, _, _, _, _, _, _, _, D :: ds, ⟨j + 1, HLT.out, less vj x, ⟨?g1⟩, ⟨?g2⟩, ⟨?g3⟩, ⟨?g4⟩, _, ⟨hB3⟩⟩, ⟨rfl, rfl, rfl, rfl, rfl, rfl, rfl, rfl, rfl, rfl, rfl, rfl, rfl, rfl, rfl, rfl, rfl, rfl, rfl, rfl, rfl, rfl, rfl, rfl, rfl, rfl, rfl, rfl, rfl, rfl, rfl⟩, rfl⟩, ?g7⟩
            case g1 => rw [HT.out]; exact HP.out.2
            case g2 => rw [less_length]; exact HVJ.out
            case g3 => have := less_sum vj x HY.out; have := HS.out; omega
            case g4 => exact Nat.le_trans (mc_less_le HY.out) HM.out
            case g7 => rw [e2]; exact sub_next2 HLT.out
        · have hge : L.length ≤ j := by omega
          obtain rfl : j = L.length := by omega
          gi_wp2_with fail
          refine leaves_marks ds _ HG.out.un ⟨_, results_tmp rfl _ _ _, ⟨_, rfl, ?_, shutAll_below (Nat.le_refl _) ds _ HG.out.below HG.out.lo⟩⟩
          have h1 := shut_own ds W HG.out.un (HG.out.row (.slice Al L.length cl, L.length, ints (L.take L.length)) (by simp))
          rw [List.take_length] at h1
          exact h1
end Go.Proofs.Ytohpboblmmbjnaa.P
