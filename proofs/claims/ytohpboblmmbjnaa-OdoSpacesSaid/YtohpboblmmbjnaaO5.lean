/- The contract of odo's rank of weaves. -/
import Derived.Test.YtohpboblmmbjnaaApp
import Derived.Test.YtohpboblmmbjnaaP6
import Derived.RangeFuncBox
import Derived.Deep.RegionLaw
import Derived.Test.YtohpboblmmbjnaaMulti
namespace Go.Proofs.Ytohpboblmmbjnaa.P
open Go Go.RowKit Go.Shelf Go.Proofs.YtohpboblmmbjnaaW.PrintWords Go.Proofs.YtohpboblmmbjnaaW.PrintLast Go.Proofs.YtohpboblmmbjnaaW.PrintMore Go.Proofs.Odo
attribute [local go_sem] Oper.semAt_some

theorem mem_le_sum : ∀ {v : List Nat} {x : Nat}, x ∈ v → x ≤ v.sum
  | y :: v, x, h => by
    rw [List.sum_cons]
    rcases List.mem_cons.1 h with rfl | h
    · omega
    · have := mem_le_sum h
      omega
theorem own_le {w : World} {base base' size n : Nat} {e : TypeId} {v : Value} {xs : List Value} (h : w.ownsRow base e size v n xs) (hb : base' ≤ base) : w.ownsRow base' e size v n xs := by
  refine ⟨h.1, ?_⟩
  rcases h.2 with h2 | ⟨g, cap, cur, hv, hg, hrest⟩
  · exact .inl h2
  · exact .inr ⟨g, cap, cur, hv, Nat.le_trans hb hg, hrest⟩
theorem acc_step {a s m s' M V : Nat} (h1 : s' = s + m) (h2 : s' ≤ M) (h3 : a + M ≤ V) (h4 : V < 18446744073709551616) : IntKind.u64.wrap (((a + s : Nat) : Int) + (m : Int)) = ((a + s' : Nat) : Int) := by
  rw [u64_wrap (by omega) (by omega)]; omega
theorem sum_small {x s : Nat} (h : x ≤ s) (hs : s ≤ 64) : x < 9223372036854775808 := by omega
theorem sub_next {j n : Nat} (h : j < n) : n - (intOf (.int .i64 ((j + 1 : Nat) : Int))).toNat < n - (intOf (.int .i64 (j : Int))).toNat := by simp only [intOf, Int.toNat_natCast]; omega
theorem mem_le_sum_at {v : List Nat} {i y : Nat} (h : v.getD i 0 = y) (hy : y ≠ 0) : y ≤ v.sum := by
  have hi := getD_lt (h ▸ hy)
  rw [List.getD_eq_getElem?_getD, List.getElem?_eq_getElem hi] at h
  exact mem_le_sum (by rw [← h]; exact List.getElem_mem hi)
theorem ints_less {v : List Nat} {i y : Nat} (h : v.getD i 0 = y) (hy : y ≠ 0) (hs : y < 9223372036854775808) : (ints v).set i (wrap64 ((y : Int) - 1)) = ints (less v i) := by
  rw [w64 (by omega) (by omega)]
  unfold less ints
  rw [List.map_set, h]
  congr 1
  show _ = ((y - 1 : Nat) : Int)
  omega
theorem small_bytes {n : Nat} (h : n ≤ 64) : ([(0 : Int)].length + n) * 8 ≤ 140737488355328 := by simp; omega
theorem then_none {P : Program} {c : Code} {K : Act → World → Prop} {Q : Exit → Act → World → Prop} {a : Act} {w : World} (h : c.wp P (Exit.then K (fun _ _ _ => False)) a w) : c.wp P (Exit.then K Q) a w :=
  wp_mono h fun e a w h => by cases e <;> first | exact h | exact h.elim
theorem wrap_next {j n : Nat} (h : j < n) (hn : n < 9223372036854775807) : wrap64 ((j : Int) + 1) = ((j + 1 : Nat) : Int) := by rw [w64 (by omega) (by omega)]; omega
theorem Unshut.alloc {W : World} {ds : List Nat} (h : Unshut W ds) (o : Obj) : Unshut (W.alloc o) ds := ⟨h.1, fun D hD => by
  have h0 := h.2 D hD
  exact (Below.heap_alloc _ _ _ (Array.getElem?_eq_some_iff.1 h0).1).trans h0⟩
theorem mc_less_le {v : List Nat} {i : Nat} (h : v.getD i 0 ≠ 0) : mc (less v i) ≤ mc v := by
  have hi := getD_lt h
  have h1 := shares_le v (show i + 1 ≤ v.length from hi)
  rw [shares_succ] at h1
  have h2 := less_sum v i h
  rw [shares_all v (by omega)] at h1
  have h3 : share v i = mc (less v i) := by unfold share; rw [if_neg h]
  omega
theorem counts_are (v : List Nat) (hs : v.sum ≤ 64) (hl : v.length ≤ 64) (hm : mc v < 18446744073709551616) (N : Nat) : ∃ k, ∀ k', k ≤ k' → ∀ i, i < N → v.getD i 0 ≠ 0 → odo_weaves_count.f k' (ints (less v i)) = some (((mc (less v i) : Nat) : Int), true) := by
  induction N with
  | zero => exact ⟨0, fun k' _ i hi => absurd hi (by omega)⟩
  | succ N ih =>
    obtain ⟨k, hk⟩ := ih
    by_cases hz : v.getD N 0 = 0
    · refine ⟨k, fun k' hk' i hi hne => ?_⟩
      rcases Nat.lt_or_ge i N with h | h
      · exact hk k' hk' i h hne
      · obtain rfl : i = N := by omega
        exact absurd hz hne
    · have h1 := less_sum v N hz
      obtain ⟨k2, hk2⟩ := count_is (less v N) (by omega) (by rw [less_length]; omega)
      refine ⟨max k k2, fun k' hk' i hi hne => ?_⟩
      rcases Nat.lt_or_ge i N with h | h
      · exact hk k' (by omega) i h hne
      · obtain rfl : i = N := by omega
        refine (hk2 k' (by omega)).trans ?_
        unfold countRes
        rw [if_pos (by have := mc_less_le hz; omega)]

/-- What rank answers, of the numbers that are left and what has been counted. -/
def rankW : List Nat → List Int → Nat → Nat × Bool
  | v, [], a => (a, decide (v.sum = 0))
  | v, x :: l, a => if 0 ≤ x ∧ x < v.length ∧ v.getD x.toNat 0 ≠ 0 then rankW (less v x.toNat) l (a + shares v x.toNat) else (0, false)

set_option maxHeartbeats 2000000 in
set_option maxRecDepth 100000 in
theorem weaves_rank.calls (v : List Nat) (A0 : Option Addr) (c0 : Nat) (A1 : Option Addr) (c1 : Nat) (l : List Int) (w : World) (hr0 : Kd.C (Kd.int .i64) w A0 (ints v).length (ints v)) (hc0 : (ints v).length ≤ c0)
    (hr1 : Kd.C (Kd.int .i64) w A1 l.length l) (hc1 : l.length ≤ c1) (hs : v.sum ≤ 64) (hl : v.length ≤ 64) (hm : mc v < 18446744073709551616) (hL : l.length < 9223372036854775807) :
    Calls Try.prog 72 #[.slice A0 (ints v).length c0, .slice A1 l.length c1] w fun e w' => e = .returned (.tuple #[.int .u64 (rankW v l 0).1, .bool (rankW v l 0).2]) ∧ Below w.heap.size w w' := by
  have HR0 := Aside0.mk hr0
  have HC0 := Aside0.mk hc0
  have HR1 := Aside0.mk hr1
  have HC1 := Aside0.mk hc1
  have hcl : Aside0 (slices_Clone_odo_weaves_int.f (ints v) = some (ints v)) := ⟨by
    unfold slices_Clone_odo_weaves_int.f
    simp only [Option.bind_some, List.length_nil, List.nil_append]
    rw [if_pos (by rw [ints_length]; omega)]⟩
  have HLN := Aside0.mk hL
  have HBND := Aside0.mk hl
  have HMC := Aside0.mk hm
  clear hr0 hc0 hr1 hc1 hL hm
  refine (callsIn_wide (n := 3)).1 ?_
  refine callsIn_of_wp_marks Try.func72 rfl trivial ?_ rfl
  simp only [Try.ntmps72, List.size_toArray, List.length_cons, List.length_nil, Nat.reduceAdd, Nat.reduceSub, Array.replicate_succ, Array.replicate_zero, List.push_toArray, List.append_toArray, List.nil_append, List.cons_append]
  gi_wp2_with fail
  refine ⟨trivial, ?_⟩
  refine (callsIn_wide.2 (slices_Clone_odo_weaves_int.calls A0 c0 (ints v) (ints v) _ HR0.out HC0.out hcl.out)).mono ?_
  rintro e w1 ⟨v1, rfl, hR1, hB1⟩
  obtain ⟨AL, cL, rfl⟩ := Kd.R_slice hR1
  have hO := Kd.own_of_R hR1
  rw [ints_length] at hO
  have HO := Aside0.mk hO
  have HB := Aside0.mk hB1
  clear hR1 hB1 hO
  gi_wp2_with fail
  have HBag := Aside0.mk (Bag.fresh (Bag.hold (B := w.heap.size) (w := w) (ds := []) (rows := []) (cells := []) (W := w) ⟨by simp, by simp, by simp [blocks], ⟨List.nodup_nil, by simp⟩, by simp, Below.refl _ _, Nat.le_refl _⟩ HB.out HO.out) 25 (.int .u64 0))
  clear HB HO
  simp only [ints_length]
  refine wpIn_loop (fun a W => ∃ (u9 u10 u11 u17 u18 u19 u20 u21 u22 u23 u24 u25 u26 u27 u28 u29 u30 u31 u32 u33 u34 u35 u36 u37 u38 u39 u40 u41 u42 u43 u44 u45 u46 u47 u48 u49 u50 u51 : Value) (ds : List Nat) (j : Nat) (vj : List Nat) (aj : Nat), (j ≤ l.length ∧ Aside0 (rankW vj (l.drop j) aj = rankW v l 0) ∧ Aside0 (vj.length = v.length) ∧ Aside0 (vj.sum ≤ 64) ∧ Aside0 (aj + mc vj ≤ mc v) ∧ Aside0 (Bag w.heap.size w ds [(.slice AL v.length cL, v.length, ints vj)] [(w1.heap.size, 25, .int .u64 aj)] W)) ∧
      a = { tmps := #[.slice A0 v.length c0, .slice A1 l.length c1, undef, undef, .int .u64 0, .bool false, .slice AL v.length cL, .pointer (some ⟨w1.heap.size, 0, none⟩), undef, u9, u10, u11, .slice A0 v.length c0, .slice AL v.length cL, .slice A1 l.length c1, .int .i64 l.length, .int .i64 j, u17, u18, u19, u20, u21, u22, u23, u24, u25, u26, u27, u28, u29, u30, u31, u32, u33, u34, u35, u36, u37, u38, u39, u40, u41, u42, u43, u44, u45, u46, u47, u48, u49, u50, u51, undef, undef, undef, undef, undef, undef], defers := marks ds })
    (fun a _ => l.length - (intOf (a.tmps.getD 16 undef)).toNat) ?start ?round
  case start => exact ⟨undef, undef, undef, undef, undef, undef, undef, undef, undef, undef, undef, undef, undef, undef, undef, undef, undef, undef, undef, undef, undef, undef, undef, undef, undef, undef, undef, undef, undef, undef, undef, undef, undef, undef, undef, undef, undef, undef, [], 0, v, 0, ⟨Nat.zero_le _, ⟨rfl⟩, ⟨rfl⟩, ⟨hs⟩, ⟨by rw [Nat.zero_add]; exact Nat.le_refl _⟩, HBag⟩, rfl⟩
  case round =>
    clear HBag
    rintro a W ⟨u9, u10, u11, u17, u18, u19, u20, u21, u22, u23, u24, u25, u26, u27, u28, u29, u30, u31, u32, u33, u34, u35, u36, u37, u38, u39, u40, u41, u42, u43, u44, u45, u46, u47, u48, u49, u50, u51, ds, j, vj, aj, ⟨hj, HF, HL, HS, HM, HG⟩, rfl⟩
    obtain ⟨hcn, hfn⟩ := HG.out.cellOf (c := (w1.heap.size, 25, .int .u64 aj)) (by simp)
    by_cases hlt : j < l.length
    · obtain ⟨ad, e0, hx0⟩ := Kd.at_int HR1.out (j : Int) (by omega) (by omega)
      cases e0
      rw [Int.toNat_natCast] at hx0
      have hxW := pw_cell_below HG.out.below hx0
      obtain ⟨x, hxe⟩ : ∃ x, rd l (j : Int) = x := ⟨_, rfl⟩
      rw [hxe] at hxW
      have hdrop : l.drop j = x :: l.drop (j + 1) := by
        rw [List.drop_eq_getElem_cons hlt, ← hxe]
        congr 1
        simp [rd, List.getD_eq_getElem?_getD, List.getElem?_eq_getElem hlt]
      have HDR := Aside0.mk hdrop
      have HG2 := Aside0.mk (HG.out.fresh 3 (.int .i64 x))
      clear hx0 hxe hdrop
      by_cases hbad : 0 ≤ x ∧ x < v.length ∧ vj.getD x.toNat 0 ≠ 0
      · obtain ⟨hx1, hx2, hx3⟩ := hbad
        obtain ⟨i, rfl⟩ : ∃ i : Nat, x = i := ⟨x.toNat, by omega⟩
        rw [Int.toNat_natCast] at hx3
        obtain ⟨g, rfl⟩ := own_ptr (HG.out.row _ (List.mem_singleton.2 rfl)) (by show 0 < v.length; omega)
        have hat := own_at (HG2.out.row _ (List.mem_singleton.2 rfl)) (i : Int) hx1 (by show (i : Int) < v.length; omega)
        rw [Int.toNat_natCast, rd_ints] at hat
        obtain ⟨hcx, hfx⟩ := hat
        obtain ⟨y, hy⟩ : ∃ y, vj.getD i 0 = y := ⟨_, rfl⟩
        have HY := Aside0.mk hy
        rw [hy] at hcx hx3
        have hz : ((y : Int) == 0) = false := beq_eq_false_iff_ne.2 (by omega)
        have hd1 : decide ((i : Int) < 0) = false := decide_eq_false (by omega)
        have hd2 : decide (v.length ≤ i) = false := decide_eq_false (by omega)
        clear hy hcn hfn
        gi_wp2_with fail
        have hvj : vj.length = v.length := HL.out
        have hS1 : ∀ D ∈ ds, D < (W.alloc (.cells #[.int .i64 (i : Int)] 3)).heap.size := fun D hD => HG2.out.lt hD
        have hiN : i < v.length := by omega
        have hpos : 0 < vj.sum := by have := less_sum vj i (by rw [HY.out]; exact hx3); omega
        have hsh : ∀ q, q ≤ v.length → shares vj q ≤ mc vj := fun q hq => by
          have h1 := shares_le vj (i := q) (j := vj.length) (by omega)
          rwa [shares_all vj hpos] at h1
        have hshare : ∀ q, q < i → vj.getD q 0 ≠ 0 → shares vj (q + 1) = shares vj q + mc (less vj q) := fun q _ hne => by
          rw [shares_succ]; unfold share; rw [if_neg hne]
        have hskip : ∀ q, q < i → vj.getD q 0 = 0 → shares vj (q + 1) = shares vj q := fun q _ he => by
          rw [shares_succ]; unfold share; rw [if_pos he]; rfl
        obtain ⟨kc, hkc⟩ := counts_are vj HS.out (by omega) (Nat.lt_of_le_of_lt (Nat.le_trans (Nat.le_add_left _ _) HM.out) HMC.out) vj.length
        obtain ⟨more, hmore⟩ : ∃ more : Nat → Nat, ∀ q, more q = mc (less vj q) := ⟨_, fun _ => rfl⟩
        have heach := each_stops 2 (by decide) g cL vj kc (fun q => ((more q : Nat) : Int)) (fun _ => true) (fun x hx => by
            exact sum_small (mem_le_sum hx) HS.out) (by omega) (fun q h1 h2 => by rw [hmore]; exact hkc kc (Nat.le_refl _) q h1 h2)
        rw [hvj] at heach
        obtain ⟨acc, hacc⟩ : ∃ acc : Nat → Nat, ∀ q, acc q = aj + shares vj q := ⟨_, fun _ => rfl⟩
        have ha0 : acc 0 = aj := by rw [hacc]; rfl
        rw [← ha0] at HG2
        have hstep : ∀ q, q < i → vj.getD q 0 ≠ 0 → IntKind.u64.wrap ((acc q : Int) + (more q : Int)) = (acc (q + 1) : Int) := fun q hq hne => by
          rw [hacc, hacc, hmore]
          exact acc_step (hshare q hq hne) (hsh (q + 1) (by omega)) HM.out HMC.out
        have hkeep : ∀ q, q < i → vj.getD q 0 = 0 → acc (q + 1) = acc q := fun q hq he => by rw [hacc, hacc, hskip q hq he]
        have hfin : acc i = aj + shares vj i := hacc i
        have HSP := Aside0.mk hstep
        have HKP := Aside0.mk hkeep
        have HFI := Aside0.mk hfin
        have HSI := Aside0.mk (show shares vj i + mc (less vj i) ≤ mc vj by
          have h1 := hsh (i + 1) (by omega)
          rw [shares_succ] at h1
          unfold share at h1
          rwa [if_neg (by rw [HY.out]; exact hx3)] at h1)
        have HS1 := Aside0.mk hS1
        clear hsh hskip hshare hkc hS1 hcx hfx hxW hstep hkeep hfin hacc hmore ha0
        refine wpIn_rangeFunc_each rfl (by decide) (gf := 74) (fb := #[.slice (some ⟨g, 0, none⟩) v.length cL]) rfl trivial (enters_of Try.func74 (by kernel_rfl) rfl) heach (fun _ => rfl)
          (fun q W' => q ≤ i ∧ Bag w.heap.size w ds [(.slice (some ⟨g, 0, none⟩) v.length cL, v.length, ints vj)] [(W.heap.size, 3, .int .i64 i), (w1.heap.size, 25, .int .u64 (acc q))] W')
          (fun c W' => c = .exit 2 ∧ Bag w.heap.size w ds [(.slice (some ⟨g, 0, none⟩) v.length cL, v.length, ints vj)] [(W.heap.size, 3, .int .i64 i), (w1.heap.size, 25, .int .u64 (acc i))] W')
          ?hI ?hIx ?hRow ?hskip ?h0
          (fun q => { tmps := #[.slice A0 v.length c0, .slice (some ad) l.length c1, undef, undef, .int .u64 0, .bool false, .slice (some ⟨g, 0, none⟩) v.length cL, .pointer (some ⟨w1.heap.size, 0, none⟩), undef, .pointer (some ⟨W.heap.size, 0, none⟩), .int .i64 q, .int .u64 (more q), .slice A0 v.length c0, .slice (some ⟨g, 0, none⟩) v.length cL, .slice (some ad) l.length c1, .int .i64 l.length, .int .i64 j, .bool true, .pointer (some (ad.add j)), .int .i64 i, .int .i64 i, .bool false, .bool false, .int .i64 i, .slice (some ⟨g, 0, none⟩) v.length cL, .int .i64 v.length, .bool false, .bool false, .bool false, .slice (some ⟨g, 0, none⟩) v.length cL, .int .i64 i, .pointer (some ⟨g, i, none⟩), .int .i64 y, .bool false, .bool false, .slice (some ⟨g, 0, none⟩) v.length cL, .func (.func 74) #[.slice (some ⟨g, 0, none⟩) v.length cL] #[], .int .i64 q, .int .u64 (more q), u39, u40, u41, u42, u43, u44, u45, u46, u47, u48, u49, u50, u51, undef, undef, undef, undef, undef, undef], defers := [] }) ?assign ?body ?done ?stop
        case hI =>
          exact OwnFrom.and (ownFrom_pure _ _) (fun q W1 W2 row h hg hr => Bag.own (β := Nat) HS1.out (Nat.le_trans HG2.out.hB HG2.out.below.size) q W1 W2 row h hg hr)
        case hIx =>
          exact OwnFrom.and (ownFrom_pure _ _) (fun q W1 W2 row h hg hr => Bag.own (β := Code) HS1.out (Nat.le_trans HG2.out.hB HG2.out.below.size) q W1 W2 row h hg hr)
        case hRow =>
          intro q W1 h
          have h1 := h.2.row _ (List.mem_singleton.2 rfl)
          unfold LeftRow
          rw [hvj]
          exact own_le h1 (Nat.zero_le _)
        case hskip =>
          rintro q W1 ⟨hq, hb⟩ hlt2 hno
          have hz2 : vj.getD q 0 = 0 := Classical.byContradiction fun h => by
            rw [decide_eq_true h] at hno; cases hno
          have hne : q ≠ i := fun e => by subst e; rw [HY.out] at hz2; exact hx3 hz2
          rw [← HKP.out q (by omega) hz2] at hb
          exact ⟨by omega, hb⟩
        case h0 =>
          exact ⟨Nat.zero_le _, HG2.out⟩
        case assign =>
          intro lp q W1 K hK
          gi_wp2_with fail
          exact hK
        case body =>
          rintro lp q W1 hlp ⟨hq, hb⟩ hlt2 hyes
          obtain ⟨c1, f1⟩ := hb.cellOf (c := (W.heap.size, 3, .int .i64 i)) (by simp)
          obtain ⟨c2, f2⟩ := hb.cellOf (c := (w1.heap.size, 25, .int .u64 (acc q))) (by simp)
          by_cases he : q = i
          · subst he
            have hd : decide ((q : Int) ≤ q) = true := decide_eq_true (by omega)
            gi_wp2_with fail
            exact ⟨KeepsFrom.refl _ _, rfl, hb⟩
          · have hd : decide (i ≤ q) = false := decide_eq_false (by omega)
            have hne : vj.getD q 0 ≠ 0 := of_decide_eq_true hyes
            have hw := HSP.out q (by omega) hne
            gi_wp2_with fail
            refine ⟨(KeepsOthers.setCell _ _ _).from _, by omega, ?_⟩
            exact ((hb.perm (.refl _) (.swap _ _ _)).set (.int .u64 (acc (q + 1)))).perm (.refl _) (.swap _ _ _)
        case done =>
          rintro D W1 hD ⟨hq, hb⟩ hDD
          omega
        case stop =>
          rintro D c W1 hD ⟨rfl, hb⟩ hDD
          have hBD : w.heap.size ≤ D := by have := HG2.out.below.size; omega
          have HB2 := Aside0.mk (hb.mark hBD (fun h => by have := HS1.out D h; omega) hDD)
          obtain ⟨hci, hfi⟩ := hb.cellOf (c := (W.heap.size, 3, .int .i64 i)) (by simp)
          have hat := own_at (hb.row _ (List.mem_singleton.2 rfl)) (i : Int) (by omega) (by show (i : Int) < v.length; omega)
          rw [Int.toNat_natCast, rd_ints, HY.out] at hat
          obtain ⟨hcx, hfx⟩ := hat
          gi_wp2_with fail
          have hj1 := wrap_next hlt HLN.out
          refine ⟨⟨_, _, _, _, _, _, _, _, _, _, _, _, _, _, _, _, _, _, _, _, _, _, _, _, _, _, _, _, _, _, _, _, _, _, _, _, _, _, D :: ds, j + 1, ⟨hlt, less vj i, acc i, ⟨?g1⟩, ⟨?g2⟩, ⟨?g3⟩, ⟨?g4⟩, ⟨?g5⟩⟩, ⟨rfl, rfl, rfl, hj1, rfl, rfl, rfl, rfl, rfl, rfl, rfl, rfl, rfl, rfl, rfl, rfl, rfl, rfl, rfl, rfl, rfl, rfl, rfl, rfl, rfl, rfl, rfl, rfl, rfl, rfl, rfl, rfl, rfl, rfl, rfl, rfl, rfl, rfl, rfl⟩, rfl⟩, ?g7⟩
          case g1 => rw [HFI.out, ← HF.out, HDR.out, rankW, if_pos ⟨by omega, by rw [HL.out]; omega, by rw [Int.toNat_natCast, HY.out]; exact hx3⟩, Int.toNat_natCast]
          case g2 => rw [less_length]; exact HL.out
          case g3 => have := less_sum vj i (by rw [HY.out]; exact hx3); have := HS.out; omega
          case g4 =>
            have h1 := HSI.out
            rw [HFI.out]
            have := HM.out
            omega
          case g5 =>
            have h1 := (HB2.out.loseCell).setRow (i : Int) (wrap64 ((y : Int) - 1))
            rw [Int.toNat_natCast, ints_less HY.out hx3 (sum_small (mem_le_sum_at HY.out hx3) HS.out)] at h1
            exact h1
          case g7 => rw [hj1]; exact sub_next hlt
      · have hfin : Aside0 (rankW v l 0 = (0, false)) := ⟨by
          rw [← HF.out, HDR.out, rankW, HL.out, if_neg hbad]⟩
        have hend : ∀ tmps : Array Value, tmps.getD 4 undef = .int .u64 0 → tmps.getD 5 undef = .bool false → bodyPostM Fence.wide 3 Try.prog Try.f72 (fun e w' => e = .returned (.tuple #[.int .u64 (rankW v l 0).1, .bool (rankW v l 0).2]) ∧ Below w.heap.size w w') .ret { tmps := tmps, defers := marks ds } (W.alloc (.cells #[.int .i64 x] 3)) := fun tmps h4 h5 =>
          leaves_marks ds _ HG2.out.un ⟨_, results_tmp2 rfl tmps _ _, by rw [h4, h5, hfin.out]; rfl, shutAll_below (Nat.le_refl _) ds _ HG2.out.below HG2.out.lo⟩
        have HE := Aside0.mk hend
        by_cases h1 : x < 0
        · clear hbad hend
          gi_wp2_with fail
          exact HE.out _ rfl rfl
        · by_cases h2 : (v.length : Int) ≤ x
          · clear hbad hend
            gi_wp2_with fail
            exact HE.out _ rfl rfl
          · obtain ⟨i, rfl⟩ : ∃ i : Nat, x = i := ⟨x.toNat, by omega⟩
            obtain ⟨g, rfl⟩ := own_ptr (HG.out.row _ (List.mem_singleton.2 rfl)) (by show 0 < v.length; omega)
            have hat := own_at (HG2.out.row _ (List.mem_singleton.2 rfl)) (i : Int) (by omega) (by show (i : Int) < v.length; omega)
            rw [Int.toNat_natCast, rd_ints] at hat
            obtain ⟨hcx, hfx⟩ := hat
            have hz : vj.getD i 0 = 0 := Classical.byContradiction fun h => hbad ⟨by omega, by omega, h⟩
            rw [hz] at hcx
            have hd1 : decide ((i : Int) < 0) = false := decide_eq_false (by omega)
            have hd2 : decide (v.length ≤ i) = false := decide_eq_false (by omega)
            clear hbad hend
            gi_wp2_with fail
            exact HE.out _ rfl rfl
    · have hge : l.length ≤ j := by omega
      gi_wp2_with fail
      rename_i K0 aK
      refine wpIn_wide.2 (then_none ?_)
      obtain ⟨kx, rx, hx1, hx2⟩ := max_is vj (by have := HL.out; have := HBND.out; omega)
      have hown := HG.out.row _ (List.mem_singleton.2 rfl)
      have hvl : (ints vj).length = v.length := by rw [ints_length]; exact HL.out
      have HCJ : Aside0 (Kd.C (Kd.int .i64) W AL v.length (ints vj)) := ⟨by
        have h1 : W.ownsRow w.heap.size 3 1 (.slice AL (ints vj).length cL) (ints vj).length (nums .i64 (ints vj)) := by rw [hvl]; exact hown
        rw [← hvl]
        exact (Kd.R_reads' (d := Kd.int .i64) (Kd.R_of_own (ok := fun _ => True) h1 (fun _ _ => trivial))).2.2⟩
      have HBW := Aside0.mk HG.out.below
      have HX1 := Aside0.mk hx1
      have HSZ := Aside0.mk HG.out.below.size
      have HV := Aside0.mk hvl
      have hOL : ∀ W' : World, w.heap.size ≤ W'.heap.size → Kd.R (Kd.int .i64) 3 (W'.alloc (.cells #[.int .i64 0] 3)) w.heap.size (fun _ => True) (.slice (some ⟨W'.heap.size, 0, none⟩) 1 1) [(0 : Int)] := fun W' h =>
        Kd.R_of_own (own_lit W' w.heap.size 3 .i64 [0] h (by decide)) (fun _ _ => trivial)
      have HOL := Aside0.mk hOL
      have hlt1 : w1.heap.size < W.heap.size := (Array.getElem?_eq_some_iff.1 (HG.out.cell _ (List.mem_singleton.2 rfl)).2).1
      have hne : some w1.heap.size ≠ some W.drew.heap.size := fun e => by
        have e2 : w1.heap.size = W.heap.size := Option.some.inj e
        omega
      have HNE := Aside0.mk hne
      have hcnA : (W.alloc (.cells #[.int .i64 0] 3)).drew.cell? ⟨w1.heap.size, 0, none⟩ = some (.int .u64 aj) := pw_cell_below (below_drew (below_alloc (Below.refl _ _) _)) hcn
      have HCA := Aside0.mk hcnA
      clear hx1 hown hvl hne hlt1 hOL
      have hend : rankW v l 0 = (aj, (rx == 0)) := by rw [← HF.out, List.drop_eq_nil_of_le hge, rankW, hx2]
      have HEND := Aside0.mk hend
      clear hend hx2
      go_region_law (first
        | (refine append_two_step (Kd.int .i64) w.heap.size rfl (.tmp 53) (.tmp 54) 22 82 3 3 (.int .i64 0) 8 rfl Try.underlying22 Try.underlying82 rfl rfl (by decide) (by decide) (.slice (some ⟨W.drew.heap.size, 0, none⟩) 1 1) [0] (ints vj) AL v.length cL (fun _ => True) (fun _ => False) rfl rfl (HOL.out W.drew HSZ.out) (Kd.C_below HCJ.out (below_alloc (below_drew (Below.refl _ _)) _)) (fun _ _ h => h) (fun _ h => h.elim) (fun _ _ => trivial) (below_alloc (below_drew HBW.out) _) (Nat.le_trans HSZ.out (by simp)) (small_bytes HBND.out) ?_; intro v1 w4 hR1 hB1 hG4 _; have hcn4 := hG4.cell HCA.out HNE.out; have hBg := (below_alloc (below_drew (Below.refl W.heap.size W)) (.cells #[.int .i64 0] 3)).grown hG4 (by simp) (fun k e => by cases e; exact Nat.le_refl _); have hg4 := Aside0.mk (HG.out.later hBg); obtain ⟨A4, c4, rfl⟩ := Kd.R_slice hR1; have hR2 := (Kd.R_reads' hR1).2; have hcall := slices_Max_int_int.calls kx A4 c4 ([0] ++ ints vj) rx _ hR2.2 hR2.1 HX1.out; obtain ⟨n4, hn4⟩ : ∃ n4, ([0] ++ ints vj).length = n4 := ⟨_, rfl⟩; rw [hn4] at hcall; rw [hn4]; replace hB1 := Aside0.mk hB1; replace hcall := Aside0.mk hcall; clear hR1 hR2 hn4 hG4 hBg)
        | (refine goes_ Try.func77 (by kernel_rfl) rfl #[.slice A4 n4 c4] (by rfl) rfl rfl (by simp only [List.map_toArray, List.map_cons, List.map_nil]; rfl) ?_; refine hcall.out.mono ?_; rintro e w5 ⟨rfl, hB2⟩; have hcn5 := pw_cell_below hB2 hcn4; have hg5 := Aside0.mk (hg4.out.later hB2); refine ⟨_, rfl, ?_⟩))
      all_goals
        refine aK _ _ (wpIn_ret ?_)
        refine leaves_marks ds _ hg5.out.un ⟨_, results_tmp2 rfl _ _ _, ?_, shutAll_below (Nat.le_refl _) ds _ hg5.out.below hg5.out.lo⟩
        rw [HEND.out]
        simp only [Act.put, List.setIfInBounds_toArray]
        rfl
end Go.Proofs.Ytohpboblmmbjnaa.P
/- What odo's at of weaves needs: append of one number in a fence. -/
namespace Go.Proofs.Ytohpboblmmbjnaa.P
open Go Go.RowKit Go.Shelf Go.Proofs.YtohpboblmmbjnaaW.PrintWords Go.Proofs.YtohpboblmmbjnaaW.PrintLast Go.Proofs.YtohpboblmmbjnaaW.PrintMore Go.Proofs.Odo
attribute [local go_sem] Oper.semAt_some

section
variable {P : Program} {F : Fence} {n : Nat}
/-- append of one number onto a row of one's own, in a fence. -/
theorem append_oneIn {ops : Array Oper} {rest : List Oper} {o : Oper} {a : Act} {Q : Exit → Act → World → Prop} (W : World)
    (hg : o.guard = none) (s x : Operand) (t : TypeId) (hop : o.op = Op.call { callee := Callee.builtin Builtin.append, args := #[s, x], argTypes := #[t, t] }) (ht : P.underlying t = some (.slice 3))
    (hinfo : (P.info? 3).map (fun i => (i.zero, i.size, i.bytes)) = some (some (.int .i64 0), 1, 8)) (base : Nat) (v : Value) (k : Nat) (xs : List Value) (y : Int) (hs : a.eval s = v) (hx : a.eval x = .slice (some ⟨W.heap.size, 0, none⟩) 1 1)
    (hown : W.ownsRow base 3 1 v k xs) (hk : k ≤ 1000) (hbase : base ≤ W.heap.size)
    (hK : ∀ v' w', w'.ownsRow base 3 1 v' (k + 1) (xs ++ [.int .i64 y]) → (W.alloc (.cells #[.int .i64 y] 3)).grownBy w' v.ownBlock → (v'.ownBlock = v.ownBlock ∨ v'.ownBlock = some (W.heap.size + 1)) → wpListIn F n P ops Q rest (a.put o.dst v') w') :
    wpListIn F n P ops Q (o :: rest) a (W.alloc (.cells #[.int .i64 y] 3)) := by
  obtain ⟨i0, hi, hzz⟩ := Option.map_eq_some_iff.1 hinfo
  simp only [Prod.mk.injEq] at hzz
  obtain ⟨hz0, hz1, hz2⟩ := hzz
  refine wpListIn_plain hg fun K hK' => ?_
  obtain ⟨v', w', hrun, r1, r2, _, r4⟩ := run_append_own_at (P := P) (W.alloc (.cells #[.int .i64 y] 3)) base t o.type 3 i0 (.int .i64 0) 1 8 ht hi hz0 hz1 hz2 rfl (by decide) v k xs (hown.alloc _) ⟨W.heap.size, 0, none⟩ 1 1 [.int .i64 y] (by simp)
    (cell_one_new _ _ _) (by simp [Value.oneCell']) (by simp only [maxLen]; omega) (by omega) (by simp; omega)
  unfold Oper.wpIn
  refine ⟨?_, ?_⟩
  · simp [Oper.about, hop, resolve, Target.leads, Sem.run_pure]
  · rw [Oper.semAt_plain F _ _ (by rw [hop]; intro c hc'; cases hc')]
    simp [execOp, hop, resolve, invoke, builtin, hs, hx, hrun, Result.andThen]
    exact hK' _ _ (hK v' w' r1 r2 (by simpa using r4))
end
theorem own_form {W : World} {base n : Nat} {e : TypeId} {size : Nat} {v : Value} {vs : List Value} (h : W.ownsRow base e size v n vs) : ∃ A c, v = .slice A n c := by
  rcases h.2 with ⟨h1, h2⟩ | ⟨g', cap', cur, h1, _⟩
  · subst h2; exact ⟨_, _, h1⟩
  · exact ⟨_, _, h1⟩
/-- A row behind an append. -/
theorem Bag.appended {B : Nat} {w W w' : World} {ds : List Nat} {rows : List (Value × Nat × List Int)} {cells : List (Nat × TypeId × Value)} {v v' : Value} {k k' : Nat} {xs xs' : List Int} {u : Value} {t : TypeId}
    (h : Bag B w ds ((v, k, xs) :: rows) cells W) (hr : w'.ownsRow B 3 1 v' k' (nums .i64 xs')) (hg : (W.alloc (.cells #[u] t)).grownBy w' v.ownBlock) (hat : v'.ownBlock = v.ownBlock ∨ v'.ownBlock = some (W.heap.size + 1)) :
    Bag B w ds ((v', k', xs') :: rows) cells w' := by
  have hW : W.grownBy (W.alloc (.cells #[u] t)) v.ownBlock := World.grownBy_alloc W _ _
  have hg2 : W.grownBy w' v.ownBlock := World.grownBy.trans hW hg
  have hsub : ∀ k, v.ownBlock = some k → k ∉ blocks rows cells := fun k hk hkk => by
    have hnd := h.nodup
    unfold blocks at hnd
    rw [List.filterMap_cons] at hnd
    simp only [hk] at hnd
    exact (List.nodup_cons.1 (List.perm_middle.nodup_iff.1 hnd)).1 hkk
  have h0 := h.lose
  have h1 := h0.grown hg2 (fun b hk => ⟨((h.row (v, k, xs) (by simp)).lt b hk).1, hsub b hk, h.ds_cells (List.mem_append.2 (.inr (List.mem_filterMap.2 ⟨(v, k, xs), by simp, hk⟩)))⟩)
  refine ⟨fun r hrr => ?_, h1.cell, ?_, h1.un, h1.lo, h1.below, h1.hB⟩
  · rcases List.mem_cons.1 hrr with rfl | hrr
    · exact hr
    · exact h1.row r hrr
  · unfold blocks
    rw [List.filterMap_cons]
    split
    · exact h1.nodup
    · rename_i b hb
      refine List.perm_middle.nodup_iff.2 (List.nodup_cons.2 ⟨fun hkk => ?_, h1.nodup⟩)
      rcases hat with e | e
      · exact hsub b (e ▸ hb) hkk
      · obtain ⟨_, c, t, fr, hc⟩ := h0.is_cells (k := b) hkk
        have h2 := (Array.getElem?_eq_some_iff.1 hc).1
        have hb' : v'.ownBlock = some b := hb
        rw [e] at hb'
        have := Option.some.inj hb'
        omega

theorem pick_keep {v T : List Nat} {x q : Nat} (hz : v.getD q 0 = 0) : rank v (x :: T) - shares v (q + 1) = rank v (x :: T) - shares v q := by
  rw [shares_succ]; unfold share; rw [if_pos hz]; rfl
theorem pick_on {v T : List Nat} {x q M : Nat} (h : Is v (x :: T)) (hq : q < x) (hz : v.getD q 0 ≠ 0) (hm : rank v (x :: T) ≤ M) (hM : M < 18446744073709551616) :
    ¬ rank v (x :: T) - shares v q < mc (less v q) ∧ IntKind.u64.wrap (((rank v (x :: T) - shares v q : Nat) : Int) - ((mc (less v q) : Nat) : Int)) = ((rank v (x :: T) - shares v (q + 1) : Nat) : Int) := by
  have h1 := (rank_first h).1
  have h2 := shares_le v (show q + 1 ≤ x from hq)
  rw [shares_succ] at h2 ⊢
  have h3 : share v q = mc (less v q) := by unfold share; rw [if_neg hz]
  rw [h3] at h2 ⊢
  refine ⟨by omega, ?_⟩
  rw [u64_wrap (by omega) (by omega)]
  omega
theorem pick_at {v T : List Nat} {x : Nat} (h : Is v (x :: T)) : rank v (x :: T) - shares v x < mc (less v x) ∧ rank v (x :: T) - shares v x = rank (less v x) T := by
  have h1 : rank v (x :: T) = shares v x + rank (less v x) T := rfl
  have h2 := rank_lt h.2
  omega
theorem sum_step {v : List Nat} {q : Nat} (hq : q < v.length) (hs : v.sum ≤ 64) : wrap64 ((((v.take q).sum : Nat) : Int) + ((v.getD q 0 : Nat) : Int)) = (((v.take (q + 1)).sum : Nat) : Int) := by
  have h1 : (v.take (q + 1)).sum ≤ v.sum := by
    have := List.take_append_drop (q + 1) v
    have h2 : v.sum = (v.take (q + 1)).sum + (v.drop (q + 1)).sum := by rw [← List.sum_append, this]
    omega
  rw [take_snoc_nat v q hq, List.sum_append] at h1 ⊢
  simp only [List.sum_cons, List.sum_nil, Nat.add_zero] at h1 ⊢
  rw [w64 (by omega) (by omega)]
  omega
end Go.Proofs.Ytohpboblmmbjnaa.P
/- The contract of odo's at of weaves. -/
namespace Go.Proofs.Ytohpboblmmbjnaa.P
open Go Go.RowKit Go.Shelf Go.Proofs.YtohpboblmmbjnaaW.PrintWords Go.Proofs.YtohpboblmmbjnaaW.PrintLast Go.Proofs.YtohpboblmmbjnaaW.PrintMore Go.Proofs.Odo
attribute [local go_sem] Oper.semAt_some

def lenCell : Option Value → Nat
  | some (.slice _ n _) => n
  | _ => 0
theorem nums_snoc {L' L : List Nat} {x : Nat} (h : L' = L ++ [x]) : nums .i64 (ints L) ++ [.int .i64 (x : Int)] = nums .i64 (ints L') := by
  subst h
  simp [nums, ints]
theorem last_at {L' L : List Nat} {j x : Nat} (h : L' = L.take j ++ [x]) (hj : j ≤ L.length) : L'.getD j 0 = x := by
  subst h
  rw [List.getD_eq_getElem?_getD, List.getElem?_append_right (by rw [List.length_take]; omega), List.length_take, Nat.min_eq_left hj, Nat.sub_self]
  rfl
theorem sub_next2 {j n : Nat} (h : j < n) {A A' : Option Addr} {c c' : Nat} : n - lenCell (some (.slice A (j + 1) c)) < n - lenCell (some (.slice A' j c')) := by simp only [lenCell]; omega
theorem take_drop_snoc {L T : List Nat} {j x : Nat} (h : L.drop j = x :: T) : L.take (j + 1) = L.take j ++ [x] := by
  have hj : j < L.length := by
    rcases Nat.lt_or_ge j L.length with h1 | h1
    · exact h1
    · rw [List.drop_eq_nil_of_le h1] at h; cases h
  rw [List.drop_eq_getElem_cons hj] at h
  rw [List.take_succ_eq_append_getElem hj, (List.cons.inj h).1]
set_option maxHeartbeats 2000000 in
set_option maxRecDepth 100000 in
theorem weaves_at.calls (v L : List Nat) (A0 : Option Addr) (c0 : Nat) (w : World) (hr0 : Kd.C (Kd.int .i64) w A0 (ints v).length (ints v)) (hc0 : (ints v).length ≤ c0)
    (hs : v.sum ≤ 64) (hl : v.length ≤ 64) (hm : mc v < 18446744073709551616) (hIs : Is v L) :
    Calls Try.prog 68 #[.slice A0 (ints v).length c0, .int .u64 (rank v L)] w fun e w' => ∃ v1, e = .returned v1 ∧ w'.ownsRow w.heap.size 3 1 v1 L.length (nums .i64 (ints L)) ∧ Below w.heap.size w w' := by
  have HR0 := Aside0.mk hr0
  have HC0 := Aside0.mk hc0
  have hcl : Aside0 (slices_Clone_odo_weaves_int.f (ints v) = some (ints v)) := ⟨by
    unfold slices_Clone_odo_weaves_int.f
    simp only [Option.bind_some, List.length_nil, List.nil_append]
    rw [if_pos (by rw [ints_length]; omega)]⟩
  have HBND := Aside0.mk hl
  have HMC := Aside0.mk hm
  have HIS := Aside0.mk hIs
  obtain ⟨n0, hn0⟩ : ∃ n0, rank v L = n0 := ⟨_, rfl⟩
  rw [hn0]
  have HN0 := Aside0.mk hn0
  have HB0 := Aside0.mk (Bag.fresh (B := w.heap.size) (w := w) (ds := []) (rows := []) (cells := []) (W := w) ⟨by simp, by simp, by simp [blocks], ⟨List.nodup_nil, by simp⟩, by simp, Below.refl _ _, Nat.le_refl _⟩ 25 (.int .u64 n0))
  clear hr0 hc0 hm hIs hn0
  refine (callsIn_wide (n := 3)).1 ?_
  refine callsIn_of_wp_marks Try.func68 rfl trivial ?_ rfl
  simp only [Try.ntmps68, List.size_toArray, List.length_cons, List.length_nil, Nat.reduceAdd, Nat.reduceSub, Array.replicate_succ, Array.replicate_zero, List.push_toArray, List.append_toArray, List.nil_append, List.cons_append]
  gi_wp2_with fail
  refine ⟨trivial, ?_⟩
  refine (callsIn_wide.2 (slices_Clone_odo_weaves_int.calls A0 c0 (ints v) (ints v) _ (Kd.C_below HR0.out (below_alloc (Below.refl _ _) _)) HC0.out hcl.out)).mono ?_
  rintro e w1 ⟨v1, rfl, hR1, hB1⟩
  obtain ⟨AL, cL, rfl⟩ := Kd.R_slice hR1
  have hO := Kd.own_of_R hR1
  rw [ints_length] at hO
  have HB1 := Aside0.mk (HB0.out.hold hB1 hO)
  clear hR1 hB1 hO HB0
  simp only [ints_length]
  have HB2 := Aside0.mk (HB1.out.hold (W' := w1.alloc (.cells #[] 3)) (v := .slice (some ⟨w1.heap.size, 0, none⟩) 0 0) (n := 0) (xs := []) (below_alloc (Below.refl _ _) _) (own_lit w1 w1.heap.size 3 .i64 [] (Nat.le_refl _) (Nat.zero_le _)))
  replace HB2 := Aside0.mk (HB2.out.fresh 22 (.slice (some ⟨w1.heap.size, 0, none⟩) 0 0))
  clear HB1
  have hcs : (w1.alloc (.cells #[] 3)).heap.size = w1.heap.size + 1 := by simp
  rw [hcs] at HB2
  have HSM := Aside0.mk hs
  clear hcs
  gi_wp2_with fail
  gi_loopw [7, 17] (fun p7 p17 wr => ∃ q : Nat, p7 = .int .i64 (((v.take q).sum : Nat) : Int) ∧ p17 = .int .i64 q ∧ q ≤ v.length ∧ Aside0 (Bag w.heap.size w [] [(.slice (some ⟨w1.heap.size, 0, none⟩) 0 0, 0, []), (.slice AL v.length cL, v.length, ints v)] [(w1.heap.size + 1, 22, .slice (some ⟨w1.heap.size, 0, none⟩) 0 0), (w.heap.size, 25, .int .u64 n0)] wr)) (fun _ p17 _ => v.length - (intOf p17).toNat)
  case atStart => exact ⟨0, rfl, rfl, Nat.zero_le _, HB2⟩
  case round =>
    clear HB2
    obtain ⟨q, rfl, rfl, hq, HB2⟩ := hrel
    by_cases hlt : q < v.length
    · have hx := Kd.at_int HR0.out (q : Int) (by omega) (by rw [ints_length]; omega)
      obtain ⟨ad, e0, hx0⟩ := hx
      cases e0
      rw [Int.toNat_natCast, rd_ints] at hx0
      have hxW := pw_cell_below HB2.out.below hx0
      have hst := sum_step hlt hs
      obtain ⟨y, hy⟩ : ∃ y, v.getD q 0 = y := ⟨_, rfl⟩
      rw [hy] at hxW hst
      have hq1 : wrap64 ((q : Int) + 1) = ((q + 1 : Nat) : Int) := by rw [w64 (by omega) (by omega)]; omega
      clear hx0 hy
      gi_wp2_with fail
      exact ⟨⟨q + 1, by rw [hst], by go_num, by omega, HB2⟩, by simp [intOf]; omega⟩
    · have hge : v.length ≤ q := by omega
      obtain rfl : q = v.length := by omega
      have hall : (v.take v.length).sum = L.length := by rw [List.take_length, is_length HIS.out]
      rw [hall]
      gi_wp2_with fail
      refine wpIn_loop (fun a W => ∃ (x10 x11 x25 x26 x27 x28 x29 x30 x31 x32 x33 x34 x35 x36 x37 x38 x39 x40 x41 x42 x43 x44 x45 x46 x47 x48 x49 x50 x51 x52 x53 : Value) (ds : List Nat) (j : Nat) (vj : List Nat) (vl : Value), (j ≤ L.length ∧ Aside0 (Is vj (L.drop j)) ∧ Aside0 (vj.length = v.length) ∧ Aside0 (vj.sum ≤ 64) ∧ Aside0 (mc vj ≤ mc v) ∧ Aside0 (Bag w.heap.size w ds [(vl, j, ints (L.take j)), (.slice AL v.length cL, v.length, ints vj)] [(w1.heap.size + 1, 22, vl), (w.heap.size, 25, .int .u64 (rank vj (L.drop j)))] W)) ∧
        a = { tmps := #[.slice A0 v.length c0, .int .u64 n0, undef, .pointer (some ⟨w.heap.size, 0, none⟩), .slice none 0 0, .slice AL v.length cL, .pointer (some ⟨w1.heap.size + 1, 0, none⟩), .int .i64 L.length, undef, u9, x10, x11, .slice A0 v.length c0, .slice AL v.length cL, .slice (some ⟨w1.heap.size, 0, none⟩) 0 0, .slice A0 v.length c0, .int .i64 v.length, .int .i64 v.length, .bool false, u19, u20, u21, u22, u23, u24, x25, x26, x27, x28, x29, x30, x31, x32, x33, x34, x35, x36, x37, x38, x39, x40, x41, x42, x43, x44, x45, x46, x47, x48, x49, x50, x51, x52, x53, undef], defers := marks ds })
        (fun _ W => L.length - lenCell (W.cell? ⟨w1.heap.size + 1, 0, none⟩)) ?start ?round
      case start => exact ⟨undef, undef, undef, undef, undef, undef, undef, undef, undef, undef, undef, undef, undef, undef, undef, undef, undef, undef, undef, undef, undef, undef, undef, undef, undef, undef, undef, undef, undef, undef, undef, [], 0, v, _, ⟨Nat.zero_le _, HIS, ⟨rfl⟩, ⟨hs⟩, ⟨Nat.le_refl _⟩, by rw [List.drop_zero, HN0.out]; exact HB2⟩, rfl⟩
      case round =>
        clear HB2
        rintro a W ⟨x10, x11, x25, x26, x27, x28, x29, x30, x31, x32, x33, x34, x35, x36, x37, x38, x39, x40, x41, x42, x43, x44, x45, x46, x47, x48, x49, x50, x51, x52, x53, ds, j, vj, vl, ⟨hj, HI, HL, HS, HM, HG⟩, rfl⟩
        have hform : ∃ A c, vl = .slice A j c := own_form (HG.out.row (vl, j, ints (L.take j)) (by simp))
        obtain ⟨Al, cl, rfl⟩ := hform
        obtain ⟨hcl1, hcl2⟩ := HG.out.cellOf (c := (w1.heap.size + 1, 22, .slice Al j cl)) (by simp)
        by_cases hlt : j < L.length
        · obtain ⟨x, T, hxT⟩ : ∃ x T, L.drop j = x :: T := ⟨_, _, List.drop_eq_getElem_cons hlt⟩
          have hT : L.drop (j + 1) = T := by rw [← List.drop_drop, hxT]; rfl
          have htake : L.take (j + 1) = L.take j ++ [x] := take_drop_snoc hxT
          have HT := Aside0.mk hT
          have HTK := Aside0.mk htake
          have hP := HI.out
          rw [hxT] at hP
          have HP := Aside0.mk hP
          rw [hxT] at HG
          have hvj : vj.length = v.length := HL.out
          have hiN : x < v.length := by rw [← hvj]; exact getD_lt hP.1
          have hmc : mc vj < 18446744073709551616 := Nat.lt_of_le_of_lt HM.out HMC.out
          obtain ⟨kc, hkc⟩ := counts_are vj HS.out (by rw [hvj]; exact HBND.out) hmc vj.length
          obtain ⟨more, hmore⟩ : ∃ more : Nat → Nat, ∀ q, more q = mc (less vj q) := ⟨_, fun _ => rfl⟩
          obtain ⟨acc, hacc⟩ : ∃ acc : Nat → Nat, ∀ q, acc q = rank vj (x :: T) - shares vj q := ⟨_, fun _ => rfl⟩
          have hrl : rank vj (x :: T) ≤ mc vj := Nat.le_of_lt (rank_lt hP)
          have HON := Aside0.mk (show ∀ q, q < x → vj.getD q 0 ≠ 0 → ¬ acc q < more q ∧ IntKind.u64.wrap ((acc q : Int) - (more q : Int)) = (acc (q + 1) : Int) from fun q hq hz => by
            rw [hacc, hacc, hmore]; exact pick_on hP hq hz hrl hmc)
          have HKP := Aside0.mk (show ∀ q, vj.getD q 0 = 0 → acc (q + 1) = acc q from fun q hz => by rw [hacc, hacc]; exact pick_keep hz)
          have HAT := Aside0.mk (show acc x < more x ∧ acc x = rank (less vj x) T by rw [hacc, hmore]; exact pick_at hP)
          have ha0 : acc 0 = rank vj (x :: T) := by rw [hacc]; rfl
          rw [← ha0] at HG
          have HY := Aside0.mk hP.1
          have HS1 := Aside0.mk (fun D (hD : D ∈ ds) => HG.out.lt hD)
          have HVB := Aside0.mk (show ∀ k, (Value.slice Al j cl).ownBlock = some k → k < W.heap.size from fun k hk => ((HG.out.row (.slice Al j cl, j, ints (L.take j)) (by simp)).lt k hk).2)
          have hrl2 := HG.out.row (.slice AL v.length cL, v.length, ints vj) (by simp)
          obtain ⟨g, rfl⟩ := own_ptr hrl2 (Nat.lt_of_le_of_lt (Nat.zero_le _) hiN)
          have heach := each_stops 2 (by decide) g cL vj kc (fun q => ((more q : Nat) : Int)) (fun _ => true) (fun u hu => sum_small (mem_le_sum hu) HS.out) (by rw [hvj]; exact HBND.out) (fun q h1 h2 => by rw [hmore]; exact hkc kc (Nat.le_refl _) q h1 h2)
          rw [hvj] at heach
          have HEA := Aside0.mk heach
          have HLT := Aside0.mk hlt
          have HIN := Aside0.mk hiN
          have HVJ := Aside0.mk hvj
          have hj64 : j < 64 := Nat.lt_of_lt_of_le hlt (by rw [is_length HIS.out]; exact HSM.out)
          have HJ := Aside0.mk hj64
          clear hxT hT htake hP hmc hkc hmore hacc hrl ha0 hrl2 heach
          gi_wp2_with fail
          refine wpIn_rangeFunc_each rfl (by decide) (gf := 74) (fb := #[.slice (some ⟨g, 0, none⟩) v.length cL]) rfl trivial (enters_of Try.func74 (by kernel_rfl) rfl) HEA.out (fun _ => rfl)
            (fun q W' => q ≤ x ∧ Bag w.heap.size w ds [(.slice Al j cl, j, ints (L.take j)), (.slice (some ⟨g, 0, none⟩) v.length cL, v.length, ints vj)] [(w1.heap.size + 1, 22, .slice Al j cl), (w.heap.size, 25, .int .u64 (acc q))] W')
            (fun c W' => c = .exit 4 ∧ ∃ A2 c2, Bag w.heap.size w ds [(.slice A2 (j + 1) c2, j + 1, ints (L.take (j + 1))), (.slice (some ⟨g, 0, none⟩) v.length cL, v.length, ints vj)] [(w1.heap.size + 1, 22, .slice A2 (j + 1) c2), (w.heap.size, 25, .int .u64 (acc x))] W')
            ?hI ?hIx ?hRow ?hskip ?h0
            (fun q => { tmps := #[.slice A0 v.length c0, .int .u64 n0, undef, .pointer (some ⟨w.heap.size, 0, none⟩), .slice none 0 0, .slice (some ⟨g, 0, none⟩) v.length cL, .pointer (some ⟨w1.heap.size + 1, 0, none⟩), .int .i64 L.length, undef, u9, .int .i64 q, .int .u64 (more q), .slice A0 v.length c0, .slice (some ⟨g, 0, none⟩) v.length cL, .slice (some ⟨w1.heap.size, 0, none⟩) 0 0, .slice A0 v.length c0, .int .i64 v.length, .int .i64 v.length, .bool false, u19, u20, u21, u22, u23, u24, .slice Al j cl, .int .i64 j, .int .i64 L.length, .bool true, .slice (some ⟨g, 0, none⟩) v.length cL, .func (.func 74) #[.slice (some ⟨g, 0, none⟩) v.length cL] #[], .int .i64 q, .int .u64 (more q), x33, x34, x35, x36, x37, x38, x39, x40, x41, x42, x43, x44, x45, x46, x47, x48, x49, x50, x51, x52, x53, undef], defers := [] }) ?assign ?body ?done ?stop
          case hI =>
            exact OwnFrom.and (ownFrom_pure _ _) (fun q W1 W2 row h hg hr => Bag.own (β := Nat) HS1.out (Nat.le_trans HG.out.hB HG.out.below.size) q W1 W2 row h hg hr)
          case hIx =>
            rintro c W1 W2 row ⟨hc, A2, c2, h⟩ hg hr
            exact ⟨hc, A2, c2, Bag.own (β := Code) HS1.out (Nat.le_trans HG.out.hB HG.out.below.size) c W1 W2 row h hg hr⟩
          case hRow =>
            intro q W1 h
            have h1 := h.2.row (.slice (some ⟨g, 0, none⟩) v.length cL, v.length, ints vj) (by simp)
            unfold LeftRow
            rw [HVJ.out]
            exact own_le h1 (Nat.zero_le _)
          case hskip =>
            rintro q W1 ⟨hq, hb⟩ hlt2 hno
            have hz2 : vj.getD q 0 = 0 := Classical.byContradiction fun h => by
              rw [decide_eq_true h] at hno; cases hno
            have hne : q ≠ x := fun e => by subst e; exact HY.out hz2
            rw [← HKP.out q hz2] at hb
            exact ⟨by omega, hb⟩
          case h0 => exact ⟨Nat.zero_le _, HG.out⟩
          case assign =>
            intro lp q W1 K hK
            gi_wp2_with fail
            exact hK
          case body =>
            rintro lp q W1 hlp ⟨hq, hb⟩ hlt2 hyes
            obtain ⟨d1, f1⟩ := hb.cellOf (c := (w.heap.size, 25, .int .u64 (acc q))) (by simp)
            obtain ⟨d2, f2⟩ := hb.cellOf (c := (w1.heap.size + 1, 22, .slice Al j cl)) (by simp)
            by_cases he : q = x
            · subst he
              have hd : decide (acc q < more q) = true := decide_eq_true HAT.out.1
              have hd2 : decide ((acc q : Int) < more q) = true := decide_eq_true (Int.ofNat_lt.2 HAT.out.1)
              have HB9 := Aside0.mk hb
              clear hb
              gi_wp2_with (gi_at_builtin; refine append_oneIn W1 rfl (.tmp 36) (.tmp 38) 22 rfl Try.underlying22 info3 w.heap.size (.slice Al j cl) j (nums .i64 (ints (L.take j))) (q : Int) rfl rfl (HB9.out.row (.slice Al j cl, j, ints (L.take j)) (by simp)) (Nat.le_trans (Nat.le_of_lt HJ.out) (by decide)) HB9.out.below.size ?_; intro v' w' hr hg hat; rw [nums_snoc HTK.out] at hr; have hf : ∃ A c, v' = .slice A (j + 1) c := own_form hr; obtain ⟨A2, c2, rfl⟩ := hf; have hb2 := HB9.out.appended hr hg hat; obtain ⟨e1, g1⟩ := hb2.cellOf (c := (w1.heap.size + 1, 22, .slice Al j cl)) (by simp); replace hb2 := Aside0.mk hb2; replace hg := Aside0.mk hg; clear hr hat)
              refine ⟨(KeepsFrom.of_grownBy (World.grownBy.trans (World.grownBy_alloc W1 _ _) hg.out) HVB.out).trans ((KeepsOthers.setCell _ _ _).from _), rfl, A2, c2, hb2.out.set (.slice A2 (j + 1) c2)⟩
            · have hne : vj.getD q 0 ≠ 0 := of_decide_eq_true hyes
              obtain ⟨hn1, hw⟩ := HON.out q (by omega) hne
              have hd : decide (acc q < more q) = false := decide_eq_false hn1
              have hd2 : decide ((acc q : Int) < more q) = false := decide_eq_false (fun h => hn1 (Int.ofNat_lt.1 h))
              clear hn1
              gi_wp2_with fail
              refine ⟨(KeepsOthers.setCell _ _ _).from _, by omega, ?_⟩
              exact ((hb.perm (.refl _) (.swap _ _ _)).set (.int .u64 (acc (q + 1)))).perm (.refl _) (.swap _ _ _)
          case done =>
            rintro D W1 hD ⟨hq, hb⟩ hDD
            omega
          case stop =>
            rintro D c W1 hD ⟨rfl, A2, c2, hb⟩ hDD
            have hBD : w.heap.size ≤ D := Nat.le_trans HG.out.below.size hD
            have HB2 := Aside0.mk (hb.mark hBD (fun h => by have := HS1.out D h; omega) hDD)
            obtain ⟨e1, g1⟩ := hb.cellOf (c := (w1.heap.size + 1, 22, .slice A2 (j + 1) c2)) (by simp)
            have hrow2 := hb.row (.slice A2 (j + 1) c2, j + 1, ints (L.take (j + 1))) (by simp)
            obtain ⟨g2, rfl⟩ := own_ptr hrow2 (Nat.succ_pos j)
            have hat2 := own_at hrow2 (j : Int) (by omega) (by show (j : Int) < ((j + 1 : Nat) : Int); omega)
            rw [Int.toNat_natCast, rd_ints, last_at HTK.out (Nat.le_of_lt HLT.out)] at hat2
            obtain ⟨hcj, hfj⟩ := hat2
            have hat := own_at (hb.row (.slice (some ⟨g, 0, none⟩) v.length cL, v.length, ints vj) (by simp)) (x : Int) (by omega) (by show (x : Int) < v.length; omega)
            obtain ⟨y, hy⟩ : ∃ y, vj.getD x 0 = y := ⟨_, rfl⟩
            have HYY := Aside0.mk hy
            rw [Int.toNat_natCast, rd_ints, hy] at hat
            obtain ⟨hcx, hfx⟩ := hat
            clear hrow2 hb hy
            gi_wp2_with fail
            have hB3 := ((HB2.out.perm (.swap _ _ _) (.refl _)).setRow (x : Int) (wrap64 ((y : Int) - 1))).perm (.swap _ _ _) (.refl _)
            rw [Int.toNat_natCast, ints_less HYY.out (HYY.out ▸ HY.out) (sum_small (mem_le_sum_at HYY.out (HYY.out ▸ HY.out)) HS.out), HAT.out.2, ← HT.out] at hB3
            obtain ⟨e2, _⟩ := hB3.cellOf (c := (w1.heap.size + 1, 22, .slice (some ⟨g2, 0, none⟩) (j + 1) c2)) (by simp)
            refine ⟨⟨_, _, _, _, _, _, _, _, _, _, _, _, _, _, _, _, _, _, _, _, _, _, _, _, _, _, _, _, _, _, _, D :: ds, ⟨j + 1, HLT.out, less vj x, ⟨?g1⟩, ⟨?g2⟩, ⟨?g3⟩, ⟨?g4⟩, _, ⟨hB3⟩⟩, ⟨rfl, rfl, rfl, rfl, rfl, rfl, rfl, rfl, rfl, rfl, rfl, rfl, rfl, rfl, rfl, rfl, rfl, rfl, rfl, rfl, rfl, rfl, rfl, rfl, rfl, rfl, rfl, rfl, rfl, rfl, rfl⟩, rfl⟩, ?g7⟩
            case g1 => rw [HT.out]; exact HP.out.2
            case g2 => rw [less_length]; exact HVJ.out
            case g3 => have := less_sum vj x HY.out; have := HS.out; omega
            case g4 => exact Nat.le_trans (mc_less_le HY.out) HM.out
            case g7 => rw [e2]; exact sub_next2 HLT.out
        · have hge : L.length ≤ j := by omega
          obtain rfl : j = L.length := by omega
          gi_wp2_with fail
          refine leaves_marks ds _ HG.out.un ⟨_, results_tmp rfl _ _ _, ⟨_, rfl, ?_, shutAll_below (Nat.le_refl _) ds _ HG.out.below HG.out.lo⟩⟩
          have h1 := shut_own ds W HG.out.un (HG.out.row (.slice Al L.length cl, L.length, ints (L.take L.length)) (by simp))
          rw [List.take_length] at h1
          exact h1
end Go.Proofs.Ytohpboblmmbjnaa.P
/- The contracts of At and Rank of odo's spaces: weaves. -/
namespace Go.Proofs.Ytohpboblmmbjnaa.P
open Go Go.RowKit Go.Proofs.YtohpboblmmbjnaaW.PrintWords Go.Proofs.YtohpboblmmbjnaaW.PrintLast Go.Proofs.YtohpboblmmbjnaaW.PrintMore Go.Proofs.Odo

set_option maxHeartbeats 1000000 in
set_option maxRecDepth 100000 in
theorem odo_At_weaves.calls (k : Nat) (vl L : List Nat) (hb1 : vl.sum ≤ 64) (hb2 : vl.length ≤ 64) (r1 : Int) (r2 : Bool) (n : Int) (v : Value) (w : World) (hs : SpAt 82 w v (ints vl)) (h : odo_weaves_count.f k (ints vl) = some (r1, r2))
    (ha : r2 = true → n < r1 → mc vl < 18446744073709551616 ∧ Is vl L ∧ n = ((rank vl L : Nat) : Int)) :
    Calls Try.prog 11 #[v, .int .u64 n] w fun e w' => ∃ v1 : Value, e = .returned (.tuple #[v1, .int .i64 (atRes r1 r2 n (ints L)).2]) ∧ Kd.R (Kd.int .i64) 3 w' w.heap.size (fun _ => True) v1 (atRes r1 r2 n (ints L)).1 ∧ Below w.heap.size w w' := by
  have HS := Aside0.mk hs
  have HB1 := Aside0.mk hb1
  have HB2L := Aside0.mk hb2
  clear hb1 hb2
  obtain ⟨g, A, c, rfl, hg, hc, hC⟩ := hs
  have HC := Aside0.mk hC
  have HL := Aside0.mk hc
  have H := Aside0.mk h
  have HA := Aside0.mk ha
  clear hC hc h ha
  have hm := (m82 A (ints vl).length c).2.1
  cases r2 with
  | true =>
    by_cases hn : r1 ≤ n
    · have hr : atRes r1 true n (ints L) = ([], 3) := by unfold atRes; rw [if_pos rfl, if_pos hn]
      rw [hr]
      clear hr
      have hb : decide (r1 ≤ n) = true := decide_eq_true hn
      clear hn
      go_enter Try.func11, Try.ntmps11
      go_wp2_with (go_at_call 9; refine (odo_Len_weaves.calls k (ints vl) r1 true _ w HS.out H.out).mono ?_; rw [if_pos rfl, if_pos rfl]; rintro e w1 ⟨rfl, ⟨nd, rfl⟩⟩)
      go_ret2
      exact ⟨_, rfl, Kd.R_nil _ _ _ _ _, by repeat (first | exact Below.refl _ _ | refine pw_below_drewN ?_ _ | refine below_drew ?_)⟩
    · have hr : atRes r1 true n (ints L) = (ints L, 0) := by unfold atRes; rw [if_pos rfl, if_neg hn]
      rw [hr]
      clear hr
      have hX := HA.out rfl (by omega)
      obtain ⟨hX1, hX2, rfl⟩ := hX
      have HX := Aside0.mk (And.intro hX1 hX2)
      have hb : decide (r1 ≤ ((rank vl L : Nat) : Int)) = false := decide_eq_false hn
      clear hn hX1 hX2 HA
      go_enter Try.func11, Try.ntmps11
      go_wp2_with (first | (go_at_call 9; refine (odo_Len_weaves.calls k (ints vl) r1 true _ w HS.out H.out).mono ?_; rw [if_pos rfl, if_pos rfl]; rintro e w1 ⟨rfl, ⟨nd, rfl⟩⟩) | (go_at_call 68; refine (weaves_at.calls vl L A c _ (Kd.C_drewN HC.out _) HL.out HB1.out HB2L.out HX.out.1 HX.out.2).mono ?_; rintro e w2 ⟨v2, rfl, hR2, hB2⟩; replace hR2 := Kd.R_of_own (e := 3) (ok := fun _ => True) (h1 := fun _ => rfl) (enc := Value.int .i64) (xs := ints L) (by rw [ints_length]; exact hR2) (fun _ _ => trivial); have HR2 := Aside0.mk hR2; have HB2 := Aside0.mk hB2; clear hR2 hB2))
      go_ret2
      exact ⟨_, rfl, HR2.out, below_then (pw_below_drewN (Below.refl _ _) _) (Nat.le_refl _) HB2.out⟩
  | false =>
    have hr : atRes r1 false n (ints L) = ([], 30) := rfl
    rw [hr]
    clear hr
    go_enter Try.func11, Try.ntmps11
    go_wp2_with (go_at_call 9; refine (odo_Len_weaves.calls k (ints vl) r1 false _ w HS.out H.out).mono ?_; rw [if_neg (by decide), if_neg (by decide)]; rintro e w1 ⟨rfl, ⟨nd, rfl⟩⟩)
    go_ret2
    exact ⟨_, rfl, Kd.R_nil _ _ _ _ _, by repeat (first | exact Below.refl _ _ | refine pw_below_drewN ?_ _ | refine below_drew ?_)⟩

set_option maxHeartbeats 1000000 in
set_option maxRecDepth 100000 in
theorem odo_Rank_weaves.calls (k : Nat) (vl : List Nat) (hb1 : vl.sum ≤ 64) (hb2 : vl.length ≤ 64) (r1 : Int) (r2 : Bool) (A1 : Option Addr) (c1 : Nat) (xs : List Int) (hxs : xs.length < 9223372036854775807) (q : Int) (ok : Bool) (v : Value) (w : World) (hs : SpAt 82 w v (ints vl)) (h : odo_weaves_count.f k (ints vl) = some (r1, r2))
    (hr1 : Kd.C (Kd.int .i64) w A1 xs.length xs) (hc1 : xs.length ≤ c1) (ha : r2 = true → mc vl < 18446744073709551616 ∧ q = (((rankW vl xs 0).1 : Nat) : Int) ∧ ok = (rankW vl xs 0).2) :
    Calls Try.prog 14 #[v, .slice A1 xs.length c1] w fun e w' => e = .returned (.tuple #[.int .u64 (rankRes r2 q ok).1, .int .i64 (rankRes r2 q ok).2]) ∧ Below w.heap.size w w' := by
  have HS := Aside0.mk hs
  have HB1 := Aside0.mk hb1
  have HB2L := Aside0.mk hb2
  clear hb1 hb2
  obtain ⟨g, A, c, rfl, hg, hc, hC⟩ := hs
  have HC := Aside0.mk hC
  have HL := Aside0.mk hc
  have H := Aside0.mk h
  have HA := Aside0.mk ha
  have HXS := Aside0.mk hxs
  clear hxs
  have HR1 := Aside0.mk hr1
  have HC1 := Aside0.mk hc1
  clear hC hc h ha hr1 hc1
  have hm := (m82 A (ints vl).length c).2.2
  cases r2 with
  | true =>
    have HX := Aside0.mk (HA.out rfl)
    clear HA
    cases ok with
    | true =>
      have hr : rankRes true q true = (q, 0) := rfl
      rw [hr]
      clear hr
      go_enter Try.func14, Try.ntmps14
      go_wp2_with (first | (go_at_call 9; refine (odo_Len_weaves.calls k (ints vl) r1 true _ w HS.out H.out).mono ?_; rw [if_pos rfl, if_pos rfl]; rintro e w1 ⟨rfl, ⟨nd, rfl⟩⟩) | (go_at_call 72; refine (weaves_rank.calls vl A c A1 c1 xs _ (Kd.C_drewN HC.out _) HL.out (Kd.C_drewN HR1.out _) HC1.out HB1.out HB2L.out HX.out.1 HXS.out).mono ?_; rintro e w2 ⟨rfl, hB2⟩; rw [← HX.out.2.2, ← HX.out.2.1]; have HB2 := Aside0.mk hB2; clear hB2))
      go_ret2
      exact ⟨rfl, below_then (pw_below_drewN (Below.refl _ _) _) (Nat.le_refl _) HB2.out⟩
    | false =>
      have hr : rankRes true q false = (0, 3) := rfl
      rw [hr]
      clear hr
      go_enter Try.func14, Try.ntmps14
      go_wp2_with (first | (go_at_call 9; refine (odo_Len_weaves.calls k (ints vl) r1 true _ w HS.out H.out).mono ?_; rw [if_pos rfl, if_pos rfl]; rintro e w1 ⟨rfl, ⟨nd, rfl⟩⟩) | (go_at_call 72; refine (weaves_rank.calls vl A c A1 c1 xs _ (Kd.C_drewN HC.out _) HL.out (Kd.C_drewN HR1.out _) HC1.out HB1.out HB2L.out HX.out.1 HXS.out).mono ?_; rintro e w2 ⟨rfl, hB2⟩; rw [← HX.out.2.2, ← HX.out.2.1]; have HB2 := Aside0.mk hB2; clear hB2))
      go_ret2
      exact ⟨rfl, below_then (pw_below_drewN (Below.refl _ _) _) (Nat.le_refl _) HB2.out⟩
  | false =>
    have hr : rankRes false q ok = (0, 30) := rfl
    rw [hr]
    clear hr
    go_enter Try.func14, Try.ntmps14
    go_wp2_with (go_at_call 9; refine (odo_Len_weaves.calls k (ints vl) r1 false _ w HS.out H.out).mono ?_; rw [if_neg (by decide), if_neg (by decide)]; rintro e w1 ⟨rfl, ⟨nd, rfl⟩⟩)
    go_ret2
    exact ⟨rfl, by repeat (first | exact Below.refl _ _ | refine pw_below_drewN ?_ _ | refine below_drew ?_)⟩
end Go.Proofs.Ytohpboblmmbjnaa.P
