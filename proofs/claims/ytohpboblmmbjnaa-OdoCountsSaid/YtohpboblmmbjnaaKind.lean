/- OdoCounts: the law's own walk. -/
import Derived.Test.YtohpboblmmbjnaaCna
import Derived.Test.YtohpboblmmbjnaaFi
import Derived.Test.YtohpboblmmbjnaaVa
import Derived.SizedLaws
import Derived.Deep.Slices
import Derived.ChangeArms
import Derived.ChangeOld
import Derived.DataReads
import Derived.WideShapes
import Derived.Test.YtohpboblmmbjnaaP1
namespace Go.Proofs.Ytohpboblmmbjnaa.P
open Go Go.RowKit Go.Shelf Go.Proofs.YtohpboblmmbjnaaW.PrintWords Go.Proofs.YtohpboblmmbjnaaW.PrintLast Go.Proofs.YtohpboblmmbjnaaW.PrintMore Go.Proofs.Odo
attribute [local go_sem] Oper.semAt_some

theorem blk_alloc {w : World} {k : Nat} {o o' : Obj} (h : w.heap[k]? = some o) : (w.alloc o').heap[k]? = some o := (Below.heap_alloc w o' k (Array.getElem?_eq_some_iff.1 h).1).trans h
theorem blk_below {w w' : World} {k : Nat} {o : Obj} (h : w.heap[k]? = some o) (hb : Below w.heap.size w w') : w'.heap[k]? = some o := (hb.block k (Array.getElem?_eq_some_iff.1 h).1).trans h
theorem cell_of {w : World} {k : Nat} {t : TypeId} {v : Value} (h : w.heap[k]? = some (.cells #[v] t (0, 0))) : w.cell? ⟨k, 0, none⟩ = some v ∧ w.frozen? ⟨k, 0, none⟩ = false := ⟨by simp [World.cell?, h], by simp [World.frozen?, h]⟩
theorem results_bool {fn : Func} {p : Tmp} (h : fn.results = #[.cell p 4]) (tmps : Array Value) (w : World) (g : Nat) (v : Value)
    (hp : tmps.getD p undef = .pointer (some ⟨g, 0, none⟩)) (hc : w.cell? ⟨g, 0, none⟩ = some v) : (results fn tmps).run Try.prog w = .ok v w := by
  have hp' : tmps[p]?.getD undef = .pointer (some ⟨g, 0, none⟩) := by simpa using hp
  have hu := Try.underlying4
  simp only [results, h]
  go_simp
theorem shutAll_other : ∀ (ds : List Nat) (W : World) (k : Nat), k ∉ ds → (shutAll ds W).heap[k]? = W.heap[k]?
  | [], _, _, _ => rfl
  | D :: ds, W, k, h => by
    simp only [List.mem_cons, not_or] at h
    exact (shutAll_other ds _ k h.2).trans (World.putObj_heap_other h.1)
theorem fin_bool {fn : Func} {p : Tmp} (h : fn.results = #[.cell p 4]) {n g : Nat} {w W : World} {tmps : Array Value} {ds : List Nat} (hp : tmps.getD p undef = .pointer (some ⟨g, 0, none⟩)) (hc : W.heap[g]? = some (.cells #[.bool true] 4 (0, 0))) (hB : Below w.heap.size w W) (hu : Unshut W ds) (hlo : ∀ D ∈ ds, w.heap.size ≤ D) :
    LeavesInM Fence.wide n Try.prog fn tmps (fun e w' => e = .returned (.bool true) ∧ Below w.heap.size w w') (marks ds) .returning W := by
  have hn : g ∉ ds := fun hd => by rw [hu.2 g hd] at hc; cases hc
  exact leaves_marks ds _ hu ⟨_, results_bool h _ _ _ _ hp (cell_of ((shutAll_other ds W g hn).trans hc)).1, rfl, shutAll_below (Nat.le_refl _) ds _ hB hlo⟩
theorem below_setc {B g : Nat} {w W : World} (h : Below B w W) (hw : B ≤ W.heap.size) (hg : B ≤ g) (v : Value) : Below B w (W.setCell ⟨g, 0, none⟩ v) := h.grown (grownBy_setCell' W g v) hw (fun k e => by cases e; exact hg)
theorem fn55 (W : World) (f : Fn) (a b : Array Value) : (binOp .eql 55 (.func f a b) .nilFunc).run Try.prog W = .ok (.bool false) W := by kernel_rfl
theorem same_self_l : ∀ (d : Nat) (x : List Int) (j : Nat), j + d = x.length → x.length < 9223372036854775807 → weirlaw01_SameInts.l0 (d + 1) x x (j : Int) = some true
  | 0, x, j, h, _ => by rw [weirlaw01_SameInts.l0, if_neg (by omega)]
  | d + 1, x, j, h, hl => by
    rw [weirlaw01_SameInts.l0, if_pos (by omega), if_pos (by omega), if_pos (by omega), if_pos rfl, wrap_next (n := x.length) (by omega) hl]
    exact same_self_l d x (j + 1) (by omega) hl
theorem same_self (x : List Int) (hl : x.length < 9223372036854775807) : weirlaw01_SameInts.f (x.length + 1) x x = some true := by
  unfold weirlaw01_SameInts.f
  rw [if_pos rfl]
  exact same_self_l x.length x 0 (by omega) hl
theorem grown_after {W2 W3 : World} (hb : Below W2.heap.size W2 W3) (nb : Nat) (u : Value) : W2.grownBy (W3.setCell ⟨nb, 0, none⟩ u) (some nb) :=
  ⟨hb.os, hb.tape, hb.output, by rw [set_size]; exact hb.size, fun k hk hne => by rw [set_other (fun e => hne (by rw [e]))]; exact hb.block k hk⟩
theorem u64_inc (i : Nat) (h : i < 4000) : IntKind.u64.wrap ((i : Int) + 1) = ((i + 1 : Nat) : Int) := by unfold IntKind.wrap; simp [IntKind.signed, IntKind.bits]; omega
theorem cellsAt {w : World} {g i : Nat} {t : TypeId} {cs : Array Value} {v : Value} (h : w.heap[g]? = some (.cells cs t (0, 0))) (hv : cs[i]? = some v) : w.cell? ⟨g, i, none⟩ = some v := by simp [World.cell?, h, hv]
set_option maxHeartbeats 8000000 in
set_option maxRecDepth 100000 in
theorem counts_walk (K N : Int) (A0 : Option Addr) (c0 : Nat) (l0 : List Int) (w : World) (hr0 : Kd.C (Kd.int .i64) w A0 l0.length l0) (hc0 : l0.length ≤ c0) (hent : ∀ x ∈ l0, x < 9223372036854775808) :
    Calls Try.prog 7 #[.agg #[.int .i64 K, .slice A0 l0.length c0, .int .i64 N]] w fun e w' => e = .returned (.bool true) ∧ Below w.heap.size w w' := by
  have HR0 := Aside0.mk hr0
  have HC0 := Aside0.mk hc0
  have HE := Aside0.mk hent
  obtain ⟨W1, hW1⟩ : ∃ W1, (w.alloc (.cells #[.int .i64 K, .slice A0 l0.length c0, .int .i64 N] 24)).alloc (.cells #[.bool false] 4) = W1 := ⟨_, rfl⟩
  have hS1 : W1.heap.size = w.heap.size + 2 := by rw [← hW1]; simp
  have hG : W1.heap[w.heap.size]? = some (.cells #[.int .i64 K, .slice A0 l0.length c0, .int .i64 N] 24 (0, 0)) := by rw [← hW1]; exact blk_alloc (World.alloc_heap_new w _)
  have hR : W1.heap[w.heap.size + 1]? = some (.cells #[.bool false] 4 (0, 0)) := by rw [← hW1]; have h := World.alloc_heap_new (w.alloc (.cells #[.int .i64 K, .slice A0 l0.length c0, .int .i64 N] 24)) (.cells #[.bool false] 4); rwa [World.size_alloc] at h
  have hB : Below w.heap.size w W1 := by rw [← hW1]; exact below_alloc (below_alloc (Below.refl _ _) _) _
  have HW1 := Aside0.mk hW1
  have HS1 := Aside0.mk hS1
  have HG := Aside0.mk hG
  have HR := Aside0.mk hR
  have HB := Aside0.mk hB
  obtain ⟨q1, q2, q3⟩ := ptr26
  clear hr0 hc0 hent hW1 hS1 hG hR hB
  refine (callsIn_wide (n := 3)).1 ?_
  refine callsIn_of_wp_marks Try.func7 rfl trivial ?_ rfl
  simp only [Try.ntmps7, List.size_toArray, List.length_cons, List.length_nil, Nat.reduceAdd, Nat.reduceSub, Array.replicate_succ, Array.replicate_zero, List.push_toArray, List.append_toArray, List.nil_append, List.cons_append]
  gi_wp2_with fail
  refine ⟨trivial, ?_⟩
  rw [HW1.out]
  refine (callsIn_wide.2 (awake.calls _)).mono ?_
  rintro e w2 ⟨rfl, hB2⟩
  replace HG := Aside0.mk (blk_below HG.out hB2)
  replace HR := Aside0.mk (blk_below HR.out hB2)
  replace HB := Aside0.mk (below_then HB.out HB.out.size hB2)
  replace HS1 := Aside0.mk (show w.heap.size + 2 ≤ w2.heap.size by have := hB2.size; rw [HS1.out] at this; exact this)
  clear hB2 HW1
  have g0 := cellsAt HG.out (i := 0) rfl
  have g1 := cellsAt HG.out (i := 1) rfl
  have g2 := cellsAt HG.out (i := 2) rfl
  gi_wp2_with fail
  refine ⟨trivial, ?_⟩
  refine (callsIn_wide.2 (space2.calls K N A0 c0 l0 w2 (Kd.C_below HR0.out HB.out) HC0.out HE.out)).mono ?_
  rintro e w3 ⟨v, r, rfl, hS, hB3⟩
  replace HR := Aside0.mk (blk_below HR.out hB3)
  replace HB := Aside0.mk (below_then HB.out HB.out.size hB3)
  replace HS1 := Aside0.mk (Nat.le_trans HS1.out hB3.size)
  clear hB3 g0 g1 g2 HG
  rcases hS with ⟨hr, rfl⟩ | ⟨rfl, T, l, all, ok, IsL, num, ff, fn, x0, nx, hSv, hG, hSp⟩
  · have hb : (r != 0) = true := by simpa using hr
    clear hr
    obtain ⟨d1, f1⟩ := cell_of HR.out
    have hne : w.heap.size + 1 < w3.heap.size := HS1.out
    have hne2 : w3.heap.size ≠ w.heap.size + 1 := by omega
    gi_wp2_with fail
    refine fin_bool (ds := []) rfl rfl (blk_alloc (heap_set HR.out)) ?_ ⟨List.nodup_nil, by simp⟩ (by simp)
    exact below_alloc (below_setc HB.out HB.out.size (Nat.le_succ _) _) _
  · have SV := Aside0.mk hSv
    have SG := Aside0.mk hG
    obtain ⟨gp, hgp⟩ : ∃ gp, v = .pointer (some ⟨gp, 0, none⟩) := by obtain ⟨g, _, _, h, _⟩ := hSp; exact ⟨g, h⟩
    subst hgp
    obtain ⟨W4, hW4⟩ : ∃ W4, w3.alloc (.cells #[.pointer (some ⟨gp, 0, none⟩)] 26) = W4 := ⟨_, rfl⟩
    have b4 := below_alloc (Below.refl w3.heap.size w3) (.cells #[.pointer (some ⟨gp, 0, none⟩)] 26)
    rw [hW4] at b4
    have SP := Aside0.mk (hSp.below b4)
    obtain ⟨sb, hsb⟩ : ∃ sb, w3.heap.size = sb := ⟨_, rfl⟩
    have HSB := Aside0.mk (show W4.heap[sb]? = some (.cells #[.pointer (some ⟨gp, 0, none⟩)] 26 (0, 0)) by rw [← hW4, ← hsb]; exact World.alloc_heap_new w3 _)
    have HSL := Aside0.mk (show w.heap.size + 2 ≤ sb by rw [← hsb]; exact HS1.out)
    have HR4 := Aside0.mk (blk_below HR.out b4)
    have HB4 := Aside0.mk (below_then HB.out HB.out.size b4)
    have HW4 := Aside0.mk hW4
    clear hSv hG hSp b4 hW4 HR HB HS1
    have hb : ((0 : Int) != 0) = false := rfl
    gi_wp2_with fail
    refine ⟨trivial, ?_⟩
    rw [HW4.out]
    clear HW4
    cases ok with
    | false =>
      have hlen := SV.out.len _ _ SP.out
      rw [if_neg (by decide), if_neg (by decide)] at hlen
      refine (callsIn_wide.2 hlen).mono ?_
      rintro e w5 ⟨rfl, ⟨nd, rfl⟩⟩
      have HR5 := Aside0.mk (show (W4.drewN nd).heap[w.heap.size + 1]? = some (.cells #[.bool false] 4 (0, 0)) from HR4.out)
      have HB5 := Aside0.mk (pw_below_drewN HB4.out nd)
      obtain ⟨d1, f1⟩ := cell_of HR5.out
      clear hlen
      generalize W4.drewN nd = W5 at HR5 HB5 d1 f1 ⊢
      gi_wp2_with fail
      exact fin_bool (ds := []) rfl rfl (heap_set HR5.out) (below_setc HB5.out HB5.out.size (Nat.le_succ _) _) ⟨List.nodup_nil, by simp⟩ (by simp)
    | true =>
      have hlen := SV.out.len _ _ SP.out
      rw [if_pos rfl, if_pos rfl] at hlen
      refine (callsIn_wide.2 hlen).mono ?_
      rintro e w5 ⟨rfl, ⟨nd, rfl⟩⟩
      have HR5 := Aside0.mk (show (W4.drewN nd).heap[w.heap.size + 1]? = some (.cells #[.bool false] 4 (0, 0)) from HR4.out)
      have HB5 := Aside0.mk (pw_below_drewN HB4.out nd)
      have HSB5 := Aside0.mk (show (W4.drewN nd).heap[sb]? = some (.cells #[.pointer (some ⟨gp, 0, none⟩)] 26 (0, 0)) from HSB.out)
      have SP5 := Aside0.mk (SP.out.below (pw_below_drewN (Below.refl _ _) nd))
      obtain ⟨d1, f1⟩ := cell_of HR5.out
      clear hlen HR4 HB4 HSB SP
      generalize W4.drewN nd = W5 at HR5 HB5 HSB5 SP5 d1 f1 ⊢
      by_cases hall : 3000 < all
      · have hd : decide (3000 < (all : Int)) = true := decide_eq_true (by omega)
        have hd2 : decide (3000 < all) = true := decide_eq_true hall
        clear hall
        gi_wp2_with fail
        exact fin_bool (ds := []) rfl rfl (heap_set HR5.out) (below_setc HB5.out HB5.out.size (Nat.le_succ _) _) ⟨List.nodup_nil, by simp⟩ (by simp)
      · have hd : decide (3000 < (all : Int)) = false := decide_eq_false (by omega)
        have hd2 : decide (3000 < all) = false := decide_eq_false hall
        have HALL := Aside0.mk hall
        clear hall
        obtain ⟨W6, hW6⟩ : ∃ W6, W5.alloc (.cells #[.int .u64 0] 25) = W6 := ⟨_, rfl⟩
        have b6 := below_alloc (Below.refl W5.heap.size W5) (.cells #[.int .u64 0] 25)
        rw [hW6] at b6
        obtain ⟨nb, hnb⟩ : ∃ nb, W5.heap.size = nb := ⟨_, rfl⟩
        have HNB6 := Aside0.mk (show W6.heap[nb]? = some (.cells #[.int .u64 0] 25 (0, 0)) by rw [← hW6, ← hnb]; exact World.alloc_heap_new W5 _)
        have HR6 := Aside0.mk (blk_below HR5.out b6)
        have HB6 := Aside0.mk (below_then HB5.out HB5.out.size b6)
        have HSB6 := Aside0.mk (blk_below HSB5.out b6)
        have SP6 := Aside0.mk (SP5.out.below b6)
        have HW6 := Aside0.mk hW6
        have HNL := Aside0.mk (show sb < nb by rw [← hnb]; exact (Array.getElem?_eq_some_iff.1 HSB5.out).1)
        obtain ⟨d2, f2⟩ := cell_of (blk_alloc (o' := .cells #[.int .u64 0] 25) HSB5.out)
        have hne3 : nb ≠ w.heap.size + 1 := by have := HNL.out; have := HSL.out; omega
        clear b6 hW6 HR5 HB5 HSB5 SP5
        gi_wp2_with fail
        refine ⟨trivial, ?_⟩
        rw [HW6.out]
        clear HW6 d1 f1 d2 f2
        refine (callsIn_wide.2 (iter_made SV.out SG.out W6 _ SP6.out)).mono ?_
        rintro e w7 ⟨gf, lb, Fix, rfl, hit, hfix, hB7⟩
        have HIT := Aside0.mk hit
        have HFX := Aside0.mk hfix
        have HNB7 := Aside0.mk (blk_below HNB6.out hB7)
        have HR7 := Aside0.mk (blk_below HR6.out hB7)
        have HB7 := Aside0.mk (below_then HB6.out HB6.out.size hB7)
        have HSB7 := Aside0.mk (blk_below HSB6.out hB7)
        have SP7 := Aside0.mk (SP6.out.below hB7)
        clear hit hfix hB7 HNB6 HR6 HB6 HSB6 SP6
        have h55 := fn55
        gi_wp2_with fail
        clear h55
        refine wpIn_rangeFunc_iter rfl (by decide) (gf := gf) (lb := lb) rfl trivial HIT.out.en HIT.out.it
          (fun b i W => w7.heap.size ≤ b ∧ Below w7.heap.size (w7.setCell ⟨nb, 0, none⟩ (.int .u64 (i : Int))) W) (fun _ _ => False) ?hI ?hIx ?hFix ?h0 ?a1 ?hassign ?hbody ?hdone ?hstop
        case hI =>
          rintro b i W W' row ⟨h1, h2⟩ hg hr
          exact ⟨h1, h2.grown hg (by have := h2.size; rwa [set_size] at this) (fun k hk => (hr k hk).1)⟩
        case hIx => exact fun _ _ _ _ h _ _ => h
        case hFix =>
          rintro b i W ⟨h1, h2⟩
          exact HIT.out.below _ _ (HIT.out.set w7 nb 0 _ HFX.out HNB7.out) (by rw [set_size]; exact h2)
        case h0 => exact fun b W h1 h2 => ⟨h2, below_set0 HNB7.out h1⟩
        case hassign =>
          intro lp v W K hK
          gi_wp2_with fail
          exact hK
        case hbody =>
          intro lp b i A c0' c1' Wa Wb hlp hrec hb ⟨_, hBa⟩ hi hBb hrow hc1
          have HB2 := Aside0.mk (show Below w7.heap.size (w7.setCell ⟨nb, 0, none⟩ (.int .u64 (i : Int))) Wb from hBa.trans (hBb.mono (by have := hBa.size; rwa [set_size] at this)))
          have hsz : (w7.setCell ⟨nb, 0, none⟩ (.int .u64 (i : Int))).heap.size = w7.heap.size := set_size _ _ _
          have hnb7 : nb < w7.heap.size := (Array.getElem?_eq_some_iff.1 HNB7.out).1
          have hsb7 : sb < w7.heap.size := (Array.getElem?_eq_some_iff.1 HSB7.out).1
          have HNBb := Aside0.mk (show Wb.heap[nb]? = some (.cells #[.int .u64 (i : Int)] 25 (0, 0)) from (HB2.out.block nb hnb7).trans (heap_set HNB7.out))
          have HSBb := Aside0.mk (show Wb.heap[sb]? = some (.cells #[.pointer (some ⟨gp, 0, none⟩)] 26 (0, 0)) from (HB2.out.block sb hsb7).trans ((set_other (Nat.ne_of_lt HNL.out)).trans HSB7.out))
          have SPb := Aside0.mk (show SpAt T Wb (.pointer (some ⟨gp, 0, none⟩)) l from (SP7.out.set HNB7.out).below (by rw [hsz]; exact HB2.out))
          obtain ⟨x, hx, hnum, hat⟩ := SV.out.at_ rfl i hi
          obtain ⟨⟨hl1, hl2⟩, -, -⟩ := lists_are SV.out SG.out i hi
          obtain rfl := SV.out.inj _ _ hx hl1 (hnum.trans hl2.symm)
          obtain ⟨hsm, -⟩ := SV.out.small _ hx
          have HSM := Aside0.mk hsm
          have hat2 := hat _ _ SPb.out
          have HAT := Aside0.mk hat2
          obtain ⟨hC, hCc⟩ := own_C hrow rfl
          have HCL := Aside0.mk hC
          have HC1 := Aside0.mk hc1
          have HI := Aside0.mk hi
          have HBB := Aside0.mk hb
          obtain ⟨d1, f1⟩ := cell_of HNBb.out
          obtain ⟨d2, f2⟩ := cell_of HSBb.out
          clear hsz hx hnum hat hl1 hl2 hsm hat2 hC hCc hc1 hrow hBb hBa hb hrec hi
          gi_wp2_with fail
          refine ⟨trivial, ?_⟩
          refine (callsIn_wide.2 HAT.out).mono ?_
          rintro e w8 ⟨v8, rfl, hR8, hB8⟩
          obtain ⟨A8, c8, rfl, hc8, hC8⟩ := Kd.R_reads hR8
          have hsame := weirlaw01_SameInts.calls ((ints (lists nx x0 i)).length + 1) A8 c8 (ints (lists nx x0 i)) A c1' (ints (lists nx x0 i)) true w8 hC8 hc8 (Kd.C_below HCL.out hB8) HC1.out (same_self _ (by rw [ints_length]; have := HSM.out; omega))
          have HSA := Aside0.mk hsame
          have HB8 := Aside0.mk hB8
          clear hR8 hB8 hc8 hC8 hsame d1 f1 d2 f2
          gi_wp2_with fail
          refine ⟨trivial, ?_⟩
          refine (callsIn_wide.2 HSA.out).mono ?_
          rintro e w9 ⟨rfl, ⟨nd9, rfl⟩⟩
          have HB9 := Aside0.mk (pw_below_drewN HB8.out nd9)
          have HNB9 := Aside0.mk (blk_below HNBb.out HB9.out)
          obtain ⟨d1, f1⟩ := cell_of HNB9.out
          have HU := Aside0.mk (u64_inc i (by have := HI.out; have := HALL.out; omega))
          clear HSA HAT
          generalize w8.drewN nd9 = W9 at HB9 HNB9 d1 f1 ⊢
          gi_wp2_with fail
          rw [HU.out]
          have hg := grown_after HB9.out nb (.int .u64 ((i + 1 : Nat) : Int))
          refine ⟨KeepsFrom.of_grownBy hg (fun j hj => by cases hj; exact hnb7), ⟨HBB.out, below_step HNB7.out hnb7 (HB2.out.trans (HB9.out.mono (by have := HB2.out.size; rwa [set_size] at this)))⟩, fun o ho => ?_⟩
          rw [← ho]
          exact hg.block b (Array.getElem?_eq_some_iff.1 ho).1 (fun e => by injection e with e; have := HBB.out; omega)
        case hdone =>
          intro D b W hD ⟨_, hBa⟩ hDD
          have hsz : (w7.setCell ⟨nb, 0, none⟩ (.int .u64 (all : Int))).heap.size = w7.heap.size := set_size _ _ _
          have hnb7 : nb < w7.heap.size := (Array.getElem?_eq_some_iff.1 HNB7.out).1
          have hsb7 : sb < w7.heap.size := (Array.getElem?_eq_some_iff.1 HSB7.out).1
          have hrb7 : w.heap.size + 1 < w7.heap.size := (Array.getElem?_eq_some_iff.1 HR7.out).1
          have HNBb := Aside0.mk (show W.heap[nb]? = some (.cells #[.int .u64 (all : Int)] 25 (0, 0)) from (hBa.block nb hnb7).trans (heap_set HNB7.out))
          have HSBb := Aside0.mk (show W.heap[sb]? = some (.cells #[.pointer (some ⟨gp, 0, none⟩)] 26 (0, 0)) from (hBa.block sb hsb7).trans ((set_other (Nat.ne_of_lt HNL.out)).trans HSB7.out))
          have hner : w.heap.size + 1 ≠ nb := by have := HSL.out; have := HNL.out; omega
          have HRb := Aside0.mk (show W.heap[w.heap.size + 1]? = some (.cells #[.bool false] 4 (0, 0)) from (hBa.block _ hrb7).trans ((set_other hner).trans HR7.out))
          have SPb := Aside0.mk (show SpAt T W (.pointer (some ⟨gp, 0, none⟩)) l from (SP7.out.set HNB7.out).below (by rw [hsz]; exact hBa))
          have HBW := Aside0.mk (show Below w.heap.size w W from (below_setc HB7.out HB7.out.size (by have := HSL.out; have := HNL.out; omega) _).trans (hBa.mono (by have := HB7.out.size; omega)))
          have HDB := Aside0.mk (show w.heap.size ≤ D from Nat.le_trans HB7.out.size hD)
          have HFAR := Aside0.mk (SG.out.far all (Nat.le_refl _) (SV.out.big rfl) _ _ SPb.out)
          have HDD := Aside0.mk hDD
          obtain ⟨d1, f1⟩ := cell_of HNBb.out
          obtain ⟨d2, f2⟩ := cell_of HSBb.out
          clear hBa hDD hD hsz hnb7 hsb7 hrb7
          gi_wp2_with fail
          refine ⟨trivial, ?_⟩
          refine (callsIn_wide.2 HFAR.out).mono ?_
          rintro e w8 ⟨v8, rfl, hB8⟩
          have HNB8 := Aside0.mk (blk_below HNBb.out hB8)
          have HR8 := Aside0.mk (blk_below HRb.out hB8)
          have HD8 := Aside0.mk (blk_below HDD.out hB8)
          have HB8 := Aside0.mk (below_then HBW.out HBW.out.size hB8)
          clear hB8 d1 f1 d2 f2
          obtain ⟨d1, f1⟩ := cell_of HNB8.out
          obtain ⟨d2, f2⟩ := cell_of HR8.out
          gi_wp2_with fail
          have hnD : D ≠ w.heap.size + 1 := fun e => by
            have h1 := HD8.out
            rw [e, HR8.out] at h1
            cases h1
          refine fin_bool (ds := [D]) rfl rfl (heap_set HR8.out) (below_setc HB8.out HB8.out.size (Nat.le_succ _) _) ⟨by simp, fun E hE => ?_⟩ (fun E hE => ?_)
          · rw [List.mem_singleton] at hE
            subst hE
            exact (set_other hnD).trans HD8.out
          · rw [List.mem_singleton] at hE
            subst hE
            exact HDB.out
        case hstop => exact fun _ _ _ _ h => h.elim
end Go.Proofs.Ytohpboblmmbjnaa.P
/-! What a law's argument holds, out of what its row says of it (DataW.trod): each row that it reaches, its numbers' bounds, its lengths' bounds. -/
namespace Go.Proofs.Ytohpboblmmbjnaa.P
open Go.RowKit Go.ChangeShapes Go.WideShapes Go.Deep Go.Proofs.YtohpboblmmbjnaaW.PrintWords

def Opens {α : Type} (P : Program) (t : TypeId) (K : World → α → List Value → Prop) (G : α → Prop) : Prop :=
  ∀ (H : Type) (enc : TypeId × Value → H) (W : World) (base : Nat) (spare : Nat → Bool) (held : Bool) (fuel : Nat) (cs : List Value) (x : DataW H × List MemPlace),
    DataW.trod enc P W base spare held fuel t cs = some x → (x.1.weights P t).all (· ≤ reachBytes) = true → ∃ p, K W p cs ∧ G p

section
variable {P : Program} {t e : TypeId}
theorem opens_int {k : IntKind} (ht : P.underlying t = some (.int k)) : Opens P t (Kd.int k).K (fun n => (Lit.int k n).wf = true) := by
  intro H enc W base spare held fuel cs x h _
  obtain ⟨n, rfl, _, hw⟩ := DataW.trod_int ht h
  exact ⟨n, rfl, hw⟩
theorem weightsAll_mem {H : Type} {d : DataW H} {n : Nat} (hn : n ∈ d.weights P e) : ∀ (l : List (DataW H)), d ∈ l → n ∈ DataW.weightsAll P e l
  | [], h => by cases h
  | y :: r, h => by
    simp only [DataW.weightsAll, List.mem_append]
    rcases List.mem_cons.1 h with rfl | h
    · exact .inl hn
    · exact .inr (weightsAll_mem hn r h)

theorem opens_slice {α : Type} {d : Kd α} {G : α → Prop} (ht : P.underlying t = some (.slice e)) (he : P.cellsOf e = d.sz) (ho : Opens P e d.K G) :
    Opens P t (Kd.slice e d).K (fun xs => xs.length * P.bytesOf e ≤ reachBytes ∧ ∀ p ∈ xs, G p) := by
  intro H enc W base spare held fuel cs x h hw
  rcases open_slice ht h with ⟨rfl, rfl⟩ | ⟨a, len, cap, m, n, D, Pl, rfl, hb, hl, hc, hm, rfl, hel⟩
  · refine ⟨[], ⟨none, 0, rfl, Nat.le_refl _, rfl, by simp, fun h => absurd h (by simp)⟩, by simp, fun p hp => by cases hp⟩
  · have hlm : len ≤ m := by rw [hm]; split <;> omega
    simp only [DataW.weights, ht, List.all_cons, List.length_map, List.length_range, Bool.and_eq_true, decide_eq_true_eq] at hw
    have hi : ∀ i : Fin len, ∃ p, ∃ cs', W.cells? base (a.add (i.val * P.cellsOf e)) (P.cellsOf e) = some cs' ∧ d.K W p cs' ∧ G p := by
      intro i
      obtain ⟨cs', h1, h2⟩ := hel i.val (by omega)
      obtain ⟨p, hp, hg⟩ := ho H enc W base spare held n cs' _ h2 (List.all_eq_true.2 (fun q hq => by
        refine List.all_eq_true.1 hw.2 q ?_
        rw [List.mem_append]
        exact .inl (weightsAll_mem hq _ (List.mem_map.2 ⟨i.val, List.mem_range.2 i.isLt, rfl⟩))))
      exact ⟨p, cs', h1, hp, hg⟩
    obtain ⟨f, hf⟩ := Classical.axiomOfChoice hi
    refine ⟨List.ofFn f, ⟨some a, cap, by simp, by simpa using hl, by simp, ?_, fun hn => ⟨a, rfl, fun j p hj => ?_⟩⟩, ?_, fun p hp => ?_⟩
    · simp only [List.length_ofFn]
      have : maxLen ≤ 9223372036854775807 := by decide
      omega
    · obtain ⟨hjl, rfl⟩ := List.getElem?_eq_some_iff.1 hj
      rw [List.length_ofFn] at hjl
      rw [List.getElem_ofFn]
      obtain ⟨cs', h1, h2, _⟩ := hf ⟨j, hjl⟩
      obtain ⟨_, h3, h4⟩ := World.cells?_some h1
      refine ⟨cs', h3.trans he, h2, fun i u hu => ?_⟩
      have hi1 := (List.getElem?_eq_some_iff.1 hu).1
      have h5 := h4 i (by omega)
      rw [hu, Go.Deep.add_add, he] at h5
      exact h5
    · simp only [List.length_ofFn]
      exact Nat.le_trans (Nat.mul_le_mul_right _ (Nat.le_add_right _ _)) hw.1
    · obtain ⟨i, rfl⟩ := List.mem_ofFn.1 hp
      obtain ⟨_, _, _, h⟩ := hf i
      exact h

/-- A struct's fields, told by its cells. -/
theorem weightsEach_mem {H : Type} {n : Nat} : ∀ (ts : List TypeId) (l : List (DataW H)) (i : Nat) (t : TypeId) (d : DataW H), ts[i]? = some t → l[i]? = some d → n ∈ d.weights P t → n ∈ DataW.weightsEach P ts l
  | _, _, _, _, _, ht, hd, hn => DataW.weights_mem_each ht hd _ hn
theorem field_opens {H : Type} {enc : TypeId × Value → H} {W : World} {base : Nat} {spare : Nat → Bool} {held : Bool} {cs : List Value} {fs : Array Field} {xs : List (DataW H × List MemPlace)} {n : Nat}
    {α : Type} {K : World → α → List Value → Prop} {G : α → Prop} (i : Nat) (f : Field) (hf : fs[i]? = some f) (ho : Opens P f.type K G) (ht : P.underlying t = some (.struct fs)) (hl : xs.length = fs.size)
    (h : ∀ (i : Nat) (f : Field), fs[i]? = some f → DataW.trod enc P W base spare held n f.type ((cs.drop f.offset).take (P.cellsOf f.type)) = xs[i]?)
    (hw : ((DataW.agg (xs.map (·.1))).weights P t).all (· ≤ reachBytes) = true) {u : List Value} (hu : (cs.drop f.offset).take (P.cellsOf f.type) = u) : ∃ p, K W p u ∧ G p := by
  subst hu
  have hi : i < xs.length := by
    rw [hl]
    exact (Array.getElem?_eq_some_iff.1 hf).1
  have h1 := h i f hf
  rw [List.getElem?_eq_getElem hi] at h1
  refine ho H enc W base spare held n _ _ h1 (List.all_eq_true.2 (fun q hq => ?_))
  refine List.all_eq_true.1 hw q ?_
  simp only [DataW.weights, ht]
  refine weightsEach_mem _ _ i f.type xs[i].1 ?_ ?_ hq
  · rw [List.getElem?_map, Array.getElem?_toList, hf]
    rfl
  · rw [List.getElem?_map, List.getElem?_eq_getElem hi]
    rfl
end
end Go.Proofs.Ytohpboblmmbjnaa.P
/- What a Kind that is handed in holds. -/
namespace Go.Proofs.Ytohpboblmmbjnaa.P
open Go.RowKit Go.ChangeShapes Go.WideShapes Go.Proofs.YtohpboblmmbjnaaW.PrintWords

set_option maxRecDepth 100000 in
theorem opens_kind {H : Type} {enc : TypeId × Value → H} {W : World} {r : Reach} {b0 base : Nat} {spare : Nat → Bool} {held : Bool} {v : Value} {d : DataW H} {ps : List MemPlace} (hv : Value.okWide Try.prog W r b0 24 v)
    (h : DataW.Trod enc Try.prog W base spare held 24 v d ps) (hw : (d.weights Try.prog 24).all (· ≤ reachBytes) = true) :
    ∃ (K N : Int) (A : Option Addr) (c : Nat) (l : List Int), v = .agg #[.int .i64 K, .slice A l.length c, .int .i64 N] ∧ Kd.C (Kd.int .i64) W A l.length l ∧ l.length ≤ c ∧ ∀ x ∈ l, (Lit.int .i64 x).wf = true := by
  obtain ⟨cs, rfl, hsz⟩ := okWide_struct Try.underlying24 hv
  obtain ⟨fuel, h⟩ := h
  obtain ⟨xs, n, _, hx, hl, hlen, hf⟩ := DataW.trod_struct Try.underlying24 h
  injection hx with hx _
  subst hx
  have c24 : Try.prog.cellsOf 24 = 3 := by kernel_rfl
  have c22 : Try.prog.cellsOf 22 = 1 := by kernel_rfl
  have c3 : Try.prog.cellsOf 3 = 1 := by kernel_rfl
  have o3 := opens_int (k := .i64) Try.underlying3
  have o22 := opens_slice (d := Kd.int .i64) Try.underlying22 (by kernel_rfl) o3
  obtain ⟨L, rfl⟩ : ∃ L : List Value, cs = L.toArray := ⟨cs.toList, by simp⟩
  have hl' : L.length = 3 := by rw [c24] at hsz; simpa using hsz
  simp only [Value.cells] at hf
  match L, hl' with
  | [u0, u1, u2], _ =>
    obtain ⟨K, e0, _⟩ := field_opens (t := 24) 0 _ rfl o3 Try.underlying24 hlen hf hw (u := [u0]) (by simp [c3])
    obtain ⟨l, ⟨A, c, e1, l1, k1⟩, g1, g1'⟩ := field_opens (t := 24) 1 _ rfl o22 Try.underlying24 hlen hf hw (u := [u1]) (by simp [c22])
    obtain ⟨N, e2, _⟩ := field_opens (t := 24) 2 _ rfl o3 Try.underlying24 hlen hf hw (u := [u2]) (by simp [c3])
    have e0' : [u0] = [Value.int .i64 K] := e0
    have e2' : [u2] = [Value.int .i64 N] := e2
    injection e0' with e0' _
    injection e1 with e1 _
    injection e2' with e2' _
    subst e0' e1 e2'
    exact ⟨K, N, A, c, l, rfl, k1, l1, g1'⟩
end Go.Proofs.Ytohpboblmmbjnaa.P
