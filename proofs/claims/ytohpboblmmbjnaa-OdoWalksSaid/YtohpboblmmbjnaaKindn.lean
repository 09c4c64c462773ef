/- OdoWalks: the law's own walk. -/
import Derived.Test.YtohpboblmmbjnaaCnt
import Derived.Test.YtohpboblmmbjnaaOs
import Derived.Test.YtohpboblmmbjnaaVa
import Derived.SizedLaws
import Derived.Deep.Slices
import Derived.ChangeArms
import Derived.ChangeOld
import Derived.DataReads
import Derived.WideShapes
import Derived.Test.YtohpboblmmbjnaaP0
set_option linter.unusedVariables false
set_option linter.unusedSimpArgs false
set_option linter.unnecessarySimpa false
namespace Go.Proofs.Ytohpboblmmbjnaa.P
open Go Go.RowKit Go.Shelf Go.Proofs.YtohpboblmmbjnaaW.PrintWords Go.Proofs.YtohpboblmmbjnaaW.PrintLast Go.Proofs.YtohpboblmmbjnaaW.PrintMore Go.Proofs.Odo
theorem fn55n (W : World) : (binOp .eql 55 .nilFunc .nilFunc).run Try.prog W = .ok (.bool true) W := by kernel_rfl
/-- goes at an iterator that was handed over. -/
theorem goes_at {T : Nat} {l : List Int} {all m n : Nat} {ok : Bool} {IsL : List Nat → Prop} {num : List Nat → Nat} {ff fn : Nat} {x0 : List Nat} {nx : List Nat → Option (List Nat)} {kd : Int} (S : Serves T l all ok IsL num) (G : GoesC T l all IsL num ff fn x0 nx) (R : RNext kd l IsL nx) (hm : n + m = all)
    {w : World} {gf : Nat} {lb : Array Value} {Fix : World → Prop} (hit : IterG m (fun i => lists nx x0 (n + i)) gf lb Fix) (hfb : ∀ W, Below w.heap.size w W → Fix W) {gr : Nat} (hr : RefS w (.pointer (some ⟨gr, 0, none⟩)) kd l)
    {A0 : Option Addr} {c0 : Nat} {xs : List Int} (hxs : xs = if 0 < m then ints (lists nx x0 n) else []) (h0 : Kd.C (Kd.int .i64) w A0 xs.length xs) (hc0 : xs.length ≤ c0) (b : Bool) (hb : b = decide (0 < m)) (stop inner : Int) :
    Calls Try.prog 22 #[.func (.func gf) #[] lb, .pointer (some ⟨gr, 0, none⟩), .slice A0 xs.length c0, .bool b, .int .i64 stop, .int .i64 inner] w fun e W' => e = .returned (.bool true) ∧ Below w.heap.size w W' := by
  have hL := lists_are S G
  have hy : xs = Ys (fun i => lists nx x0 (n + i)) m 0 := by rw [hxs]; rfl
  subst hb
  rw [hy] at h0 hc0 ⊢
  refine goes_c (n0 := 0) hit.en hit.it hfb hr (fun i hi W A c hrW hC hc => ?_) (fun i hi => (S.small _ (hL (n + i) (by omega)).1.1).1) h0 hc0 stop inner
  have hYi : Ys (fun i => lists nx x0 (n + i)) m i = ints (lists nx x0 (n + i)) := by unfold Ys; rw [if_pos hi]
  rw [hYi] at hC hc ⊢
  obtain ⟨⟨hI, _⟩, h1, h2⟩ := hL (n + i) (by omega)
  refine (R _ hI W _ A c hrW hC hc).mono ?_
  rintro e W' ⟨v1, rfl, hR, hB⟩
  by_cases hi1 : i + 1 < m
  · have e1 := h1 (by omega)
    rw [e1] at hR ⊢
    have hY1 : Ys (fun i => lists nx x0 (n + i)) m (i + 1) = ints (lists nx x0 (n + i + 1)) := by unfold Ys; rw [if_pos hi1]; rfl
    rw [hY1, decide_eq_true hi1]
    exact ⟨v1, rfl, hR, hB⟩
  · have e1 := h2 (by omega)
    rw [e1] at hR ⊢
    have hY1 : Ys (fun i => lists nx x0 (n + i)) m (i + 1) = [] := by unfold Ys; rw [if_neg hi1]
    rw [hY1, decide_eq_false hi1]
    exact ⟨v1, rfl, hR, hB⟩
set_option maxHeartbeats 8000000 in
set_option maxRecDepth 100000 in
theorem odoWalks_walk {w : World} {K N : Int} {l0 : List Int} {n : Nat} {A : Option Addr} {c0 : Nat} (stop inner : Int) (hl0 : Kd.C (Kd.int .i64) w A l0.length l0) (hc0 : l0.length ≤ c0) (h0 : (l0.length + 1) * 8 ≤ 140737488355328) (hs0 : ∀ x ∈ l0, x < 9223372036854775808) :
    Calls Try.prog 6 #[.agg #[.int .i64 K, .slice A l0.length c0, .int .i64 N], .int .u64 (n : Int), .int .i64 stop, .int .i64 inner] w fun e W' => e = .returned (.bool true) ∧ Below w.heap.size w W' := by
  have HA0 := Aside0.mk hl0
  have HC0 := Aside0.mk hc0
  have HZ0 := Aside0.mk h0
  have HS0 := Aside0.mk hs0
  clear hl0 hc0 h0 hs0
  go_enter Try.func6, Try.ntmps6
  go_upto_region 2 with (go_at_call 8; (with_reducible refine (both_c (Kd.C_alloc HA0.out _) HC0.out HZ0.out).mono ?_); rintro e w2 ⟨vs, vr, T, kd, X, rfl, hK, hB⟩; have HKD := Aside0.mk hK; have HBB := Aside0.mk hB; have HW2 := Aside0.mk (show Below w.heap.size w w2 from below_of (below_alloc (Below.refl _ _) _) hB.below); clear hK hB)
  obtain ⟨X1, hX1⟩ : ∃ x, X.1 = x := ⟨_, rfl⟩
  rw [hX1] at HBB
  obtain ⟨s1, s2, s3⟩ := ptr26
  cases X1 with
  | none =>
    obtain ⟨rfl, rfl, -⟩ := HBB.out
    go_wp2_with fail
    go_ret
    exact ⟨rfl, HW2.out⟩
  | some l' =>
    obtain ⟨all, ok, IsL, num, ff, fn, x0, nx, hSv, hG, hRN, hRF, hAt⟩ := odoS_kind HKD.out HS0.out hX1
    have SV := Aside0.mk hSv
    have SG := Aside0.mk hG
    have RN := Aside0.mk hRN
    obtain ⟨hsp, hrf, -⟩ := HBB.out
    have HSP := Aside0.mk hsp
    have HRF := Aside0.mk hrf
    have HFI := Aside0.mk (hRF w2 vr hrf)
    have hat := hAt n
    have HAT := Aside0.mk hat
    clear HKD HBB hX1 hSv hG hRN hRF hAt hat
    obtain ⟨gs, _, _, rfl, -⟩ := hsp
    obtain ⟨gr, _, _, rfl, -⟩ := hrf
    have h55 := fn55
    have h55n := fn55n
    go_wp2_with fail
    refine HFI.out.mono ?_
    rintro e w3 ⟨v3, rfl, hR3, hB3⟩
    obtain ⟨A3, c3, rfl, hc3, hC3⟩ := Kd.R_reads hR3
    have HSP3 := Aside0.mk (HSP.out.below hB3)
    have HRF3 := Aside0.mk (HRF.out.below hB3)
    have HW3 := Aside0.mk (below_then HW2.out HW2.out.size hB3)
    have HC3 := Aside0.mk hC3
    have HCC3 := Aside0.mk hc3
    have HIA := Aside0.mk (iterG_all SV.out SG.out w3 _ HSP3.out)
    obtain ⟨xs3, hxs3⟩ : ∃ xs3, (if decide (0 < all) = true then ints x0 else []) = xs3 := ⟨_, rfl⟩
    rw [hxs3] at HC3 HCC3 ⊢
    have HX3 := Aside0.mk hxs3
    clear hR3 hB3 hc3 hC3 HFI HSP HRF HW2 hxs3
    go_wp2_with fail
    refine HIA.out.mono ?_
    rintro e w4 ⟨gf, lb, Fix, rfl, hit, hfb, hB4⟩
    have hit' : IterG all (fun i => lists nx x0 (0 + i)) gf lb Fix := by simpa using hit
    have HGO := Aside0.mk (goes_at SV.out SG.out RN.out (n := 0) (m := all) (Nat.zero_add _) hit' hfb (HRF3.out.below hB4) (xs := xs3) (by rw [← HX3.out]; simp [lists]) (Kd.C_below HC3.out hB4) HCC3.out (decide (0 < all)) rfl stop inner)
    have HSP4 := Aside0.mk (HSP3.out.below hB4)
    have HRF4 := Aside0.mk (HRF3.out.below hB4)
    have HW4 := Aside0.mk (below_then HW3.out HW3.out.size hB4)
    clear hit hit' hfb hB4 HIA HC3 HCC3 HX3 HSP3 HRF3 HW3
    go_wp2_with fail
    refine HGO.out.mono ?_
    rintro e w5 ⟨rfl, hB5⟩
    have HSP5 := Aside0.mk (HSP4.out.below hB5)
    have HRF5 := Aside0.mk (HRF4.out.below hB5)
    have HW5 := Aside0.mk (below_then HW4.out HW4.out.size hB5)
    clear hB5 HGO HSP4 HRF4 HW4
    rcases HAT.out with ⟨hok, hn, x, hx, hnum, hp, hd⟩ | ⟨cd, hcd, hp, hd⟩
    · obtain ⟨⟨hl1, hl2⟩, -, -⟩ := lists_are SV.out SG.out n hn
      obtain rfl := SV.out.inj _ _ hx hl1 (hnum.trans hl2.symm)
      have HFR := Aside0.mk (from_ok SV.out SG.out w5 _ HSP5.out hn (hp _ _ HSP5.out))
      have HD := Aside0.mk hd
      have HN := Aside0.mk hn
      clear hx hnum hl1 hl2 hp hd hok hn HAT
      go_wp2_with fail
      refine HFR.out.mono ?_
      rintro e w6 ⟨gf2, lb2, Fix2, rfl, hit2, hfb2, hB6⟩
      have HIT2 := Aside0.mk hit2
      have HFB2 := Aside0.mk hfb2
      have HRF6 := Aside0.mk (HRF5.out.below hB6)
      have HW6 := Aside0.mk (below_then HW5.out HW5.out.size hB6)
      have HDD := Aside0.mk (HD.out w6 _ HRF6.out)
      clear hit2 hfb2 hB6 HFR HD
      go_wp2_with fail
      refine HDD.out.mono ?_
      rintro e w7 ⟨v7, rfl, hR7, hB7⟩
      obtain ⟨A7, c7, rfl, hc7, hC7⟩ := Kd.R_reads hR7
      have hn := HN.out
      have HGO := Aside0.mk (goes_at SV.out SG.out RN.out (n := n) (m := all - n) (by omega) HIT2.out (fun W hb => HFB2.out W (below_of hB7 hb)) (HRF6.out.below hB7) (xs := ints (lists nx x0 n)) (by rw [if_pos (by omega)]) hC7 hc7 true (decide_eq_true (by omega)).symm stop inner)
      have HW7 := Aside0.mk (below_then HW6.out HW6.out.size hB7)
      clear hR7 hB7 hc7 hC7 HDD hn
      go_wp2_with fail
      refine HGO.out.mono ?_
      rintro e w8 ⟨rfl, hB8⟩
      have HW8 := Aside0.mk (below_then HW7.out HW7.out.size hB8)
      clear hB8
      go_wp2_with fail
      go_ret
      exact ⟨rfl, HW8.out⟩
    · have HFR := Aside0.mk (from_bad hcd (hp _ _ HSP5.out))
      have HD := Aside0.mk hd
      have hcb : (cd != 0) = true := by rcases hcd with rfl | rfl <;> rfl
      clear hp hd hcd HAT
      go_wp2_with fail
      refine HFR.out.mono ?_
      rintro e w6 ⟨rfl, hB6⟩
      have HRF6 := Aside0.mk (HRF5.out.below hB6)
      have HW6 := Aside0.mk (below_then HW5.out HW5.out.size hB6)
      have HDD := Aside0.mk (HD.out w6 _ HRF6.out)
      clear hB6 HFR HD
      go_wp2_with fail
      refine HDD.out.mono ?_
      rintro e w7 ⟨rfl, hB7⟩
      have HW7 := Aside0.mk (below_then HW6.out HW6.out.size hB7)
      clear hB7 HDD
      go_wp2_with fail
      go_ret
      exact ⟨rfl, HW7.out⟩
end Go.Proofs.Ytohpboblmmbjnaa.P
/-! What a law's argument holds, out of what its row says of it (DataW.trod): each row that it reaches, its numbers' bounds, its lengths' bounds. -/
namespace Go.Proofs.Ytohpboblmmbjnaa.P
open Go.RowKit Go.ChangeShapes Go.WideShapes Go.Deep Go.Proofs.YtohpboblmmbjnaaW.PrintWords

def Opens {α : Type} (P : Program) (t : TypeId) (K : World → α → List Value → Prop) (G : α → Prop) : Prop :=
  ∀ (H : Type) (enc : TypeId × Value → H) (W : World) (base : Nat) (spare : Nat → Bool) (held : Bool) (fuel : Nat) (cs : List Value) (x : DataW H × List MemPlace),
    DataW.trod enc P W base spare held fuel t cs = some x → (x.1.weights P t).all (· ≤ reachBytes) = true → ∃ p, K W p cs ∧ G p

section
variable {P : Program} {t e : TypeId}
theorem opens_int {k : IntKind} (ht : P.underlying t = some (.int k)) : Opens P t (Kd.int k).K (fun n => (Lit.int k n).wf = true) := by
  intro H enc W base spare held fuel cs x h _
  obtain ⟨n, rfl, _, hw⟩ := DataW.trod_int ht h
  exact ⟨n, rfl, hw⟩
theorem weightsAll_mem {H : Type} {d : DataW H} {n : Nat} (hn : n ∈ d.weights P e) : ∀ (l : List (DataW H)), d ∈ l → n ∈ DataW.weightsAll P e l
  | [], h => by cases h
  | y :: r, h => by
    simp only [DataW.weightsAll, List.mem_append]
    rcases List.mem_cons.1 h with rfl | h
    · exact .inl hn
    · exact .inr (weightsAll_mem hn r h)

theorem opens_slice {α : Type} {d : Kd α} {G : α → Prop} (ht : P.underlying t = some (.slice e)) (he : P.cellsOf e = d.sz) (ho : Opens P e d.K G) :
    Opens P t (Kd.slice e d).K (fun xs => xs.length * P.bytesOf e ≤ reachBytes ∧ ∀ p ∈ xs, G p) := by
  intro H enc W base spare held fuel cs x h hw
  rcases open_slice ht h with ⟨rfl, rfl⟩ | ⟨a, len, cap, m, n, D, Pl, rfl, hb, hl, hc, hm, rfl, hel⟩
  · refine ⟨[], ⟨none, 0, rfl, Nat.le_refl _, rfl, by simp, fun h => absurd h (by simp)⟩, by simp, fun p hp => by cases hp⟩
  · have hlm : len ≤ m := by rw [hm]; split <;> omega
    simp only [DataW.weights, ht, List.all_cons, List.length_map, List.length_range, Bool.and_eq_true, decide_eq_true_eq] at hw
    have hi : ∀ i : Fin len, ∃ p, ∃ cs', W.cells? base (a.add (i.val * P.cellsOf e)) (P.cellsOf e) = some cs' ∧ d.K W p cs' ∧ G p := by
      intro i
      obtain ⟨cs', h1, h2⟩ := hel i.val (by omega)
      obtain ⟨p, hp, hg⟩ := ho H enc W base spare held n cs' _ h2 (List.all_eq_true.2 (fun q hq => by
        refine List.all_eq_true.1 hw.2 q ?_
        rw [List.mem_append]
        exact .inl (weightsAll_mem hq _ (List.mem_map.2 ⟨i.val, List.mem_range.2 i.isLt, rfl⟩))))
      exact ⟨p, cs', h1, hp, hg⟩
    obtain ⟨f, hf⟩ := Classical.axiomOfChoice hi
    refine ⟨List.ofFn f, ⟨some a, cap, by simp, by simpa using hl, by simp, ?_, fun hn => ⟨a, rfl, fun j p hj => ?_⟩⟩, ?_, fun p hp => ?_⟩
    · simp only [List.length_ofFn]
      have : maxLen ≤ 9223372036854775807 := by decide
      omega
    · obtain ⟨hjl, rfl⟩ := List.getElem?_eq_some_iff.1 hj
      rw [List.length_ofFn] at hjl
      rw [List.getElem_ofFn]
      obtain ⟨cs', h1, h2, _⟩ := hf ⟨j, hjl⟩
      obtain ⟨_, h3, h4⟩ := World.cells?_some h1
      refine ⟨cs', h3.trans he, h2, fun i u hu => ?_⟩
      have hi1 := (List.getElem?_eq_some_iff.1 hu).1
      have h5 := h4 i (by omega)
      rw [hu, Go.Deep.add_add, he] at h5
      exact h5
    · simp only [List.length_ofFn]
      exact Nat.le_trans (Nat.mul_le_mul_right _ (Nat.le_add_right _ _)) hw.1
    · obtain ⟨i, rfl⟩ := List.mem_ofFn.1 hp
      obtain ⟨_, _, _, h⟩ := hf i
      exact h

/-- A struct's fields, told by its cells. -/
theorem weightsEach_mem {H : Type} {n : Nat} : ∀ (ts : List TypeId) (l : List (DataW H)) (i : Nat) (t : TypeId) (d : DataW H), ts[i]? = some t → l[i]? = some d → n ∈ d.weights P t → n ∈ DataW.weightsEach P ts l
  | _, _, _, _, _, ht, hd, hn => DataW.weights_mem_each ht hd _ hn
theorem field_opens {H : Type} {enc : TypeId × Value → H} {W : World} {base : Nat} {spare : Nat → Bool} {held : Bool} {cs : List Value} {fs : Array Field} {xs : List (DataW H × List MemPlace)} {n : Nat}
    {α : Type} {K : World → α → List Value → Prop} {G : α → Prop} (i : Nat) (f : Field) (hf : fs[i]? = some f) (ho : Opens P f.type K G) (ht : P.underlying t = some (.struct fs)) (hl : xs.length = fs.size)
    (h : ∀ (i : Nat) (f : Field), fs[i]? = some f → DataW.trod enc P W base spare held n f.type ((cs.drop f.offset).take (P.cellsOf f.type)) = xs[i]?)
    (hw : ((DataW.agg (xs.map (·.1))).weights P t).all (· ≤ reachBytes) = true) {u : List Value} (hu : (cs.drop f.offset).take (P.cellsOf f.type) = u) : ∃ p, K W p u ∧ G p := by
  subst hu
  have hi : i < xs.length := by
    rw [hl]
    exact (Array.getElem?_eq_some_iff.1 hf).1
  have h1 := h i f hf
  rw [List.getElem?_eq_getElem hi] at h1
  refine ho H enc W base spare held n _ _ h1 (List.all_eq_true.2 (fun q hq => ?_))
  refine List.all_eq_true.1 hw q ?_
  simp only [DataW.weights, ht]
  refine weightsEach_mem _ _ i f.type xs[i].1 ?_ ?_ hq
  · rw [List.getElem?_map, Array.getElem?_toList, hf]
    rfl
  · rw [List.getElem?_map, List.getElem?_eq_getElem hi]
    rfl
end
end Go.Proofs.Ytohpboblmmbjnaa.P
/- What a Kind that is handed in holds. -/
namespace Go.Proofs.Ytohpboblmmbjnaa.P
open Go.RowKit Go.ChangeShapes Go.WideShapes Go.Proofs.YtohpboblmmbjnaaW.PrintWords

set_option maxRecDepth 100000 in
theorem opens_kind_n {H : Type} {enc : TypeId × Value → H} {W : World} {r : Reach} {b0 base : Nat} {spare : Nat → Bool} {held : Bool} {v : Value} {d : DataW H} {ps : List MemPlace} (hv : Value.okWide Try.prog W r b0 24 v)
    (h : DataW.Trod enc Try.prog W base spare held 24 v d ps) (hw : (d.weights Try.prog 24).all (· ≤ reachBytes) = true) :
    ∃ (K N : Int) (A : Option Addr) (c : Nat) (l : List Int), v = .agg #[.int .i64 K, .slice A l.length c, .int .i64 N] ∧ Kd.C (Kd.int .i64) W A l.length l ∧ l.length ≤ c ∧ (l.length + 1) * 8 ≤ 140737488355328 ∧ ∀ x ∈ l, (Lit.int .i64 x).wf = true := by
  obtain ⟨cs, rfl, hsz⟩ := okWide_struct Try.underlying24 hv
  obtain ⟨fuel, h⟩ := h
  obtain ⟨xs, n, _, hx, hl, hlen, hf⟩ := DataW.trod_struct Try.underlying24 h
  injection hx with hx _
  subst hx
  have c24 : Try.prog.cellsOf 24 = 3 := by kernel_rfl
  have c22 : Try.prog.cellsOf 22 = 1 := by kernel_rfl
  have c3 : Try.prog.cellsOf 3 = 1 := by kernel_rfl
  have o3 := opens_int (k := .i64) Try.underlying3
  have o22 := opens_slice (d := Kd.int .i64) Try.underlying22 (by kernel_rfl) o3
  obtain ⟨L, rfl⟩ : ∃ L : List Value, cs = L.toArray := ⟨cs.toList, by simp⟩
  have hl' : L.length = 3 := by rw [c24] at hsz; simpa using hsz
  simp only [Value.cells] at hf
  match L, hl' with
  | [u0, u1, u2], _ =>
    obtain ⟨K, e0, _⟩ := field_opens (t := 24) 0 _ rfl o3 Try.underlying24 hlen hf hw (u := [u0]) (by simp [c3])
    obtain ⟨l, ⟨A, c, e1, l1, k1⟩, g1, g1'⟩ := field_opens (t := 24) 1 _ rfl o22 Try.underlying24 hlen hf hw (u := [u1]) (by simp [c22])
    obtain ⟨N, e2, _⟩ := field_opens (t := 24) 2 _ rfl o3 Try.underlying24 hlen hf hw (u := [u2]) (by simp [c3])
    have e0' : [u0] = [Value.int .i64 K] := e0
    have e2' : [u2] = [Value.int .i64 N] := e2
    injection e0' with e0' _
    injection e1 with e1 _
    injection e2' with e2' _
    subst e0' e1 e2'
    have b3 : Try.prog.bytesOf 3 = 8 := by kernel_rfl
    rw [b3] at g1
    have hrb : reachBytes = 140737488351232 := by kernel_rfl
    exact ⟨K, N, A, c, l, rfl, k1, l1, by omega, g1'⟩
end Go.Proofs.Ytohpboblmmbjnaa.P
