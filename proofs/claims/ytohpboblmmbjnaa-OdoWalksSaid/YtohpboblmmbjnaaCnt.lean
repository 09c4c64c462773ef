/- Both spaces: the program's and the document's. -/
import Derived.Test.YtohpboblmmbjnaaO6
import Derived.Test.YtohpboblmmbjnaaRfa
import Derived.Test.YtohpboblmmbjnaaServe
import Derived.Test.YtohpboblmmbjnaaRep
import Derived.Deep.QuietTactic
import Derived.BigQuiet
import Derived.Test.YtohpboblmmbjnaaCna
import Derived.Test.YtohpboblmmbjnaaRsf
set_option linter.unusedVariables false
set_option linter.unusedSimpArgs false
set_option linter.unnecessarySimpa false
namespace Go.Proofs.Ytohpboblmmbjnaa.P
open Go Go.RowKit Go.Proofs.YtohpboblmmbjnaaW.PrintWords Go.Proofs.YtohpboblmmbjnaaW.PrintLast Go.Proofs.YtohpboblmmbjnaaW.PrintMore Go.Proofs.Odo
/-- The kinds of spaces, as the statements name them. -/
def KindOf (T : Nat) (kd : Int) (l : List Int) (n : Int) (X : Option (List Int) × Int) : Prop :=
  (T = 80 ∧ kd = 1 ∧ X = odo_Product.f l) ∨ (T = 82 ∧ kd = 2 ∧ X = odo_Orders.f n) ∨ (T = 82 ∧ kd = 3 ∧ X = odo_Weaves.f l)
def BothR (w W : World) (vs vr : Value) (T : Nat) (kd : Int) : Option (List Int) → Prop
  | none => vs = .pointer none ∧ vr = .pointer none ∧ Below w.heap.size w W
  | some l => SpAt T W vs l ∧ RefS W vr kd l ∧ Below w.heap.size w W
section
variable {w W W' : World} {ps : List Part}
theorem Part.sem.bound {B : Nat} {p : Part} {ok : Nat → Prop} {W : World} (h : p.sem B ok W) : p.sem B (fun k => ok k ∧ B ≤ k) W := by
  cases p with
  | row d e v xs => exact Kd.R_mono (Kd.R_bound h) (fun k hk => ⟨hk.1, hk.2.1⟩)
  | rows d e v xs e1 => exact Kd.S_mono (Kd.S_bound h) (fun k hk => ⟨hk.1, hk.2.1⟩)
  | box g t cs => exact ⟨⟨h.1, h.2.1⟩, h.2.1, h.2.2⟩
  | none => trivial
/-- What a callee made from here on comes behind what is owned. -/
theorem Owned.more {qs : List Part} (h : Owned w ps W) (h' : Owned W qs W') : Owned w (ps ++ qs) W' := by
  obtain ⟨col, h1, h2⟩ := h
  obtain ⟨col', h1', h2'⟩ := h'
  refine ⟨fun k => if k < W.heap.size then col k else ps.length + col' k, below_then h1 h1.size h1', fun i p hp => ?_⟩
  by_cases hi : i < ps.length
  · rw [List.getElem?_append_left hi] at hp
    exact (h2 i p hp).move (fun k hk hlt => ⟨h1'.block k hlt, by simp only [if_pos hlt]; exact hk⟩)
  · rw [List.getElem?_append_right (Nat.le_of_not_lt hi)] at hp
    refine ((h2' _ p hp).bound.low h1.size).wide (fun k hk => ?_)
    simp only [if_neg (Nat.not_lt.2 hk.2), hk.1]
    omega
end
theorem MadeR.below {T : Nat} {w W : World} {v : Value} {X : Option (List Int)} (h : MadeR T w W v X) : Below w.heap.size w W := by
  cases X with
  | none => exact h.2
  | some l => obtain ⟨_, _, _, _, hO⟩ := h; exact hO.below
theorem pre_c {w W : World} {ps : List Part} {j n cy : Nat} {Y : Option Addr} {l X7 : List Int} (h : Owned w ps W) (hj : ps[j]? = some (.row (Kd.int .i64) 3 (.slice Y n cy) X7)) (e : l ++ [77] = X7) : Kd.C (Kd.int .i64) W Y l.length l ∧ l.length ≤ cy := by
  obtain ⟨A', c', e', h1, h2⟩ := Kd.R_reads (show (Kd.int .i64).R 3 W w.heap.size (fun _ => True) (.slice Y n cy) X7 from h.get hj)
  injection e' with e1 e2 e3
  subst e1 e3
  subst e
  have h3 := Kd.C_take h2 (m := l.length) (by simp)
  rw [List.take_left] at h3
  rw [List.length_append] at h1
  exact ⟨h3, by omega⟩
theorem join_made {w Wa Wb Wb' Wc : World} {vs vr : Value} {b0 r0 : Part} {T : Nat} {kd : Int} {X : Option (List Int)} (h : Owned w [b0, r0] Wa) (hm : MadeR T Wa Wb vs X) (hb : Below Wb.heap.size Wb Wb') (hn : NewR Wb' Wc vr kd X) :
    ∃ (p q : Option Addr) (ps2 : List Part), vs = .pointer p ∧ vr = .pointer q ∧ p.isNone = q.isNone ∧ Owned w ([b0, r0] ++ ps2) Wc ∧ ∀ b r W', Owned w ([b, r] ++ ps2) W' → BothR w W' vs vr T kd X := by
  cases X with
  | none =>
    obtain ⟨rfl, h1⟩ := hm
    obtain ⟨rfl, h2⟩ := hn
    exact ⟨none, none, [], rfl, rfl, rfl, ((h.later h1).later hb).later h2, fun b r W' h' => ⟨rfl, rfl, h'.below⟩⟩
  | some l =>
    obtain ⟨g1, A1, c1, rfl, h1⟩ := hm
    obtain ⟨g2, A2, c2, rfl, h2⟩ := hn
    refine ⟨some ⟨g1, 0, none⟩, some ⟨g2, 0, none⟩, [.row (Kd.int .i64) 3 (.slice A1 l.length c1) l, .box g1 67 #[.iface T (.slice A1 l.length c1)], .row (Kd.int .i64) 3 (.slice A2 l.length c2) l, .box g2 74 #[.int .i64 kd, .slice A2 l.length c2]], rfl, rfl, rfl, ((h.more h1).later hb).more h2, fun b r W' h' => ⟨?_, ?_, h'.below⟩⟩
    · obtain ⟨A', c', e', k1, k2⟩ := Kd.R_reads (show (Kd.int .i64).R 3 W' w.heap.size (fun _ => True) (.slice A1 l.length c1) l from h'.get (j := 2) rfl)
      injection e' with e1 e2 e3
      subst e1 e3
      exact ⟨g1, A1, c1, rfl, (blk_cell (h'.blk (j := 3) rfl) 0).trans rfl, k1, k2⟩
    · obtain ⟨A', c', e', k1, k2⟩ := Kd.R_reads (show (Kd.int .i64).R 3 W' w.heap.size (fun _ => True) (.slice A2 l.length c2) l from h'.get (j := 4) rfl)
      injection e' with e1 e2 e3
      subst e1 e3
      exact ⟨g2, A2, c2, rfl, h'.blk (j := 5) rfl, k2, k1⟩
theorem same_self_l : ∀ (d : Nat) (x : List Int) (j : Nat), j + d = x.length → x.length < 9223372036854775807 → weirlaw01_SameInts.l0 (d + 1) x x (j : Int) = some true
  | 0, x, j, h, _ => by rw [weirlaw01_SameInts.l0, if_neg (by omega)]
  | d + 1, x, j, h, hl => by
    rw [weirlaw01_SameInts.l0, if_pos (by omega), if_pos (by omega), if_pos (by omega), if_pos rfl, show wrap64 ((j : Int) + 1) = ((j + 1 : Nat) : Int) by unfold wrap64; omega]
    exact same_self_l d x (j + 1) (by omega) hl
theorem same_self (x : List Int) (hl : x.length < 9223372036854775807) : weirlaw01_SameInts.f (x.length + 1) x x = some true := by
  unfold weirlaw01_SameInts.f
  rw [if_pos rfl]
  exact same_self_l x.length x 0 (by omega) hl
theorem lit1 (w6 : World) (N : Int) : Kd.C (Kd.int .i64) (w6.alloc (.cells #[.int .i64 N] 3)) (some ⟨w6.heap.size, 0, none⟩) 1 [N] := lit_C w6 [N] (by simp)
theorem same_q {W : World} {l : List Int} {A A' : Option Addr} {c c' : Nat} (h1 : Kd.C (Kd.int .i64) W A l.length l) (k1 : l.length ≤ c) (h2 : Kd.C (Kd.int .i64) W A' l.length l) (k2 : l.length ≤ c') (hs : weirlaw01_SameInts.f (l.length + 1) l l = some true) (n : Nat) :
    Calls Try.prog 13 #[.slice A l.length c, .slice A' l.length c'] (W.drewN n) fun e w' => e = .returned (.bool true) ∧ ∃ m, w' = (W.drewN n).drewN m :=
  (weirlaw01_SameInts.calls _ _ _ l _ _ l true _ (Kd.C_drewN h1 _) k1 (Kd.C_drewN h2 _) k2 hs).mono fun _ _ h => ⟨h.1, h.2.out⟩
theorem next_of {k m : Nat} (h : k < m) (hm : m ≤ 9223372036854775806) : wrap64 ((k : Int) + 1) = ((k + 1 : Nat) : Int) := by unfold wrap64; omega
theorem pt27 : Try.prog.underlying 27 = some (.pointer (Try.prog.pointee 27)) := by unfold Program.pointee; rw [Try.underlying27]
set_option maxHeartbeats 8000000 in
set_option maxRecDepth 100000 in
theorem both_c {w : World} {K N : Int} {l : List Int} {A : Option Addr} {c : Nat} (hl : Kd.C (Kd.int .i64) w A l.length l) (hc : l.length ≤ c) (h8 : (l.length + 1) * 8 ≤ 140737488355328) :
    Calls Try.prog 8 #[.agg #[.int .i64 K, .slice A l.length c, .int .i64 N]] w fun e W' => ∃ vs vr T kd X, e = .returned (.tuple #[vs, vr, .bool true]) ∧ KindOf T kd l N X ∧ BothR w W' vs vr T kd X.1 := by
  have HA := Aside0.mk hl
  have HC := Aside0.mk hc
  have H8 := Aside0.mk h8
  have H8' := Aside0.mk (show l.length * 8 ≤ 140737488355328 by omega)
  clear hl hc h8
  go_enter Try.func8, Try.ntmps8
  go_upto_region 1 with fail
  have HO := Aside0.mk ((Owned.nil w).box 24 #[.int .i64 K, .slice A l.length c, .int .i64 N])
  obtain ⟨g, hg⟩ : ∃ g, w.heap.size = g := ⟨_, rfl⟩
  rw [hg] at HO ⊢
  generalize World.alloc w _ = W0 at HO ⊢
  obtain ⟨y0, y1, y2, _⟩ := blkA3 (HO.out.blk (j := 0) rfl)
  have hxa : (W0.alloc (.cells #[] 3 (0, 0))).cell? ⟨g, 1, none⟩ = some (.slice A l.length c) := pw_cell_below (below_alloc (Below.refl _ _) _) y1
  go_upto_region 2 with (first
    | ((with_reducible refine gate_builtin (b := .append) (xs := #[.tmp 11, .tmp 13]) rfl ?_); at_builtin; refine Owned.clone (Kd.int .i64) HO.out (.tmp 11) (.tmp 13) 22 3 (.int .i64 0) 8 Try.underlying22 info3 rfl (by decide) (by decide) H8'.out (fun _ _ h => h) (Kd.C_alloc (Kd.C_below HA.out HO.out.below) _) ?_ rfl rfl rfl rfl; intro v2 w3 h2; have HO2 := Aside0.mk h2; clear h2 y0 y1 y2 hxa)
    | ((with_reducible refine gate_builtin (b := .append) (xs := #[.tmp 14, .tmp 15]) rfl ?_); at_builtin; refine Owned.app (Kd.int .i64) HO2.out (j := 1) rfl 77 [.int .i64 77] (fun _ => rfl) (.tmp 14) (.tmp 15) 22 (.int .i64 0) 8 Try.underlying22 info3 rfl (by decide) (by decide) H8.out ?_ rfl rfl rfl rfl; intro v4 w5 h5; have HO5 := Aside0.mk h5; clear h5))
  obtain ⟨X7, hX7⟩ : ∃ X, l ++ [77] = X := ⟨_, rfl⟩
  have EX := Aside0.mk hX7
  have LX := Aside0.mk (show X7.length = l.length + 1 by rw [← hX7]; simp)
  rw [hX7] at HO5
  obtain ⟨Y, cy, e4⟩ := row_slice (HO5.out.get (j := 1) rfl)
  subst e4
  clear HO HO2 hX7
  obtain ⟨y0, y1, y2, _⟩ := blkA3 (HO5.out.blk (j := 0) rfl)
  obtain ⟨z, hz⟩ : ∃ z, (IntKind.u64.wrap K).tmod 3 = z := ⟨_, rfl⟩
  have HO5' : Aside0 (Owned w [.box g 24 #[.int .i64 K, .slice A l.length c, .int .i64 N], .row (Kd.int .i64) 3 (.slice Y X7.length cy) X7] w5) := ⟨HO5.out⟩
  clear HO5
  have HPC := Aside0.mk (pre_c HO5'.out (j := 1) rfl EX.out)
  have hlc := HPC.out.2
  have hlx : l.length ≤ X7.length := by rw [LX.out]; exact Nat.le_succ _
  have htri : (z == 0) = true ∨ ((z == 0) = false ∧ (z == 1) = true) ∨ ((z == 0) = false ∧ (z == 1) = false) := by
    cases (z == 0) <;> cases (z == 1) <;> simp
  rcases htri with h0 | ⟨h0, h1⟩ | ⟨h0, h1⟩
  case' inl =>
    go_upto_region 15 with (first
      | (go_at_call 18; (with_reducible refine (odo_Product.made_c Y cy l _ HPC.out.1 HPC.out.2).mono ?_); rintro e w6 ⟨v6, rfl, h6⟩; have H6 := Aside0.mk h6; have HO6 := Aside0.mk (HO5'.out.later h6.below); clear h6 y0 y1 y2; obtain ⟨y0, y1, y2, _⟩ := blkA3 (HO6.out.blk (j := 0) rfl))
      | (go_at_call 25; (with_reducible refine (rnewp_c (Kd.C_below HA.out HO6.out.below)).mono ?_); rintro e w7 ⟨v7, rfl, h7⟩; obtain ⟨p, q, ps2, rfl, rfl, hpq, hO7, hF⟩ := join_made HO5'.out H6.out (Below.refl _ _) h7; have HF := Aside0.mk (show ∀ b r W', Owned w ([b, r] ++ ps2) W' → ∃ T kd X, KindOf T kd l N X ∧ BothR w W' (.pointer p) (.pointer q) T kd X.1 from fun b r W' h' => ⟨80, 1, odo_Product.f l, .inl ⟨rfl, rfl, rfl⟩, hF b r W' h'⟩); have HO7 := Aside0.mk hO7; clear hF hO7 h7 HO6 y0 y1 y2; obtain ⟨y0, y1, y2, _⟩ := blkA3 (HO7.out.blk (j := 0) rfl)))
    obtain ⟨code, hcode⟩ : ∃ x, (odo_Product.f l).2 = x := ⟨_, rfl⟩
    simp only [hcode]
    clear hcode H6
  case' inr.inl =>
    go_upto_region 15 with (first
      | (go_at_call 19; (with_reducible refine (odo_Orders.made_c N _).mono ?_); rintro e w6 ⟨v6, rfl, h6⟩; have HLT := Aside0.mk (lit1 w6 N); have H6 := Aside0.mk h6; have HO6 := Aside0.mk (HO5'.out.later h6.below); clear h6 y0 y1 y2; obtain ⟨y0, y1, y2, _⟩ := blkA3 (HO6.out.blk (j := 0) rfl))
      | (go_at_call 25; (with_reducible refine (rnewo_c HLT.out).mono ?_); rintro e w7 ⟨v7, rfl, h7⟩; obtain ⟨p, q, ps2, rfl, rfl, hpq, hO7, hF⟩ := join_made HO5'.out H6.out (below_alloc (Below.refl _ _) _) h7; have HF := Aside0.mk (show ∀ b r W', Owned w ([b, r] ++ ps2) W' → ∃ T kd X, KindOf T kd l N X ∧ BothR w W' (.pointer p) (.pointer q) T kd X.1 from fun b r W' h' => ⟨82, 2, odo_Orders.f N, .inr (.inl ⟨rfl, rfl, rfl⟩), hF b r W' h'⟩); have HO7 := Aside0.mk hO7; clear hF hO7 h7 HO6 y0 y1 y2; obtain ⟨y0, y1, y2, _⟩ := blkA3 (HO7.out.blk (j := 0) rfl)))
    obtain ⟨code, hcode⟩ : ∃ x, (odo_Orders.f N).2 = x := ⟨_, rfl⟩
    simp only [hcode]
    clear hcode H6 HLT
  case' inr.inr =>
    go_upto_region 15 with (first
      | (go_at_call 26; (with_reducible refine (odo_Weaves.made_c Y cy l _ HPC.out.1 HPC.out.2).mono ?_); rintro e w6 ⟨v6, rfl, h6⟩; have H6 := Aside0.mk h6; have HO6 := Aside0.mk (HO5'.out.later h6.below); clear h6 y0 y1 y2; obtain ⟨y0, y1, y2, _⟩ := blkA3 (HO6.out.blk (j := 0) rfl))
      | (go_at_call 25; (with_reducible refine (rneww_c (Kd.C_below HA.out HO6.out.below)).mono ?_); rintro e w7 ⟨v7, rfl, h7⟩; obtain ⟨p, q, ps2, rfl, rfl, hpq, hO7, hF⟩ := join_made HO5'.out H6.out (Below.refl _ _) h7; have HF := Aside0.mk (show ∀ b r W', Owned w ([b, r] ++ ps2) W' → ∃ T kd X, KindOf T kd l N X ∧ BothR w W' (.pointer p) (.pointer q) T kd X.1 from fun b r W' h' => ⟨82, 3, odo_Weaves.f l, .inr (.inr ⟨rfl, rfl, rfl⟩), hF b r W' h'⟩); have HO7 := Aside0.mk hO7; clear hF hO7 h7 HO6 y0 y1 y2; obtain ⟨y0, y1, y2, _⟩ := blkA3 (HO7.out.blk (j := 0) rfl)))
    obtain ⟨code, hcode⟩ : ∃ x, (odo_Weaves.f l).2 = x := ⟨_, rfl⟩
    simp only [hcode]
    clear hcode H6
  all_goals
    obtain ⟨s1, s2, s3⟩ := ptr26
    have t1 : ∀ (op : BinOp) (W : World) (p q : Option Addr) (x y : Operand), (eqGuard op 27 x y (.pointer p) (.pointer q)).run Try.prog W = .ok () W := fun op W p q x y => by cases op <;> rfl
    have t2 : ∀ (W : World) (p : Option Addr), (binOp .eql 27 (.pointer p) (.pointer none)).run Try.prog W = .ok (.bool p.isNone) W := fun W p => run_eql_pointer_nil W 27 p pt27
    obtain ⟨bq, hbq⟩ : ∃ x, q.isNone = x := ⟨_, rfl⟩
    rw [hbq] at hpq
    have HB7 := Aside0.mk HO7.out.below
    have hsm := Aside0.mk (same_self l (by have := H8.out; omega))
    have hrd : rd X7 (l.length : Int) = 77 := by
      rw [← EX.out]
      unfold rd
      rw [Int.toNat_natCast, List.getD_eq_getElem?_getD, List.getElem?_append_right (Nat.le_refl _), Nat.sub_self]
      rfl
    have hlx7 : l.length < X7.length := by rw [LX.out]; exact Nat.lt_succ_self _
    obtain ⟨gl, rfl, hc77, hf77⟩ := row_at HO7.out (j := 1) rfl hlx7
    rw [hrd] at hc77
    have hpre := pre_c HO7.out (j := 1) rfl EX.out
    have HP7 := Aside0.mk hpre
    clear hrd hpre
    go_quiet (first | (go_at_call 13; refine Calls.quiet_of (same_q HP7.out.1 HP7.out.2 (Kd.C_below HA.out HB7.out) HC.out hsm.out _)))
    have HO8 := Aside0.mk (HO7.out.drewN nq)
    clear hc77 hf77 HP7 y0 y1 y2 s1 s2 s3 t1 t2 hsm HB7 HO7 hlx7 hlx hlc
    generalize w7.drewN nq = w8 at HO8 ⊢
    obtain ⟨m, hm⟩ : ∃ m, X7.length = m := ⟨_, rfl⟩
    rw [hm] at HO8 LX ⊢
    have hmb := Aside0.mk (show m ≤ 9223372036854775806 by have := H8.out; have := LX.out; omega)
    have hm8 := Aside0.mk hm
    clear hm
    go_wp2_with fail
    go_loopw [10] (fun vi W => ∃ k : Nat, vi = .int .i64 k ∧ k ≤ m ∧ Aside0 (∃ X' : List Int, X'.length = m ∧ Owned w ([.box g 24 #[.int .i64 K, .slice A l.length c, .int .i64 N], .row (Kd.int .i64) 3 (.slice (some ⟨gl, 0, none⟩) m cy) X'] ++ ps2) W)) (fun vi _ => m - (intOf vi).toNat)
    case atStart => exact ⟨0, rfl, Nat.zero_le _, ⟨_, hm8.out, HO8.out⟩⟩
    case round =>
      obtain ⟨k, rfl, hk, ho⟩ := hrel
      obtain ⟨X', hX', hO⟩ := ho.out
      clear ho
      by_cases hlt : k < m
      · have hO' := hO
        rw [← hX'] at hO'
        obtain ⟨gl', e, hck, hfk⟩ := row_at hO' (j := 1) rfl (by rw [hX']; exact hlt)
        injection e with e
        injection e with e
        subst e
        have HO9 := Aside0.mk hO
        have HX := Aside0.mk hX'
        clear hO hO' hX'
        have hwk := Aside0.mk (next_of hlt hmb.out)
        have HLT := Aside0.mk hlt
        go_wp2_with fail
        go_roundw
        case rel => exact ⟨k + 1, by rw [hwk.out], HLT.out, ⟨X'.set k 3, by rw [List.length_set]; exact HX.out, HO9.out.num (j := 1) rfl k 3⟩⟩
        case measure => rw [hwk.out]; exact nat_dec HLT.out
      · have HO9 := Aside0.mk hO
        clear hO hX'
        go_wp2_with fail
        go_ret3
        obtain ⟨T, kd, X, hK, hB⟩ := HF.out _ _ _ HO9.out
        exact ⟨_, _, T, kd, X, rfl, hK, hB⟩
end Go.Proofs.Ytohpboblmmbjnaa.P
/- The document's At and Rank where they answer an error. -/
namespace Go.Proofs.Ytohpboblmmbjnaa.P
open Go Go.RowKit Go.Proofs.YtohpboblmmbjnaaW.PrintWords Go.Proofs.YtohpboblmmbjnaaW.PrintLast Go.Proofs.YtohpboblmmbjnaaW.PrintMore Go.Proofs.Odo
set_option maxHeartbeats 4000000 in
set_option maxRecDepth 100000 in
theorem rat_no {w : World} {v : Value} {kd : Int} {L : List Nat} {a n : Int} (hs : RefS w v kd (ints L)) (F : FitL kd L) (hW : Big.wordR (cntV kd L 0) = (a, false)) :
    Calls Try.prog 12 #[v, .int .u64 n] w fun e W' => e = .returned (.tuple #[.slice none 0 0, .int .i64 30]) ∧ Below w.heap.size w W' := by
  have HS := Aside0.mk hs
  have HF := Aside0.mk F
  have HW := Aside0.mk hW
  obtain ⟨g, A0, c0, rfl, -⟩ := hs
  clear F hW
  go_enter Try.func12, Try.ntmps12
  go_wp2_with (go_at_call 10; (with_reducible refine (rlen_c HS.out HF.out HW.out).mono ?_); rintro e w1 ⟨rfl, hb1⟩; have HB1 := Aside0.mk hb1; clear hb1)
  go_ret2
  exact ⟨rfl, HB1.out⟩
set_option maxHeartbeats 4000000 in
set_option maxRecDepth 100000 in
theorem rat_far {w : World} {v : Value} {kd : Int} {L : List Nat} {a n : Int} (hs : RefS w v kd (ints L)) (F : FitL kd L) (hW : Big.wordR (cntV kd L 0) = (a, true)) (hn : a ≤ n) :
    Calls Try.prog 12 #[v, .int .u64 n] w fun e W' => e = .returned (.tuple #[.slice none 0 0, .int .i64 3]) ∧ Below w.heap.size w W' := by
  have HS := Aside0.mk hs
  have HF := Aside0.mk F
  have HW := Aside0.mk hW
  obtain ⟨g, A0, c0, rfl, -⟩ := hs
  have hd : decide (a ≤ n) = true := decide_eq_true hn
  clear F hW hn
  go_enter Try.func12, Try.ntmps12
  go_wp2_with (go_at_call 10; (with_reducible refine (rlen_c HS.out HF.out HW.out).mono ?_); rintro e w1 ⟨rfl, hb1⟩; have HB1 := Aside0.mk hb1; clear hb1)
  go_ret2
  exact ⟨rfl, HB1.out⟩
end Go.Proofs.Ytohpboblmmbjnaa.P
/- The program's space and the document's answer the same. -/
namespace Go.Proofs.Ytohpboblmmbjnaa.P
open Go Go.RowKit Go.Proofs.YtohpboblmmbjnaaW.PrintWords Go.Proofs.YtohpboblmmbjnaaW.PrintLast Go.Proofs.YtohpboblmmbjnaaW.PrintMore Go.Proofs.Odo
def AtOk (w w' : World) (e : Ending) (xs : List Int) (cd : Int) : Prop := ∃ v1, e = .returned (.tuple #[v1, .int .i64 cd]) ∧ Kd.R (Kd.int .i64) 3 w' w.heap.size (fun _ => True) v1 xs ∧ Below w.heap.size w w'
theorem nat_list : ∀ {l : List Int}, anyNeg l = false → ∃ p, l = ints p
  | [], _ => ⟨[], rfl⟩
  | x :: l, h => by
    have h' : (decide (x < 0) || anyNeg l) = false := by simpa [anyNeg] using h
    obtain ⟨h1, h2⟩ := Bool.or_eq_false_iff.1 h'
    obtain ⟨p, rfl⟩ := nat_list h2
    obtain ⟨a, rfl⟩ : ∃ a : Nat, x = a := ⟨x.toNat, by have := of_decide_eq_false h1; omega⟩
    exact ⟨a :: p, rfl⟩
theorem ints_total (p : List Nat) : (ints p).sum = ((p.sum : Nat) : Int) := by
  induction p with
  | nil => rfl
  | cons a p ih =>
    show (a : Int) + (ints p).sum = (((a + p.sum : Nat)) : Int)
    rw [ih]; omega
theorem sum_ones (n : Nat) : (List.replicate n 1).sum = n := by
  induction n with
  | zero => rfl
  | succ n ih => rw [List.replicate_succ, List.sum_cons, ih, Nat.add_comm]
theorem ints_rep (n : Nat) : List.replicate n (1 : Int) = ints (List.replicate n 1) := by unfold ints; rw [List.map_replicate]; rfl
end Go.Proofs.Ytohpboblmmbjnaa.P
/- What a space and the document's answer: First, Next, At together; what All and From hand over. -/
namespace Go.Proofs.Ytohpboblmmbjnaa.P
open Go Go.RowKit Go.Shelf Go.Proofs.YtohpboblmmbjnaaW.PrintWords Go.Proofs.YtohpboblmmbjnaaW.PrintLast Go.Proofs.YtohpboblmmbjnaaW.PrintMore Go.Proofs.Odo
def RNext (kd : Int) (l : List Int) (IsL : List Nat → Prop) (nx : List Nat → Option (List Nat)) : Prop :=
  ∀ x, IsL x → ∀ w v A c, RefS w v kd l → Kd.C (Kd.int .i64) w A (ints x).length (ints x) → (ints x).length ≤ c → Calls Try.prog 34 #[v, .slice A (ints x).length c] w fun e W' =>
    ∃ v1, e = .returned (.tuple #[v1, .bool (nx x).isSome]) ∧ Kd.R (Kd.int .i64) 3 W' w.heap.size (fun _ => True) v1 (ints ((nx x).getD [])) ∧ Below w.heap.size w W'
def RFirst (kd : Int) (l : List Int) (b : Bool) (x0 : List Nat) : Prop :=
  ∀ w v, RefS w v kd l → Calls Try.prog 21 #[v] w fun e W' => ∃ v1, e = .returned (.tuple #[v1, .bool b]) ∧ Kd.R (Kd.int .i64) 3 W' w.heap.size (fun _ => True) v1 (if b = true then ints x0 else []) ∧ Below w.heap.size w W'
def AtBad (T : Nat) (l : List Int) : Prop := ∀ (n : Nat) w v, SpAt T w v l → Calls Try.prog 11 #[v, .int .u64 (n : Int)] w fun e w' => ∃ v1, e = .returned (.tuple #[v1, .int .i64 30]) ∧ Below w.heap.size w w'
/-- At of both, side by side. -/
def AtB (T : Nat) (kd : Int) (l : List Int) (all : Nat) (ok : Bool) (IsL : List Nat → Prop) (num : List Nat → Nat) (n : Nat) : Prop :=
  (ok = true ∧ n < all ∧ ∃ x, IsL x ∧ num x = n ∧ (∀ w v, SpAt T w v l → Calls Try.prog 11 #[v, .int .u64 (n : Int)] w fun e w' => AtOk w w' e (ints x) 0) ∧ ∀ w v, RefS w v kd l → Calls Try.prog 12 #[v, .int .u64 (n : Int)] w fun e w' => AtOk w w' e (ints x) 0) ∨
  ∃ cd : Int, (cd = 3 ∨ cd = 30) ∧ (∀ w v, SpAt T w v l → Calls Try.prog 11 #[v, .int .u64 (n : Int)] w fun e w' => ∃ v1, e = .returned (.tuple #[v1, .int .i64 cd]) ∧ Below w.heap.size w w') ∧ ∀ w v, RefS w v kd l → Calls Try.prog 12 #[v, .int .u64 (n : Int)] w fun e w' => e = .returned (.tuple #[.slice none 0 0, .int .i64 cd]) ∧ Below w.heap.size w w'
theorem atB_of {T : Nat} {kd : Int} {p : List Nat} {all : Nat} {ok : Bool} {IsL : List Nat → Prop} {num : List Nat → Nat} {ff fn : Nat} {x0 : List Nat} {nx : List Nat → Option (List Nat)} (S : Serves T (ints p) all ok IsL num) (G : GoesC T (ints p) all IsL num ff fn x0 nx) (F : FitL kd p) (hW : Big.wordR (cntV kd p 0) = (if ok = true then (all : Int) else 0, ok)) (hbad : ok = false → AtBad T (ints p))
    (ra : ok = true → ∀ x, IsL x → ∀ w v, RefS w v kd (ints p) → Calls Try.prog 12 #[v, .int .u64 ((num x : Nat) : Int)] w fun e W' => ∃ v1, e = .returned (.tuple #[v1, .int .i64 0]) ∧ Owned w [.row (Kd.int .i64) 3 v1 (ints x)] W') (n : Nat) : AtB T kd (ints p) all ok IsL num n := by
  by_cases h : ok = true ∧ n < all
  · obtain ⟨ho, hn⟩ := h
    obtain ⟨x, hI, rfl, hc⟩ := S.at_ ho n hn
    refine .inl ⟨ho, hn, x, hI, rfl, hc, fun w v hs => (ra ho x hI w v hs).mono ?_⟩
    rintro e w' ⟨v1, rfl, hO⟩
    exact ⟨v1, rfl, hO.get (j := 0) rfl, hO.below⟩
  · cases ok with
    | false => exact .inr ⟨30, .inr rfl, fun w v hs => hbad rfl n w v hs, fun w v hs => rat_no hs F hW⟩
    | true =>
      have hle : all ≤ n := Nat.le_of_not_lt fun hn => h ⟨rfl, hn⟩
      exact .inr ⟨3, .inl rfl, fun w v hs => G.far n hle (S.big rfl) w v hs, fun w v hs => rat_far hs F hW (show (if true = true then (all : Int) else 0) ≤ (n : Int) by rw [if_pos rfl]; exact Int.ofNat_le.2 hle)⟩
/-- All that OdoWalks asks of a space. -/
def OdoS (T : Nat) (kd : Int) (l : List Int) : Prop :=
  ∃ all ok IsL num ff fn x0 nx, Serves T l all ok IsL num ∧ GoesC T l all IsL num ff fn x0 nx ∧ RNext kd l IsL nx ∧ RFirst kd l (decide (0 < all)) x0 ∧ ∀ n, AtB T kd l all ok IsL num n
theorem of_owned {w W : World} {v : Value} {xs : List Int} (h : Owned w [.row (Kd.int .i64) 3 v xs] W) : Kd.R (Kd.int .i64) 3 W w.heap.size (fun _ => True) v xs ∧ Below w.heap.size w W := ⟨h.get (j := 0) rfl, h.below⟩
theorem rfirst_of {kd : Int} {l : List Int} {xs : List Int} {b : Bool} {x0 : List Nat} (h : Ev (fun k => weirref03_Space_First.f k kd l) (xs, b, kd)) (e : xs = if b = true then ints x0 else []) : RFirst kd l b x0 := by
  intro w v hs
  obtain ⟨g, A, c, rfl, h1, h2, h3⟩ := hs
  obtain ⟨k, hk⟩ := h.rounds
  refine (weirref03_Space_First.calls k g kd l xs b kd w w ⟨A, c, h1, trivial, h2⟩ (Below.refl _ _) hk).mono ?_
  rintro e' w' ⟨v0, rfl, hR, _, hB, _⟩
  rw [← e]
  exact ⟨v0, rfl, hR, hB⟩
theorem odoS_product (p : List Nat) (hp : ∀ a ∈ p, a < 9223372036854775808) (hl : p.length ≤ 64) : OdoS 80 1 (ints p) := by
  have F : FitL 1 p := ⟨fun _ => hp, fun h => absurd rfl h, hl⟩
  have hcv : cntV 1 p 0 = prod p := by unfold cntV; rw [if_pos rfl, List.drop_zero]
  have hok : (prodRes p).2 = true → prod p < 18446744073709551616 := fun h => by
    unfold prodRes at h
    split at h
    · assumption
    · cases h
  have hr1 : (prodRes p).1 = if (prodRes p).2 = true then ((prod p : Nat) : Int) else 0 := by
    unfold prodRes
    split <;> rfl
  have hW : Big.wordR (cntV 1 p 0) = (if (prodRes p).2 = true then ((prod p : Nat) : Int) else 0, (prodRes p).2) := by rw [hcv, ← hr1]; rfl
  have h0 : (0 < prod p) ↔ ¬ 0 ∈ p := ⟨fun h hm => by rw [prod_zero hm] at h; omega, prod_pos⟩
  refine ⟨_, _, _, _, _, _, _, _, serves_product p hp hl, goes_product p hp hl, fun x hI w v A c hs hC hc => ?_, ?_, fun n => atB_of (serves_product p hp hl) (goes_product p hp hl) F hW (fun ho n w v hs => ?_) (fun ho x hI w v hs => ?_) n⟩
  · refine (rnextp_c hs hI hp (by rw [isP_length hI]; exact hl) hC hc).mono ?_
    rintro e W' ⟨v1, rfl, h⟩
    exact ⟨v1, rfl, of_owned h⟩
  · have h := rfirst_product p hl
    rw [show decide (¬ 0 ∈ p) = decide (0 < prod p) from decide_eq_decide.2 h0.symm] at h
    refine rfirst_of h ?_
    by_cases hz : 0 ∈ p
    · rw [if_pos hz, if_neg (by simpa using (fun h => (h0.1 h) hz))]
    · rw [if_neg hz, if_pos (decide_eq_true (h0.2 hz))]
  · obtain ⟨kc, hkc⟩ := (prod_is p (fun a ha => Nat.lt_trans (hp a ha) (by decide)) (by omega)).rounds
    have hkc' : odo_product_count.f kc (ints p) = some ((prodRes p).1, (prodRes p).2) := hkc
    rw [ho] at hkc'
    refine (odo_At_product.calls kc (ints p) _ _ n [] v w hs hkc' (fun h => by cases h)).mono ?_
    rintro e w' ⟨v1, rfl, _, hB⟩
    exact ⟨v1, rfl, hB⟩
  · have h := ratp_c hs F (hok ho) (rankP_lt hI)
    rw [atP_rankP hI] at h
    exact h
theorem odoS_weaves {kd : Int} (hk : kd ≠ 1) (p : List Nat) (hs : p.sum ≤ 64) (hl : p.length ≤ 64) : OdoS 82 kd (ints p) := by
  have F : FitL kd p := ⟨fun h => absurd h hk, fun _ => hs, hl⟩
  have hcv : cntV kd p 0 = mc p := by unfold cntV; rw [if_neg hk]
  have hok : (countRes p).2 = true → mc p < 18446744073709551616 := fun h => by
    unfold countRes at h
    split at h
    · assumption
    · cases h
  have hr1 : (countRes p).1 = if (countRes p).2 = true then ((mc p : Nat) : Int) else 0 := by
    unfold countRes
    split <;> rfl
  have hW : Big.wordR (cntV kd p 0) = (if (countRes p).2 = true then ((mc p : Nat) : Int) else 0, (countRes p).2) := by rw [hcv, ← hr1]; rfl
  refine ⟨_, _, _, _, _, _, _, _, serves_weaves p hs hl, goes_weaves p hs hl, fun x hI w v A c hr hC hc => ?_, ?_, fun n => atB_of (serves_weaves p hs hl) (goes_weaves p hs hl) F hW (fun ho n w v hsp => ?_) (fun ho x hI w v hs' => ratw_c hs' hk F (hok ho) hI rfl) n⟩
  · refine (rnextw_c hr (by simpa using hk) (fun a ha => is_lt hI a ha) (by rw [is_length hI]; exact hs) hl hC hc).mono ?_
    rintro e W' ⟨v1, rfl, h⟩
    exact ⟨v1, rfl, of_owned h⟩
  · have h := rfirst_weaves p hs hl kd hk
    have hp := mc_pos p
    rw [show true = decide (0 < mc p) from (decide_eq_true hp).symm] at h
    exact rfirst_of h (by rw [if_pos (decide_eq_true hp)])
  · obtain ⟨kc, hkc⟩ := (count_is p hs (by omega)).rounds
    have hkc' : odo_weaves_count.f kc (ints p) = some ((countRes p).1, (countRes p).2) := hkc
    rw [ho] at hkc'
    refine (odo_At_weaves.calls kc p [] hs hl _ _ n v w hsp hkc' (fun h => by cases h)).mono ?_
    rintro e w' ⟨v1, rfl, _, hB⟩
    exact ⟨v1, rfl, hB⟩
theorem odoS_kind {T : Nat} {kd : Int} {l : List Int} {N : Int} {X : Option (List Int) × Int} (h : KindOf T kd l N X) (hl : ∀ x ∈ l, x < 9223372036854775808) {l' : List Int} (hX : X.1 = some l') : OdoS T kd l' := by
  rcases h with ⟨rfl, rfl, rfl⟩ | ⟨rfl, rfl, rfl⟩ | ⟨rfl, rfl, rfl⟩
  · unfold odo_Product.f at hX
    split at hX
    · cases hX
    · split at hX
      · cases hX
      · rename_i h1 h2
        cases hX
        obtain ⟨p, rfl⟩ := nat_list (Bool.eq_false_iff.2 h2)
        rw [ints_length] at h1
        exact odoS_product p (fun a ha => by have := hl (a : Int) (List.mem_map_of_mem ha); omega) (by omega)
  · unfold odo_Orders.f at hX
    split at hX
    · rename_i h1
      cases hX
      rw [ints_rep]
      exact odoS_weaves (by decide) _ (by rw [sum_ones]; omega) (by rw [List.length_replicate]; omega)
    · cases hX
  · unfold odo_Weaves.f at hX
    split at hX
    · cases hX
    · split at hX
      · cases hX
      · split at hX
        · cases hX
        · rename_i h1 h2 h3
          cases hX
          obtain ⟨p, rfl⟩ := nat_list (Bool.eq_false_iff.2 h2)
          rw [ints_length] at h1
          rw [ints_total] at h3
          exact odoS_weaves (by decide) p (by omega) (by omega)
/-- What All or From hands over. -/
structure IterG (m : Nat) (X : Nat → List Nat) (gf : Nat) (lb : Array Value) (Fix : World → Prop) : Prop where
  it : ∀ k, 1 ≤ k → IterD Fence.wide k Try.prog gf lb m (fun i => ints (X i)) Fix
  en : ∀ args w, (callFunc gf args).run Try.prog w = .ok (.enter gf args) w
theorem iterG_all {T : Nat} {l : List Int} {all : Nat} {ok : Bool} {IsL : List Nat → Prop} {num : List Nat → Nat} {ff fn : Nat} {x0 : List Nat} {nx : List Nat → Option (List Nat)} (S : Serves T l all ok IsL num) (G : GoesC T l all IsL num ff fn x0 nx) (w : World) (v : Value) (hs : SpAt T w v l) :
    Calls Try.prog 23 #[v] w fun e w' => ∃ gf lb Fix, e = .returned (.func (.func gf) #[] lb) ∧ IterG all (lists nx x0) gf lb Fix ∧ (∀ W, Below w'.heap.size w' W → Fix W) ∧ Below w.heap.size w w' := by
  obtain ⟨gp, A, c, rfl, hk, hl, hC⟩ := hs
  refine (all_c T ff l x0 _ G.mf G.ef G.first w gp A c hk hl hC).mono ?_
  rintro e w' (⟨h0, rfl, hB⟩ | ⟨h0, gf, gs, Af, cf, rfl, hW, hB⟩)
  · have h0' : all = 0 := by have := of_decide_eq_false h0; omega
    subst h0'
    exact ⟨_, _, fun _ => True, rfl, ⟨fun k _ => none_iterD k _ _, enters_of Try.func35 (by kernel_rfl) rfl⟩, fun _ _ => trivial, hB⟩
  · have h0' : 0 < all := of_decide_eq_true h0
    have hL := lists_are S G
    obtain ⟨n, hn⟩ : ∃ n, (lists nx x0 0).length = n := ⟨_, rfl⟩
    have hsm := S.small _ (hL 0 h0').1.1
    refine ⟨_, _, Caught T l (ints x0) gf gs gp A Af c cf, rfl, ⟨fun k hk => walk_iterD k hk T fn l gf gs gp A Af c cf n all nx (lists nx x0) h0' (by rw [← hn]; exact hsm.1) (fun i hi => ?_) (fun i hi => (hL i (by omega)).2.1 hi) (fun i hi => (hL i (by omega)).2.2 hi) (fun i hi => G.next _ (hL i hi).1.1 A c) (fun w => G.mn A l.length c w) G.en,
      enters_of Try.func41 (by kernel_rfl) rfl⟩, fun W hb => hW.below hb, hB⟩
    rw [← hn]
    exact S.same _ _ (hL i hi).1.1 (hL 0 h0').1.1
end Go.Proofs.Ytohpboblmmbjnaa.P
/- odo's From. -/
namespace Go.Proofs.Ytohpboblmmbjnaa.P
open Go Go.RowKit Go.Shelf Go.Proofs.YtohpboblmmbjnaaW.PrintWords Go.Proofs.YtohpboblmmbjnaaW.PrintLast Go.Proofs.YtohpboblmmbjnaaW.PrintMore Go.Proofs.Odo
set_option maxHeartbeats 2000000 in
set_option maxRecDepth 100000 in
theorem from_bad {n : Nat} {cd : Int} {v : Value} {w : World} (hcd : cd = 3 ∨ cd = 30) (h : Calls Try.prog 11 #[v, .int .u64 (n : Int)] w fun e w' => ∃ v1, e = .returned (.tuple #[v1, .int .i64 cd]) ∧ Below w.heap.size w w') :
    Calls Try.prog 24 #[v, .int .u64 (n : Int)] w fun e w' => e = .returned (.tuple #[.nilFunc, .int .i64 cd]) ∧ Below w.heap.size w w' := by
  have H := Aside0.mk h
  have hb : (cd != 0) = true := by rcases hcd with rfl | rfl <;> rfl
  clear h hcd
  go_enter Try.func24, Try.ntmps24
  go_wp2_with fail
  refine H.out.mono ?_
  rintro e w1 ⟨v1, rfl, hB⟩
  have HB := Aside0.mk hB
  clear hB H
  go_wp2_with fail
  go_ret2
  exact ⟨rfl, HB.out⟩
set_option maxHeartbeats 2000000 in
set_option maxRecDepth 100000 in
theorem from_ok {T : Nat} {l : List Int} {all : Nat} {ok : Bool} {IsL : List Nat → Prop} {num : List Nat → Nat} {ff fn : Nat} {x0 : List Nat} {nx : List Nat → Option (List Nat)} (S : Serves T l all ok IsL num) (G : GoesC T l all IsL num ff fn x0 nx) (w : World) (v : Value) (hs : SpAt T w v l) {n : Nat} (hn : n < all)
    (hat : Calls Try.prog 11 #[v, .int .u64 (n : Int)] w fun e w' => AtOk w w' e (ints (lists nx x0 n)) 0) :
    Calls Try.prog 24 #[v, .int .u64 (n : Int)] w fun e w' => ∃ gf lb Fix, e = .returned (.tuple #[.func (.func gf) #[] lb, .int .i64 0]) ∧ IterG (all - n) (fun i => lists nx x0 (n + i)) gf lb Fix ∧ (∀ W, Below w'.heap.size w' W → Fix W) ∧ Below w.heap.size w w' := by
  obtain ⟨gp, A, c, rfl, hk, hl, hC⟩ := hs
  have HAT := Aside0.mk hat
  have HK := Aside0.mk hk
  have HL := Aside0.mk hl
  have HC := Aside0.mk hC
  have SV := Aside0.mk S
  have SG := Aside0.mk G
  have HN := Aside0.mk hn
  clear hat hk hl hC S G hn
  go_enter Try.func24, Try.ntmps24
  go_wp2_with fail
  refine HAT.out.mono ?_
  rintro e w1 ⟨v1, rfl, hR, hB⟩
  obtain ⟨A1, c1, rfl, hc1, hC1⟩ := Kd.R_reads hR
  have HW := Aside0.mk (walk_c T l (ints (lists nx x0 n)) gp A A1 c c1 w1 (pw_cell_below hB HK.out) HL.out (Kd.C_below HC.out hB) hC1 hc1)
  have HB := Aside0.mk hB
  clear hR hB hc1 hC1 HAT
  go_wp2_with fail
  refine HW.out.mono ?_
  rintro e w2 ⟨gf, gs, Af, cf, rfl, hw, hb⟩
  have HW2 := Aside0.mk hw
  have HB2 := Aside0.mk hb
  clear hw hb HW
  go_wp2_with fail
  go_ret2
  have hL := lists_are SV.out SG.out
  have hn := HN.out
  obtain ⟨q, hq⟩ : ∃ q, (lists nx x0 n).length = q := ⟨_, rfl⟩
  have hsm := SV.out.small _ (hL n hn).1.1
  refine ⟨_, _, Caught T l (ints (lists nx x0 n)) gf gs gp A Af c cf, rfl, ⟨fun k hk => walk_iterD k hk T fn l gf gs gp A Af c cf q (all - n) nx (fun i => lists nx x0 (n + i)) (by omega) (by rw [← hq]; exact hsm.1) (fun i hi => ?_) (fun i hi => (hL (n + i) (by omega)).2.1 (by omega)) (fun i hi => (hL (n + i) (by omega)).2.2 (by omega)) (fun i hi => SG.out.next _ (hL (n + i) (by omega)).1.1 A c) (fun w => SG.out.mn A l.length c w) SG.out.en,
    enters_of Try.func41 (by kernel_rfl) rfl⟩, fun W hb => HW2.out.below hb, below_then HB.out HB.out.size HB2.out⟩
  rw [← hq]
  exact SV.out.same _ _ (hL (n + i) (by omega)).1.1 (hL n hn).1.1
end Go.Proofs.Ytohpboblmmbjnaa.P
/- What the law's `goes` holds while it goes through an iterator's lists. -/
namespace Go.Proofs.Ytohpboblmmbjnaa.P
open Go Go.RowKit Go.Shelf Go.Proofs.YtohpboblmmbjnaaW.PrintWords Go.Proofs.YtohpboblmmbjnaaW.PrintLast Go.Proofs.YtohpboblmmbjnaaW.PrintMore Go.Proofs.Odo
/-- As it lay below S, but for some blocks. -/
structure KeepX (S : Nat) (ex : List Nat) (ws W : World) : Prop where
  os : W.os = ws.os
  tape : W.tape = ws.tape
  output : W.output = ws.output
  size : S ≤ W.heap.size
  blk : ∀ k, k < S → k ∉ ex → W.heap[k]? = ws.heap[k]?
theorem KeepX.of {S : Nat} {ws W : World} (ex : List Nat) (hS : S ≤ ws.heap.size) (h : Below S ws W) : KeepX S ex ws W := ⟨h.os, h.tape, h.output, Nat.le_trans hS h.size, fun k hk _ => h.block k hk⟩
theorem KeepX.grown {S : Nat} {ex : List Nat} {ws W W' : World} {row : Option Nat} (h : KeepX S ex ws W) (hg : W.grownBy W' row) (hr : ∀ k, row = some k → S ≤ k ∨ k ∈ ex) : KeepX S ex ws W' :=
  ⟨hg.os.trans h.os, hg.tape.trans h.tape, hg.output.trans h.output, Nat.le_trans h.size hg.size, fun k hk hn => (hg.block k (Nat.lt_of_lt_of_le hk h.size) (fun e => by
    rcases hr k e.symm with h1 | h1
    · omega
    · exact hn h1)).trans (h.blk k hk hn)⟩
theorem grown_of {W W' : World} (hb : Below W.heap.size W W') : W.grownBy W' none := ⟨hb.os, hb.tape, hb.output, hb.size, fun k hk _ => hb.block k hk⟩
theorem KeepX.later {S : Nat} {ex : List Nat} {ws W W' : World} (h : KeepX S ex ws W) (hb : Below W.heap.size W W') : KeepX S ex ws W' := h.grown (grown_of hb) (fun k e => by cases e)
theorem KeepX.below {S B : Nat} {ex : List Nat} {w ws W : World} (h : KeepX S ex ws W) (hb : Below B w ws) (hB : B ≤ S) (hs : ws.heap.size ≤ W.heap.size ∨ w.heap.size ≤ S) (hex : ∀ k ∈ ex, B ≤ k) : Below B w W :=
  ⟨h.os.trans hb.os, h.tape.trans hb.tape, h.output.trans hb.output, by rcases hs with h1 | h1; exact Nat.le_trans hb.size h1; exact Nat.le_trans h1 h.size, fun k hk => (h.blk k (Nat.lt_of_lt_of_le hk hB) (fun hm => by have := hex k hm; omega)).trans (hb.block k hk)⟩
/-- The list that is wanted next: handed in, or a row of the round's own. -/
def WantOK (w0 : World) (S : Nat) (b : Option Nat) (W : World) (wv : Value) (xs : List Int) : Prop :=
  (∃ (A : Option Addr) (c : Nat), wv = .slice A xs.length c ∧ xs.length ≤ c ∧ Kd.C (Kd.int .i64) w0 A xs.length xs) ∨ (W.ownsRow S 3 1 wv xs.length (nums .i64 xs) ∧ ∀ k, wv.ownBlock = some k → b ≠ some k)
theorem WantOK.read {w0 : World} {S : Nat} {b : Option Nat} {W : World} {wv : Value} {xs : List Int} (h : WantOK w0 S b W wv xs) (hb : Below w0.heap.size w0 W) : ∃ (A : Option Addr) (c : Nat), wv = .slice A xs.length c ∧ xs.length ≤ c ∧ Kd.C (Kd.int .i64) W A xs.length xs := by
  rcases h with ⟨A, c, e, h1, h2⟩ | ⟨h, _⟩
  · exact ⟨A, c, e, h1, Kd.C_below h2 hb⟩
  · obtain ⟨A, c, e, h1, h2⟩ := Kd.R_reads (Kd.R_of_own (ok := fun _ => True) h (fun _ _ => trivial))
    exact ⟨A, c, e, h1, h2⟩
theorem WantOK.kept {w0 : World} {S : Nat} {b : Option Nat} {W W' : World} {wv : Value} {xs : List Int} {row : Option Nat} (h : WantOK w0 S b W wv xs) (hg : W.grownBy W' row) (hr : ∀ k, row = some k → b = some k ∨ k < S ∨ W.heap.size ≤ k ∨ (∃ o, W.heap[k]? = some o ∧ o.isCells = false)) : WantOK w0 S b W' wv xs := by
  rcases h with h | ⟨h, hb⟩
  · exact .inl h
  · refine .inr ⟨own_sameD h (b := wv.ownBlock) (fun k hk => hk) (fun k hk o ho => ?_), hb⟩
    have hlt := h.lt k hk
    refine (hg.block k hlt.2 (fun e => ?_)).trans ho
    rcases hr k e.symm with h1 | h1 | h1 | ⟨o', h1, h2⟩
    · exact hb k hk h1
    · omega
    · omega
    · rcases h.2 with ⟨h3, _⟩ | ⟨g, cap, cur, hv, _, h3, _⟩
      · rw [h3] at hk; cases hk
      · rw [hv] at hk
        cases hk
        rw [h3] at h1
        cases h1
        cases h2
/-- All that goes holds in a round. -/
structure GS (w0 ws : World) (S c14 c15 c16 : Nat) (b : Option Nat) (wv : Value) (xs : List Int) (more : Bool) (n : Nat) (W : World) : Prop where
  k : KeepX S [c14, c15, c16] ws W
  w : W.heap[c14]? = some (.cells #[wv] 22 (0, 0))
  m : W.heap[c15]? = some (.cells #[.bool more] 4 (0, 0))
  n : W.heap[c16]? = some (.cells #[.int .i64 (n : Int)] 3 (0, 0))
  want : WantOK w0 S b W wv xs
section
variable {w0 ws W W' : World} {S c14 c15 c16 : Nat} {b : Option Nat} {wv : Value} {xs : List Int} {more : Bool} {n : Nat}
theorem GS.grown (h : GS w0 ws S c14 c15 c16 b wv xs more n W) {row : Option Nat} (hg : W.grownBy W' row) (hc : c14 < S ∧ c15 < S ∧ c16 < S) (hr : ∀ k, row = some k → S ≤ k ∧ (b = some k ∨ W.heap.size ≤ k ∨ ∃ o, W.heap[k]? = some o ∧ o.isCells = false)) : GS w0 ws S c14 c15 c16 b wv xs more n W' := by
  have hS := h.k.size
  refine ⟨h.k.grown hg (fun k e => .inl (hr k e).1), ?_, ?_, ?_, h.want.kept hg (fun k e => ?_)⟩
  · exact (hg.block c14 (by omega) (fun e => by have := (hr _ e.symm).1; omega)).trans h.w
  · exact (hg.block c15 (by omega) (fun e => by have := (hr _ e.symm).1; omega)).trans h.m
  · exact (hg.block c16 (by omega) (fun e => by have := (hr _ e.symm).1; omega)).trans h.n
  · rcases (hr k e).2 with h1 | h1 | h1
    · exact .inl h1
    · exact .inr (.inr (.inl h1))
    · exact .inr (.inr (.inr h1))
theorem GS.later (h : GS w0 ws S c14 c15 c16 b wv xs more n W) (hb : Below W.heap.size W W') (hc : c14 < S ∧ c15 < S ∧ c16 < S) : GS w0 ws S c14 c15 c16 b wv xs more n W' := h.grown (grown_of hb) hc (fun k e => by cases e)
theorem GS.setN (h : GS w0 ws S c14 c15 c16 b wv xs more n W) (hc : c14 < S ∧ c15 < S ∧ c16 < S) (hne : c14 ≠ c16 ∧ c15 ≠ c16) (i : Nat) : GS w0 ws S c14 c15 c16 b wv xs more i (W.setCell ⟨c16, 0, none⟩ (.int .i64 (i : Int))) := by
  have hg := grownBy_setCell' W c16 (.int .i64 (i : Int))
  exact ⟨h.k.grown hg (fun k e => by cases e; exact .inr (by simp)), (set_other hne.1).trans h.w, (set_other hne.2).trans h.m, heap_set h.n, h.want.kept hg (fun k e => by cases e; exact .inr (.inl hc.2.2))⟩
/-- The next list is laid. -/
theorem GS.setW (h : GS w0 ws S c14 c15 c16 b wv xs more n W) (hc : c14 < S ∧ c15 < S ∧ c16 < S) (hne : c14 ≠ c15 ∧ c14 ≠ c16 ∧ c15 ≠ c16) {wv' : Value} {ys : List Int} (mo : Bool) (hy : WantOK w0 S b W wv' ys) :
    GS w0 ws S c14 c15 c16 b wv' ys mo n ((W.setCell ⟨c14, 0, none⟩ wv').setCell ⟨c15, 0, none⟩ (.bool mo)) := by
  have hg1 := grownBy_setCell' W c14 wv'
  have hg2 := grownBy_setCell' (W.setCell ⟨c14, 0, none⟩ wv') c15 (.bool mo)
  exact ⟨(h.k.grown hg1 (fun k e => by cases e; exact .inr (by simp))).grown hg2 (fun k e => by cases e; exact .inr (by simp)), (set_other hne.1).trans (heap_set h.w), heap_set ((set_other hne.1.symm).trans h.m), (set_other hne.2.2.symm).trans ((set_other hne.2.1.symm).trans h.n),
    (hy.kept hg1 (fun k e => by cases e; exact .inr (.inl hc.1))).kept hg2 (fun k e => by cases e; exact .inr (.inl hc.2.1))⟩
end
theorem WantOK.fresh {w0 : World} {S : Nat} {b : Option Nat} {W W' : World} {v : Value} {xs : List Int} (hS : S ≤ W.heap.size) (hb : ∀ k, b = some k → k < W.heap.size) (h : Kd.R (Kd.int .i64) 3 W' W.heap.size (fun _ => True) v xs) : WantOK w0 S b W' v xs := by
  have h1 := Kd.own_of_R h
  refine .inr ⟨own_le h1 hS, fun k hk e => ?_⟩
  have := hb k e
  have := (h1.lt k hk).1
  omega
end Go.Proofs.Ytohpboblmmbjnaa.P
/- OdoCounts: the law's own walk. -/
namespace Go.Proofs.Ytohpboblmmbjnaa.P
open Go Go.RowKit Go.Shelf Go.Proofs.YtohpboblmmbjnaaW.PrintWords Go.Proofs.YtohpboblmmbjnaaW.PrintLast Go.Proofs.YtohpboblmmbjnaaW.PrintMore Go.Proofs.Odo
attribute [local go_sem] Oper.semAt_some

theorem blk_alloc {w : World} {k : Nat} {o o' : Obj} (h : w.heap[k]? = some o) : (w.alloc o').heap[k]? = some o := (Below.heap_alloc w o' k (Array.getElem?_eq_some_iff.1 h).1).trans h
theorem blk_below {w w' : World} {k : Nat} {o : Obj} (h : w.heap[k]? = some o) (hb : Below w.heap.size w w') : w'.heap[k]? = some o := (hb.block k (Array.getElem?_eq_some_iff.1 h).1).trans h
theorem cell_of {w : World} {k : Nat} {t : TypeId} {v : Value} (h : w.heap[k]? = some (.cells #[v] t (0, 0))) : w.cell? ⟨k, 0, none⟩ = some v ∧ w.frozen? ⟨k, 0, none⟩ = false := ⟨by simp [World.cell?, h], by simp [World.frozen?, h]⟩
theorem results_bool {fn : Func} {p : Tmp} (h : fn.results = #[.cell p 4]) (tmps : Array Value) (w : World) (g : Nat) (v : Value)
    (hp : tmps.getD p undef = .pointer (some ⟨g, 0, none⟩)) (hc : w.cell? ⟨g, 0, none⟩ = some v) : (results fn tmps).run Try.prog w = .ok v w := by
  have hp' : tmps[p]?.getD undef = .pointer (some ⟨g, 0, none⟩) := by simpa using hp
  have hu := Try.underlying4
  simp only [results, h]
  go_simp
theorem shutAll_other : ∀ (ds : List Nat) (W : World) (k : Nat), k ∉ ds → (shutAll ds W).heap[k]? = W.heap[k]?
  | [], _, _, _ => rfl
  | D :: ds, W, k, h => by
    simp only [List.mem_cons, not_or] at h
    exact (shutAll_other ds _ k h.2).trans (World.putObj_heap_other h.1)
theorem fin_bool {fn : Func} {p : Tmp} (h : fn.results = #[.cell p 4]) {n g : Nat} {w W : World} {tmps : Array Value} {ds : List Nat} (hp : tmps.getD p undef = .pointer (some ⟨g, 0, none⟩)) (hc : W.heap[g]? = some (.cells #[.bool true] 4 (0, 0))) (hB : Below w.heap.size w W) (hu : Unshut W ds) (hlo : ∀ D ∈ ds, w.heap.size ≤ D) :
    LeavesInM Fence.wide n Try.prog fn tmps (fun e w' => e = .returned (.bool true) ∧ Below w.heap.size w w') (marks ds) .returning W := by
  have hn : g ∉ ds := fun hd => by rw [hu.2 g hd] at hc; cases hc
  exact leaves_marks ds _ hu ⟨_, results_bool h _ _ _ _ hp (cell_of ((shutAll_other ds W g hn).trans hc)).1, rfl, shutAll_below (Nat.le_refl _) ds _ hB hlo⟩
theorem below_setc {B g : Nat} {w W : World} (h : Below B w W) (hw : B ≤ W.heap.size) (hg : B ≤ g) (v : Value) : Below B w (W.setCell ⟨g, 0, none⟩ v) := h.grown (grownBy_setCell' W g v) hw (fun k e => by cases e; exact hg)
theorem fn55 (W : World) (f : Fn) (a b : Array Value) : (binOp .eql 55 (.func f a b) .nilFunc).run Try.prog W = .ok (.bool false) W := by kernel_rfl
theorem same_own_l : ∀ (d : Nat) (x : List Int) (j : Nat), j + d = x.length → x.length < 9223372036854775807 → weirlaw01_SameInts.l0 (d + 1) x x (j : Int) = some true
  | 0, x, j, h, _ => by rw [weirlaw01_SameInts.l0, if_neg (by omega)]
  | d + 1, x, j, h, hl => by
    rw [weirlaw01_SameInts.l0, if_pos (by omega), if_pos (by omega), if_pos (by omega), if_pos rfl, wrap_next (n := x.length) (by omega) hl]
    exact same_own_l d x (j + 1) (by omega) hl
theorem same_own (x : List Int) (hl : x.length < 9223372036854775807) : weirlaw01_SameInts.f (x.length + 1) x x = some true := by
  unfold weirlaw01_SameInts.f
  rw [if_pos rfl]
  exact same_own_l x.length x 0 (by omega) hl
theorem grown_after {W2 W3 : World} (hb : Below W2.heap.size W2 W3) (nb : Nat) (u : Value) : W2.grownBy (W3.setCell ⟨nb, 0, none⟩ u) (some nb) :=
  ⟨hb.os, hb.tape, hb.output, by rw [set_size]; exact hb.size, fun k hk hne => by rw [set_other (fun e => hne (by rw [e]))]; exact hb.block k hk⟩
end Go.Proofs.Ytohpboblmmbjnaa.P
