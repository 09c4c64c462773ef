/- A state that a call has made: its rows, all apart. -/
import Derived.Test.YtemhpbdlonfikaaPvh
namespace Go.Proofs.Ytemhpbdlonfikaa.P
open Go Go.RowKit Go.Proofs.YtemhpbdlonfikaaW.PrintWords Go.Proofs.YtemhpbdlonfikaaW.PrintLast Go.Proofs.YtemhpbdlonfikaaW.PrintMore

theorem apart_types {W : World} {B B' sz sz' n n' : Nat} {e e' : TypeId} {v v' : Value} {xs xs' : List Value} (h : W.ownsRow B e sz v n xs) (h' : W.ownsRow B' e' sz' v' n' xs') (hne : e ≠ e') (k : Nat) (hk : v.ownBlock = some k) :
    v'.ownBlock ≠ some k := fun hk' => by
  obtain ⟨c, hc⟩ := own_typed h k hk
  obtain ⟨c', hc'⟩ := own_typed h' k hk'
  rw [hc] at hc'
  injection hc' with hc'
  injection hc' with _ hc'
  exact hne hc'
/-- Rows of rows, laid open: the row of their values, each row, and that no two are one. -/
theorem S_rows {W : World} {α : Type} {d : Kd α} {e e2 B : Nat} {ok : Nat → Prop} {v : Value} {l : List (List α)} (h : Kd.S (Kd.slice e d) e2 W B ok v l) :
    ∃ vs : List Value, W.ownsRow B e2 1 v l.length vs ∧ (∀ k, v.ownBlock = some k → ok k) ∧ vs.length = l.length ∧
      (∀ (j : Nat) (u : Value) (x : List α), vs[j]? = some u → l[j]? = some x → Kd.R d e W B (fun k => ok k) u x) ∧
      ∀ (i j : Nat) (p q : Value), i ≠ j → vs[i]? = some p → vs[j]? = some q → ∀ k, p.ownBlock = some k → q.ownBlock ≠ some k := by
  obtain ⟨f, h0, inner, ho, hr⟩ := h
  rw [List.length_zipIdx] at ho
  have hlen : inner.length = l.length := by have := hr.1; rw [List.length_zipIdx] at this; exact this.trans (Nat.mul_one _)
  have key : ∀ (j : Nat) (u : Value) (x : List α), inner[j]? = some u → l[j]? = some x → Kd.R d e W B (fun k => (ok k ∧ some k ≠ v.ownBlock) ∧ f k = j) u x := fun j u x hu hx => by
    have h1 := hr.2 j (x, j) (Kd.zip_at hx)
    obtain ⟨v', e1, h2⟩ := h1
    have h3 : (inner.drop (j * 1)).take 1 = [u] := by
      rw [Nat.mul_one]
      obtain ⟨hj, rfl⟩ := List.getElem?_eq_some_iff.1 hu
      rw [List.drop_eq_getElem_cons hj]
      rfl
    have h4 : [u] = [v'] := h3.symm.trans e1
    injection h4 with h4 _
    rw [h4]
    exact h2
  refine ⟨inner, ho, h0, hlen, fun j u x hu hx => Kd.R_mono (key j u x hu hx) (fun k hk => hk.1.1), fun i j p q hij hp hq k hk hk' => ?_⟩
  obtain ⟨hi, _⟩ := List.getElem?_eq_some_iff.1 hp
  obtain ⟨hj, _⟩ := List.getElem?_eq_some_iff.1 hq
  have h1 := (key i p _ hp (List.getElem?_eq_getElem (by omega))).1 k hk
  have h2 := (key j q _ hq (List.getElem?_eq_getElem (by omega))).1 k hk'
  exact hij (h1.2.symm.trans h2.2)
theorem bag_state {w W : World} {v0 v1 v2 v3 v4 : Value} {s : St} {ok1 ok4 : Nat → Prop} (h0 : Kd.R (Kd.int .i64) 3 W w.heap.size (fun k => some k ≠ v1.ownBlock) v0 s.p) (h1 : Kd.R (Kd.int .i64) 3 W w.heap.size ok1 v1 s.q)
    (h2 : Kd.S (Kd.slice 2 (Kd.int .i64)) 26 W w.heap.size (fun k => some k ≠ v3.ownBlock) v2 s.rg) (h3 : Kd.R (Kd.int .i64) 2 W w.heap.size (fun _ => True) v3 s.me) (h4 : Kd.S (Kd.slice 59 k59) 57 W w.heap.size ok4 v4 s.bf)
    (hb : Below w.heap.size w W) (he : ∀ b ∈ s.bf, b = []) : StO w [] W [v0, v1, v2, v3, v4, .int .i64 s.lk] s := by
  obtain ⟨vrs, o2, _, l2, r2, a2⟩ := S_rows h2
  obtain ⟨bfx, o4, _, l4, r4, _⟩ := S_rows h4
  have o0 := Kd.own_of_R h0
  have o1 := Kd.own_of_R h1
  have o3 := Kd.own_of_R h3
  have r2o : ∀ (j : Nat) (u : Value) (x : List Int), vrs[j]? = some u → s.rg[j]? = some x → W.ownsRow w.heap.size 2 1 u x.length (nums .i64 x) := fun j u x hu hx => Kd.own_of_R (r2 j u x hu hx)
  have a23 : ∀ (j : Nat) (u : Value), vrs[j]? = some u → ∀ k, u.ownBlock = some k → v3.ownBlock ≠ some k := fun j u hu k hk e => by
    obtain ⟨hj, _⟩ := List.getElem?_eq_some_iff.1 hu
    exact (r2 j u _ hu (List.getElem?_eq_getElem (by omega))).1 k hk e.symm
  have hrow : ∀ (j : Nat) (r : Rw), (stRows v0 v1 v2 v3 v4 vrs bfx s)[j]? = some r →
      (j = 0 ∧ r = ri 3 v0 s.p) ∨ (j = 1 ∧ r = ri 3 v1 s.q) ∨ (j = 2 ∧ r = ⟨26, 1, v2, s.rg.length, vrs⟩) ∨ (j = 3 ∧ r = ri 2 v3 s.me) ∨ (j = 4 ∧ r = ⟨57, 1, v4, s.bf.length, bfx⟩) ∨
      ∃ (i : Nat) (u : Value) (x : List Int), j = i + 5 ∧ vrs[i]? = some u ∧ s.rg[i]? = some x ∧ r = ri 2 u x := fun j r hj => by
    match j with
    | 0 => exact .inl ⟨rfl, (Option.some.inj hj).symm⟩
    | 1 => exact .inr (.inl ⟨rfl, (Option.some.inj hj).symm⟩)
    | 2 => exact .inr (.inr (.inl ⟨rfl, (Option.some.inj hj).symm⟩))
    | 3 => exact .inr (.inr (.inr (.inl ⟨rfl, (Option.some.inj hj).symm⟩)))
    | 4 => exact .inr (.inr (.inr (.inr (.inl ⟨rfl, (Option.some.inj hj).symm⟩))))
    | i + 5 =>
      have hj2 : (List.zipWith (ri 2) vrs s.rg)[i]? = some r := hj
      rw [List.getElem?_zipWith] at hj2
      cases hu : vrs[i]? with
      | none => rw [hu] at hj2; cases hj2
      | some u =>
        cases hx : s.rg[i]? with
        | none => rw [hu, hx] at hj2; cases hj2
        | some x =>
          rw [hu, hx] at hj2
          exact .inr (.inr (.inr (.inr (.inr ⟨i, u, x, rfl, hu, hx, (Option.some.inj hj2).symm⟩))))
  refine ⟨v0, v1, v2, v3, v4, vrs, bfx, rfl, ⟨fun j r hj => ?_, fun i j p q hij hp hq k hk hk' => ?_, by simp, by simp, hb⟩, l2, l4, fun j v hv => ?_, he⟩
  · rcases hrow j r hj with ⟨_, rfl⟩ | ⟨_, rfl⟩ | ⟨_, rfl⟩ | ⟨_, rfl⟩ | ⟨_, rfl⟩ | ⟨i, u, x, _, hu, hx, rfl⟩
    · exact o0
    · exact o1
    · exact o2
    · exact o3
    · exact o4
    · exact r2o i u x hu hx
  · have h01 : ∀ k, v0.ownBlock = some k → v1.ownBlock = some k → False := fun k ha hb => h0.1 k ha hb.symm
    rcases hrow i p hp with ⟨hi, rfl⟩ | ⟨hi, rfl⟩ | ⟨hi, rfl⟩ | ⟨hi, rfl⟩ | ⟨hi, rfl⟩ | ⟨i1, u1, x1, hi, hu1, hx1, rfl⟩ <;>
      rcases hrow j q hq with ⟨hj, rfl⟩ | ⟨hj, rfl⟩ | ⟨hj, rfl⟩ | ⟨hj, rfl⟩ | ⟨hj, rfl⟩ | ⟨j1, u2, x2, hj, hu2, hx2, rfl⟩ <;>
      first
        | exact absurd (hi.trans hj.symm) hij
        | exact h01 k hk hk'
        | exact h01 k hk' hk
        | exact apart_types o0 o2 (by decide) k hk hk'
        | exact apart_types o2 o0 (by decide) k hk hk'
        | exact apart_types o0 o3 (by decide) k hk hk'
        | exact apart_types o3 o0 (by decide) k hk hk'
        | exact apart_types o0 o4 (by decide) k hk hk'
        | exact apart_types o4 o0 (by decide) k hk hk'
        | exact apart_types o1 o2 (by decide) k hk hk'
        | exact apart_types o2 o1 (by decide) k hk hk'
        | exact apart_types o1 o3 (by decide) k hk hk'
        | exact apart_types o3 o1 (by decide) k hk hk'
        | exact apart_types o1 o4 (by decide) k hk hk'
        | exact apart_types o4 o1 (by decide) k hk hk'
        | exact apart_types o2 o3 (by decide) k hk hk'
        | exact apart_types o3 o2 (by decide) k hk hk'
        | exact apart_types o2 o4 (by decide) k hk hk'
        | exact apart_types o4 o2 (by decide) k hk hk'
        | exact apart_types o3 o4 (by decide) k hk hk'
        | exact apart_types o4 o3 (by decide) k hk hk'
        | exact apart_types o0 (r2o _ _ _ hu2 hx2) (by decide) k hk hk'
        | exact apart_types o1 (r2o _ _ _ hu2 hx2) (by decide) k hk hk'
        | exact apart_types o2 (r2o _ _ _ hu2 hx2) (by decide) k hk hk'
        | exact apart_types o4 (r2o _ _ _ hu2 hx2) (by decide) k hk hk'
        | exact apart_types (r2o _ _ _ hu1 hx1) o0 (by decide) k hk hk'
        | exact apart_types (r2o _ _ _ hu1 hx1) o1 (by decide) k hk hk'
        | exact apart_types (r2o _ _ _ hu1 hx1) o2 (by decide) k hk hk'
        | exact apart_types (r2o _ _ _ hu1 hx1) o4 (by decide) k hk hk'
        | exact a23 j1 u2 hu2 k hk' hk
        | exact a23 i1 u1 hu1 k hk hk'
        | exact a2 i1 j1 u1 u2 (fun e => hij (by rw [hi, hj, e])) hu1 hu2 k hk hk'
  · obtain ⟨hj, _⟩ := List.getElem?_eq_some_iff.1 hv
    have hx : s.bf[j]? = some (s.bf[j]'(by omega)) := List.getElem?_eq_getElem _
    obtain ⟨A, c, hv'⟩ := Kd.R_slice (r4 j v _ hv hx)
    rw [he _ (List.mem_of_getElem? hx)] at hv'
    exact ⟨A, c, hv'⟩
end Go.Proofs.Ytemhpbdlonfikaa.P
/- A final state's values, put one behind the other into an array in memory. -/
namespace Go.Proofs.Ytemhpbdlonfikaa.P
open Go Go.RowKit Go.Proofs.YtemhpbdlonfikaaW.PrintWords Go.Proofs.YtemhpbdlonfikaaW.PrintLast Go.Proofs.YtemhpbdlonfikaaW.PrintMore

section
variable {w W : World} {rows : List Rw} {cells : List (Nat × TypeId × Array Value)}
theorem heap_set {W : World} {g i : Nat} {vs : Array Value} {u : Value} {t : TypeId} (h : W.heap[g]? = some (.cells vs t (0, 0))) : (W.setCell ⟨g, i, none⟩ u).heap[g]? = some (.cells (vs.setIfInBounds i u) t (0, 0)) := by
  obtain ⟨hb, he⟩ := Array.getElem?_eq_some_iff.1 h
  unfold World.setCell
  simp [Array.getElem?_modify, h]
theorem Bag.setCell {g i : Nat} {t : TypeId} {vs : Array Value} (h : Bag w rows ((g, t, vs) :: cells) W) (hne : ∀ c ∈ cells, c.1 ≠ g) (u : Value) :
    Bag w rows ((g, t, vs.setIfInBounds i u) :: cells) (W.setCell ⟨g, i, none⟩ u) := by
  have hc := h.cell (g, t, vs) (by simp)
  have hg : W.grownBy (W.setCell ⟨g, i, none⟩ u) (some g) := ⟨rfl, rfl, rfl, by unfold World.setCell; simp, fun k hk hne => by
    unfold World.setCell
    simp only [Array.getElem?_modify]
    rw [if_neg (fun e => hne (by rw [← e]))]⟩
  refine ⟨fun j r hj => ?_, h.apart, fun c hcc => ?_, fun c hcc j r hj => ?_, h.below.grown hg h.below.size (fun k e => by cases e; exact hc.1)⟩
  · refine (h.row j r hj).kept hg ?_
    cases hq : r.v.ownBlock with
    | none => exact .inl rfl
    | some k => exact .inr fun e => h.away (g, t, vs) (by simp) j r hj (by rw [hq, ← e])
  · rcases List.mem_cons.1 hcc with rfl | hcc
    · exact ⟨hc.1, heap_set hc.2⟩
    · refine ⟨(h.cell c (by simp [hcc])).1, ?_⟩
      exact (hg.block c.1 (h.cell_lt (by simp [hcc])) (fun e => hne c hcc (Option.some.inj e))).trans (h.cell c (by simp [hcc])).2
  · rcases List.mem_cons.1 hcc with rfl | hcc
    · exact h.away (g, t, vs) (by simp) j r hj
    · exact h.away c (by simp [hcc]) j r hj
/-- A whole block is stored. -/
theorem Bag.setAll {g : Nat} {t : TypeId} {vs vs' : Array Value} (h : Bag w rows ((g, t, vs) :: cells) W) (hne : ∀ c ∈ cells, c.1 ≠ g) :
    Bag w rows ((g, t, vs') :: cells) (W.setRow g vs') := by
  have hc := h.cell (g, t, vs) (by simp)
  have hh : (W.setRow g vs').heap[g]? = some (.cells vs' t (0, 0)) := setRow_heap W g vs _ t _ hc.2
  have hg : W.grownBy (W.setRow g vs') (some g) := ⟨rfl, rfl, rfl, by unfold World.setRow; simp, fun k hk hne => by
    unfold World.setRow
    simp only [Array.getElem?_modify]
    rw [if_neg (fun e => hne (by rw [← e]))]⟩
  refine ⟨fun j r hj => ?_, h.apart, fun c hcc => ?_, fun c hcc j r hj => ?_, h.below.grown hg h.below.size (fun k e => by cases e; exact hc.1)⟩
  · refine (h.row j r hj).kept hg ?_
    cases hq : r.v.ownBlock with
    | none => exact .inl rfl
    | some k => exact .inr fun e => h.away (g, t, vs) (by simp) j r hj (by rw [hq, ← e])
  · rcases List.mem_cons.1 hcc with rfl | hcc
    · exact ⟨hc.1, hh⟩
    · refine ⟨(h.cell c (by simp [hcc])).1, ?_⟩
      exact (hg.block c.1 (h.cell_lt (by simp [hcc])) (fun e => hne c hcc (Option.some.inj e))).trans (h.cell c (by simp [hcc])).2
  · rcases List.mem_cons.1 hcc with rfl | hcc
    · exact h.away (g, t, vs) (by simp) j r hj
    · exact h.away c (by simp [hcc]) j r hj
theorem Bag.perm {cells' : List (Nat × TypeId × Array Value)} (h : Bag w rows cells W) (hs : ∀ c ∈ cells', c ∈ cells) : Bag w rows cells' W :=
  ⟨h.row, h.apart, fun c hc => h.cell c (hs c hc), fun c hc => h.away c (hs c hc), h.below⟩
end

/-- One value more; no more than 48. -/
def putL (l : List Int) (x : Int) : List Int := if l.length = 48 then l else l ++ [x]
def putAll (l : List Int) (xs : List Int) : List Int := xs.foldl putL l
/-- A final state's cells. -/
def finV (l : List Int) : List Value := .int .i64 l.length :: nums .i64 (l ++ List.replicate (48 - l.length) 0)
theorem finV_length {l : List Int} (h : l.length ≤ 48) : (finV l).length = 49 := by simp [finV, nums]; omega
theorem putL_le {l : List Int} {x : Int} (h : l.length ≤ 48) : (putL l x).length ≤ 48 := by
  unfold putL
  split
  · exact h
  · simp; omega
theorem putAll_le {l : List Int} (xs : List Int) : l.length ≤ 48 → (putAll l xs).length ≤ 48 := by
  induction xs generalizing l with
  | nil => exact fun h => h
  | cons x xs ih => exact fun h => ih (putL_le h)
theorem info32 : (Try.prog.info? 32).map (·.size) = some 49 := by kernel_rfl
theorem finV_one (l : List Int) : (finV l).toArray.all (·.oneCell') = true := by
  rw [List.all_toArray]
  refine List.all_eq_true.2 fun v hv => ?_
  unfold finV at hv
  rcases List.mem_cons.1 hv with rfl | hv
  · rfl
  · obtain ⟨x, _, rfl⟩ := List.mem_map.1 hv
    rfl
theorem finV_size {l : List Int} (h : l.length ≤ 48) : (Try.prog.info? 32).map (·.size) = some (finV l).toArray.size := by rw [info32, List.size_toArray, finV_length h]
theorem finV_at0 (l : List Int) : (finV l).toArray[0]? = some (.int .i64 l.length) := rfl
/-- The value that is put, then the count. -/
theorem finV_put {l : List Int} (h : l.length < 48) (x : Int) : ((finV l).toArray.setIfInBounds (1 + l.length) (.int .i64 x)).setIfInBounds 0 (.int .i64 ((l.length : Int) + 1)) = (finV (l ++ [x])).toArray := by
  have e : List.replicate (48 - l.length) (0 : Int) = 0 :: List.replicate (48 - (l.length + 1)) 0 := by
    rw [show 48 - l.length = (48 - (l.length + 1)) + 1 by omega]; rfl
  unfold finV
  rw [e]
  simp only [List.setIfInBounds_toArray, Nat.add_comm 1, List.set_cons_succ, List.set_cons_zero, nums, List.length_append, List.length_singleton]
  congr 2
  simp [List.map_append]
theorem finV_put0 {l : List Int} (h : l.length < 48) : (finV l).toArray.setIfInBounds 0 (.int .i64 ((l.length : Int) + 1)) = (finV (l ++ [0])).toArray := by
  have e : List.replicate (48 - l.length) (0 : Int) = 0 :: List.replicate (48 - (l.length + 1)) 0 := by
    rw [show 48 - l.length = (48 - (l.length + 1)) + 1 by omega]; rfl
  unfold finV
  rw [e]
  simp only [List.setIfInBounds_toArray, List.set_cons_zero, nums, List.length_append, List.length_singleton]
  congr 2
  simp [List.map_append]

set_option maxHeartbeats 2000000 in
set_option maxRecDepth 100000 in
theorem final_put.calls {w W : World} {rows : List Rw} {cells : List (Nat × TypeId × Array Value)} {g : Nat} {l : List Int} (hb : Bag w rows ((g, 32, (finV l).toArray) :: cells) W) (hne : ∀ c ∈ cells, c.1 ≠ g) (hl : l.length ≤ 48)
    {A : Option Addr} {c : Nat} {r : List Int} {i : Int} (hr : Kd.C (Kd.int .i64) W A r.length r) (hi : 0 ≤ i) :
    Calls Try.prog 108 #[.slice A r.length c, .int .i64 i, .pointer (some ⟨g, 0, none⟩)] W fun e W' => e = .returned (.tuple #[]) ∧ Bag w rows ((g, 32, (finV (putL l (rd r i))).toArray) :: cells) W' := by
  have hu32 := Try.underlying32
  have hu30 := Try.underlying30
  obtain ⟨c0, f0⟩ := hb.cellOf (c := (g, 32, (finV l).toArray)) (List.mem_cons_self) 0 _ (finV_at0 l)
  have HB := Aside0.mk hb
  have HR := Aside0.mk hr
  clear hb hr
  obtain ⟨n, hn⟩ : ∃ n : Nat, l.length = n := ⟨_, rfl⟩
  rw [hn] at c0 hl
  have HN := Aside0.mk hn
  clear hn
  by_cases h48 : n = 48
  · have hq : ((n : Int) == 48) = true := beq_iff_eq.2 (by omega)
    go_enter Try.func108, Try.ntmps108
    go_wp2
    (try simp only [Exit.inBlock, Exit.then])
    refine bodyPost_ret (results_none rfl _ _ _) rfl ?_
    refine ⟨rfl, ?_⟩
    unfold putL
    rw [if_pos (by rw [HN.out]; exact h48)]
    exact HB.out
  · have hq : ((n : Int) == 48) = false := beq_eq_false_iff_ne.2 (by omega)
    have hlt : (n : Int) < 48 := by omega
    have hP : Aside0 (putL l (rd r i) = l ++ [rd r i]) := ⟨by unfold putL; rw [if_neg (by rw [HN.out]; exact h48)]⟩
    have hL : Aside0 (l.length < 48) := ⟨by rw [HN.out]; omega⟩
    have hw : wrap64 ((n : Int) + 1) = n + 1 := by unfold wrap64; omega
    by_cases hir : i < r.length
    · have hd : decide (i < (r.length : Int)) = true := decide_eq_true hir
      obtain ⟨ad, rfl, hx⟩ := Kd.at_int HR.out i hi hir
      have hv : W.cell? ⟨g, 1 + n, none⟩ = some (.int .i64 0) := by
        rw [← HN.out]
        refine (HB.out.cellOf (c := (g, 32, (finV l).toArray)) (List.mem_cons_self) (1 + l.length) _ ?_).1
        have := hL.out
        simp only [finV, List.getElem?_toArray, Nat.add_comm 1, List.getElem?_cons_succ, nums, List.getElem?_map]
        rw [List.getElem?_append_right (Nat.le_refl _), Nat.sub_self, List.getElem?_replicate, if_pos (by omega)]
        rfl
      have fv : W.frozen? ⟨g, 1 + n, none⟩ = false := by simp [World.frozen?, (HB.out.cell _ (List.mem_cons_self)).2]
      go_enter Try.func108, Try.ntmps108
      go_wp2
      go_region
      all_goals go_wp2
      all_goals go_end0
      refine ⟨rfl, ?_⟩
      have h1 := ((HB.out.setCell (i := 1 + l.length) hne (.int .i64 (rd r i))).setCell (i := 0) hne (.int .i64 ((l.length : Int) + 1))).drew
      rw [finV_put hL.out, ← hP.out, HN.out] at h1
      exact h1
    · have hd : decide (i < (r.length : Int)) = false := decide_eq_false hir
      go_enter Try.func108, Try.ntmps108
      go_wp2
      go_end0
      refine ⟨rfl, ?_⟩
      have h1 := HB.out.setCell (i := 0) hne (.int .i64 ((l.length : Int) + 1))
      have hz : rd r i = 0 := by unfold rd; rw [List.getD_eq_getElem?_getD, List.getElem?_eq_none (by omega)]; rfl
      have hP2 := hP.out
      rw [hz] at hP2 ⊢
      rw [finV_put0 hL.out, ← hP2, HN.out] at h1
      exact h1
end Go.Proofs.Ytemhpbdlonfikaa.P
/- prog.final: the final state with some registers and a memory. -/
namespace Go.Proofs.Ytemhpbdlonfikaa.P
open Go Go.RowKit Go.Proofs.YtemhpbdlonfikaaW.PrintWords Go.Proofs.YtemhpbdlonfikaaW.PrintLast Go.Proofs.YtemhpbdlonfikaaW.PrintMore

/-- The first m numbers of a list; 0 where there is none. -/
def rowL (r : List Int) (m : Nat) : List Int := (List.range m).map fun (k : Nat) => rd r k
/-- The registers' values of the first n threads. -/
def regsL (names : List (List ByteArray)) (rg : List (List Int)) (n : Nat) : List Int := (List.range n).foldl (fun l (i : Nat) => putAll l (rowL (rd_L5 rg i) (rd_L4 names i).length)) []
/-- A final state's values. -/
def finM (names : List (List ByteArray)) (nl : Nat) (rg : List (List Int)) (me : List Int) : List Int := putAll (regsL names rg names.length) (rowL me nl)
theorem putAll_row (l r : List Int) (k : Nat) : putAll l (rowL r (k + 1)) = putL (putAll l (rowL r k)) (rd r k) := by
  unfold putAll rowL
  rw [List.range_succ, List.map_append, List.foldl_append]; rfl
theorem regsL_succ (names : List (List ByteArray)) (rg : List (List Int)) (i : Nat) : regsL names rg (i + 1) = putAll (regsL names rg i) (rowL (rd_L5 rg i) (rd_L4 names i).length) := by
  unfold regsL
  rw [List.range_succ, List.foldl_append]; rfl
theorem regsL_le (names : List (List ByteArray)) (rg : List (List Int)) (n : Nat) : (regsL names rg n).length ≤ 48 := by
  induction n with
  | zero => exact Nat.zero_le _
  | succ n ih => rw [regsL_succ]; exact putAll_le _ ih

theorem wrap_succ {k n : Nat} (h : k < n) (hn : n ≤ 9223372036854775807) : wrap64 ((k : Int) + 1) = ((k + 1 : Nat) : Int) := by unfold wrap64; omega
theorem sub_succ {k n : Nat} (h : k < n) : n - (intOf (.int .i64 ((k + 1 : Nat) : Int))).toNat < n - (intOf (.int .i64 (k : Int))).toNat := by simp [intOf]; omega
theorem apart2 (n : Nat) (t u : TypeId) (x y : Array Value) : ∀ c ∈ [(n + 1, t, x), (n, u, y)], c.1 ≠ n + 1 + 1 := by
  intro c hc
  simp only [List.mem_cons, List.not_mem_nil, or_false] at hc
  rcases hc with rfl | rfl
  · show n + 1 ≠ n + 1 + 1
    omega
  · show n ≠ n + 1 + 1
    omega

set_option maxHeartbeats 4000000 in
set_option maxRecDepth 100000 in
theorem prog_final.calls {w : World} {p : Pg} {pv : List Value} (hp : PgV w pv p) {Ar Am : Option Addr} {cr cm : Nat} {rg : List (List Int)} {me : List Int} (hr : Kd.C (Kd.slice 2 (Kd.int .i64)) w Ar rg.length rg) (hm : Kd.C (Kd.int .i64) w Am me.length me) :
    Calls Try.prog 84 #[.agg pv.toArray, .slice Ar rg.length cr, .slice Am me.length cm] w fun e W' => e = .returned (.agg (finV (finM p.rg p.lo.length rg me)).toArray) ∧ Below w.heap.size w W' := by
  obtain ⟨A0, A1, A2, A3, A4, c0, c1, c2, c3, c4, rfl, _, _, h1, _, h2, _, _, _, _, _⟩ := hp
  have hu28 := Try.underlying28
  have hu32 := Try.underlying32
  have hu30 := Try.underlying30
  have hmf : ∀ (fn : Fn) (first cap : Array Value) (w : World), (Instr.makeFunc fn first cap).run Try.prog w = .ok (.func fn first cap) w := fun _ _ _ _ => rfl
  have H1 := Aside0.mk h1
  have H2 := Aside0.mk h2
  have HR := Aside0.mk hr
  have HM := Aside0.mk hm
  have hb0 := (((Bag.nil w).fresh 28 #[.slice A0 p.th.length c0, .slice A1 p.rg.length c1, .slice A2 p.lo.length c2, .slice A3 p.r0.length c3, .slice A4 p.m0.length c4]).fresh 32 (finV []).toArray).fresh 32 (finV []).toArray
  have z1 : (w.alloc (.cells #[.slice A0 p.th.length c0, .slice A1 p.rg.length c1, .slice A2 p.lo.length c2, .slice A3 p.r0.length c3, .slice A4 p.m0.length c4] 28)).heap.size = w.heap.size + 1 := by simp
  have z2 : ((w.alloc (.cells #[.slice A0 p.th.length c0, .slice A1 p.rg.length c1, .slice A2 p.lo.length c2, .slice A3 p.r0.length c3, .slice A4 p.m0.length c4] 28)).alloc (.cells (finV []).toArray 32)).heap.size = w.heap.size + 1 + 1 := by simp
  rw [z1, z2] at hb0
  have HB0 := Aside0.mk hb0
  clear h1 h2 hr hm z1 z2 hb0
  go_enter Try.func84, Try.ntmps84
  go_upto_region 3 with fail
  generalize hW : World.alloc (World.alloc (World.alloc w _) _) _ = W3
  have HB : Aside0 (Bag w [] [(w.heap.size + 1 + 1, 32, (finV (regsL p.rg rg 0)).toArray), (w.heap.size + 1, 32, (finV []).toArray), (w.heap.size, 28, #[.slice A0 p.th.length c0, .slice A1 p.rg.length c1, .slice A2 p.lo.length c2, .slice A3 p.r0.length c3, .slice A4 p.m0.length c4])] W3) := ⟨by rw [← hW]; exact HB0.out⟩
  clear hW HB0
  have HNE := Aside0.mk (apart2 w.heap.size 32 28 (finV []).toArray #[.slice A0 p.th.length c0, .slice A1 p.rg.length c1, .slice A2 p.lo.length c2, .slice A3 p.r0.length c3, .slice A4 p.m0.length c4])
  generalize w.heap.size + 1 + 1 = g2 at HB HNE ⊢
  obtain ⟨b1, _⟩ := HB.out.cellOf (c := (w.heap.size, 28, _)) (List.mem_cons_of_mem _ (List.mem_cons_of_mem _ List.mem_cons_self)) 1 _ rfl
  go_wp2
  go_loopw [18] (fun v W => ∃ i : Nat, v = .int .i64 i ∧ i ≤ p.rg.length ∧ Aside0 (Bag w [] [(g2, 32, (finV (regsL p.rg rg i)).toArray), (w.heap.size + 1, 32, (finV []).toArray), (w.heap.size, 28, #[.slice A0 p.th.length c0, .slice A1 p.rg.length c1, .slice A2 p.lo.length c2, .slice A3 p.r0.length c3, .slice A4 p.m0.length c4])] W)) (fun v _ => p.rg.length - (intOf v).toNat)
  case atStart => exact ⟨0, rfl, Nat.zero_le _, HB⟩
  case round =>
    clear HB b1
    obtain ⟨i, rfl, hi, HB⟩ := hrel
    by_cases hlt : i < p.rg.length
    · obtain ⟨ad, An, cn, rfl, n0, _, nC⟩ := at_L4 H1.out (i : Int) (by omega) (by omega)
      have n1 := pw_cell_below HB.out.below n0
      rw [Int.toNat_natCast] at n1
      have hrow : ∃ (Ai : Option Addr) (ci : Nat), Kd.C (Kd.int .i64) w Ai (rd_L5 rg i).length (rd_L5 rg i) ∧ ((i < rg.length ∧ ∃ br, Ar = some br ∧ wr.cell? (br.add i) = some (.slice Ai (rd_L5 rg i).length ci)) ∨ (¬ i < rg.length ∧ (rd_L5 rg i).length = 0 ∧ Ai = none ∧ ci = 0)) := by
        by_cases hir : i < rg.length
        · obtain ⟨br, Ai, ci, e1, e2, _, e4⟩ := at_L5 HR.out (i : Int) (by omega) (by omega)
          rw [Int.toNat_natCast] at e2
          exact ⟨Ai, ci, e4, .inl ⟨hir, br, e1, pw_cell_below HB.out.below e2⟩⟩
        · have e : rd_L5 rg i = [] := by unfold rd_L5; rw [List.getD_eq_getElem?_getD, Int.toNat_natCast, List.getElem?_eq_none (by omega)]; rfl
          exact ⟨none, 0, by rw [e]; exact Kd.C_nil _ _, .inr ⟨hir, by rw [e]; rfl, rfl, rfl⟩⟩
      obtain ⟨Ai, ci, hC, hw⟩ := hrow
      obtain ⟨r, hr⟩ : ∃ r, rd_L5 rg i = r := ⟨_, rfl⟩
      obtain ⟨m, hm⟩ : ∃ m, (rd_L4 p.rg i).length = m := ⟨_, rfl⟩
      rw [hr] at hC hw
      rw [hm] at n1
      have hmx := Kd.C_max nC
      rw [hm] at hmx
      have HMX := Aside0.mk hmx
      clear nC hmx
      have HRI := Aside0.mk hr
      have HMI := Aside0.mk hm
      have HC := Aside0.mk hC
      have HBW := Aside0.mk HB.out.below
      clear hr hm hC n0
      go_upto_if 26 with fail
      go_cut [11] (fun v wx => v = .slice Ai r.length ci ∧ wx = wr)
      case first =>
        rcases hw with ⟨h1, br, rfl, h2⟩ | ⟨h1, h2, rfl, rfl⟩
        · have hd : decide (i < rg.length) = true := decide_eq_true h1
          go_wp2
          go_meet
          exact ⟨rfl, rfl⟩
        · have hd : decide (i < rg.length) = false := decide_eq_false h1
          go_wp2
          go_meet
          exact ⟨by rw [h2], rfl⟩
      case rest =>
        obtain ⟨rfl, rfl⟩ := hcut
        clear hw
        go_wp2
        go_loopw [33] (fun v W => ∃ k : Nat, v = .int .i64 k ∧ k ≤ m ∧ Aside0 (Bag w [] [(g2, 32, (finV (putAll (regsL p.rg rg i) (rowL r k))).toArray), (w.heap.size + 1, 32, (finV []).toArray), (w.heap.size, 28, #[.slice A0 p.th.length c0, .slice (some ad) p.rg.length c1, .slice A2 p.lo.length c2, .slice A3 p.r0.length c3, .slice A4 p.m0.length c4])] W)) (fun v _ => m - (intOf v).toNat)
        case atStart => exact ⟨0, rfl, Nat.zero_le _, HB⟩
        case round =>
          clear HB HBW
          obtain ⟨k, rfl, hk, HB⟩ := hrel
          by_cases hkm : k < m
          · have hL := Aside0.mk (putAll_le (rowL r k) (regsL_le p.rg rg i))
            have hS := Aside0.mk (putAll_row (regsL p.rg rg i) r k)
            go_wp2_with (go_at_call 108; (with_reducible refine (final_put.calls (r := r) (i := (k : Int)) HB.out HNE.out hL.out (Kd.C_below HC.out HB.out.below) (Int.natCast_nonneg k)).mono ?_); rintro e w5 ⟨rfl, hb5⟩; rw [← hS.out] at hb5; have HB5 := Aside0.mk hb5; clear hb5)
            have hw := wrap_succ hkm HMX.out
            go_roundw
            case rel => exact ⟨k + 1, by rw [hw], hkm, HB5⟩
            case measure => rw [hw]; exact sub_succ (by assumption)
          · have hkE : k = m := by omega
            subst hkE
            have hE := Aside0.mk (regsL_succ p.rg rg i)
            rw [HRI.out, HMI.out] at hE
            rw [← hE.out] at HB
            go_wp2
            have hw := wrap_succ hlt (Kd.C_max H1.out)
            go_roundw
            case rel => exact ⟨i + 1, by rw [hw], hlt, HB⟩
            case measure => rw [hw]; exact sub_succ (by assumption)
    · have hiE : i = p.rg.length := by omega
      subst hiE
      obtain ⟨b2, _⟩ := HB.out.cellOf (c := (w.heap.size, 28, _)) (List.mem_cons_of_mem _ (List.mem_cons_of_mem _ List.mem_cons_self)) 2 _ rfl
      clear hlt
      go_upto_region 16 with fail
      go_loopw [45] (fun v W => ∃ k : Nat, v = .int .i64 k ∧ k ≤ p.lo.length ∧ Aside0 (Bag w [] [(g2, 32, (finV (putAll (regsL p.rg rg p.rg.length) (rowL me k))).toArray), (w.heap.size + 1, 32, (finV []).toArray), (w.heap.size, 28, #[.slice A0 p.th.length c0, .slice A1 p.rg.length c1, .slice A2 p.lo.length c2, .slice A3 p.r0.length c3, .slice A4 p.m0.length c4])] W)) (fun v _ => p.lo.length - (intOf v).toNat)
      case atStart => exact ⟨0, rfl, Nat.zero_le _, HB⟩
      case round =>
        clear HB
        obtain ⟨k, rfl, hk, HB⟩ := hrel
        by_cases hkm : k < p.lo.length
        · have hL := Aside0.mk (putAll_le (rowL me k) (regsL_le p.rg rg p.rg.length))
          have hS := Aside0.mk (putAll_row (regsL p.rg rg p.rg.length) me k)
          go_wp2_with (go_at_call 108; (with_reducible refine (final_put.calls (r := me) (i := (k : Int)) HB.out HNE.out hL.out (Kd.C_below HM.out HB.out.below) (Int.natCast_nonneg k)).mono ?_); rintro e w5 ⟨rfl, hb5⟩; rw [← hS.out] at hb5; have HB5 := Aside0.mk hb5; clear hb5)
          have hw := wrap_succ hkm (Kd.C_max H2.out)
          go_roundw
          case rel => exact ⟨k + 1, by rw [hw], hkm, HB5⟩
          case measure => rw [hw]; exact sub_succ (by assumption)
        · have hkE : k = p.lo.length := by omega
          subst hkE
          clear hkm
          go_upto_region 20 with fail
          have hL := putAll_le (rowL me p.lo.length) (regsL_le p.rg rg p.rg.length)
          have hfin : putAll (regsL p.rg rg p.rg.length) (rowL me p.lo.length) = finM p.rg p.lo.length rg me := rfl
          rw [hfin] at hL HB
          have h2c := (HB.out.cell _ List.mem_cons_self).2
          have h1c := (HB.out.cell _ (List.mem_cons_of_mem _ List.mem_cons_self)).2
          have hB2 := (HB.out.perm (cells' := [(w.heap.size + 1, (32 : TypeId), (finV []).toArray)]) (fun c hc => by rw [List.mem_singleton.1 hc]; exact List.mem_cons_of_mem _ List.mem_cons_self)).setAll (vs' := (finV (finM p.rg p.lo.length rg me)).toArray) (fun c hc => by cases hc)
          apply wp_region_lit
          refine wpList_load_row rfl 32 (.tmp 7) rfl g2 rfl 32 _ (0, 0) _ h2c hu32 rfl (finV_size hL) ?_
          refine wpList_store_row rfl 32 (.tmp 6) (.tmp 53) rfl (w.heap.size + 1) _ rfl rfl 32 _ h1c (finV_size hL) (by rw [List.size_toArray, List.size_toArray, finV_length hL, finV_length (Nat.zero_le _)]) (finV_one _) ?_
          apply wpList_nil
          go_wp2
          refine bodyPost_ret (results_cell_row rfl _ _ (w.heap.size + 1) 32 _ (0, 0) _ rfl (hB2.cell _ List.mem_cons_self).2 hu32 rfl (finV_size hL)) rfl ⟨rfl, hB2.below⟩
end Go.Proofs.Ytemhpbdlonfikaa.P
/- prog.First and sc.final: the final state of a program's own values, and of a state. -/
namespace Go.Proofs.Ytemhpbdlonfikaa.P
open Go Go.RowKit Go.Proofs.YtemhpbdlonfikaaW.PrintWords Go.Proofs.YtemhpbdlonfikaaW.PrintLast Go.Proofs.YtemhpbdlonfikaaW.PrintMore

theorem finM_le (names : List (List ByteArray)) (nl : Nat) (rg : List (List Int)) (me : List Int) : (finM names nl rg me).length ≤ 48 := putAll_le _ (regsL_le _ _ _)
theorem finV_sizes {l l' : List Int} (h : l.length ≤ 48) (h' : l'.length ≤ 48) : (finV l).toArray.size = (finV l').toArray.size := by rw [List.size_toArray, List.size_toArray, finV_length h, finV_length h']

set_option maxHeartbeats 4000000 in
set_option maxRecDepth 100000 in
theorem prog_First.calls {w : World} {p : Pg} {pv : List Value} (hp : PgV w pv p) :
    Calls Try.prog 86 #[.agg pv.toArray] w fun e W' => e = .returned (.agg (finV (finM p.rg p.lo.length p.r0 p.m0)).toArray) ∧ Below w.heap.size w W' := by
  have HP := Aside0.mk hp
  obtain ⟨A0, A1, A2, A3, A4, c0, c1, c2, c3, c4, rfl, _, _, _, _, _, _, h3, _, h4, _⟩ := hp
  have hu28 := Try.underlying28
  have hu32 := Try.underlying32
  have H3 := Aside0.mk h3
  have H4 := Aside0.mk h4
  obtain ⟨px, hpx⟩ : ∃ px : Array Value, px = #[.slice A0 p.th.length c0, .slice A1 p.rg.length c1, .slice A2 p.lo.length c2, .slice A3 p.r0.length c3, .slice A4 p.m0.length c4] := ⟨_, rfl⟩
  have hb0 := ((Bag.nil w).fresh 28 #[.slice A0 p.th.length c0, .slice A1 p.rg.length c1, .slice A2 p.lo.length c2, .slice A3 p.r0.length c3, .slice A4 p.m0.length c4]).fresh 32 (finV []).toArray
  have z1 : (w.alloc (.cells #[.slice A0 p.th.length c0, .slice A1 p.rg.length c1, .slice A2 p.lo.length c2, .slice A3 p.r0.length c3, .slice A4 p.m0.length c4] 28)).heap.size = w.heap.size + 1 := by simp
  rw [z1] at hb0
  have HB0 := Aside0.mk hb0
  clear h3 h4 z1 hb0
  go_enter Try.func86, Try.ntmps86
  go_upto_region 1 with fail
  generalize hW : World.alloc (World.alloc w _) _ = W3
  have HB : Aside0 (Bag w [] [(w.heap.size + 1, 32, (finV []).toArray), (w.heap.size, 28, px)] W3) := ⟨by rw [← hW, hpx]; exact HB0.out⟩
  have hm : (w.heap.size, (28 : TypeId), px) ∈ [(w.heap.size + 1, (32 : TypeId), (finV []).toArray), (w.heap.size, 28, px)] := List.mem_cons_of_mem _ List.mem_cons_self
  obtain ⟨b0, _⟩ := HB.out.cellOf hm 0 (.slice A0 p.th.length c0) (by rw [hpx]; rfl)
  obtain ⟨b1, _⟩ := HB.out.cellOf hm 1 (.slice A1 p.rg.length c1) (by rw [hpx]; rfl)
  obtain ⟨b2, _⟩ := HB.out.cellOf hm 2 (.slice A2 p.lo.length c2) (by rw [hpx]; rfl)
  obtain ⟨b3, _⟩ := HB.out.cellOf hm 3 (.slice A3 p.r0.length c3) (by rw [hpx]; rfl)
  obtain ⟨b4, _⟩ := HB.out.cellOf hm 4 (.slice A4 p.m0.length c4) (by rw [hpx]; rfl)
  clear hW HB0 hm hpx
  have hL := Aside0.mk (finM_le p.rg p.lo.length p.r0 p.m0)
  go_wp2_with (first
    | (go_at_call 84; (with_reducible refine (prog_final.calls (HP.out.below HB.out.below) (Kd.C_below H3.out HB.out.below) (Kd.C_below H4.out HB.out.below)).mono ?_); rintro e w5 ⟨rfl, hb5⟩; have HB5 := Aside0.mk (HB.out.later hb5); have h5 := (HB5.out.cell _ List.mem_cons_self).2; clear hb5)
    | (refine wpList_store_row rfl 32 (.tmp 2) (.tmp 8) rfl (w.heap.size + 1) _ rfl rfl 32 _ h5 (finV_size hL.out) (finV_sizes (Nat.zero_le _) hL.out) (finV_one _) ?_))
  have hB6 := (HB5.out.perm (cells' := [(w.heap.size + 1, (32 : TypeId), (finV []).toArray)]) (fun c hc => by rw [List.mem_singleton.1 hc]; exact List.mem_cons_self)).setAll (vs' := (finV (finM p.rg p.lo.length p.r0 p.m0)).toArray) (fun c hc => by cases hc)
  refine bodyPost_ret (results_cell_row rfl _ _ (w.heap.size + 1) 32 _ (0, 0) _ rfl (hB6.cell _ List.mem_cons_self).2 hu32 rfl (finV_size hL.out)) rfl ⟨rfl, hB6.below⟩

set_option maxHeartbeats 4000000 in
set_option maxRecDepth 100000 in
theorem sc_final.calls {w : World} {p : Pg} {s : St} {pv sv : List Value} (hp : PgV w pv p) (hs : StV w sv s) :
    Calls Try.prog 42 #[.agg pv.toArray, .agg sv.toArray] w fun e W' => e = .returned (.agg (finV (finM p.rg p.lo.length s.rg s.me)).toArray) ∧ Below w.heap.size w W' := by
  obtain ⟨A0, A1, A2, A3, A4, c0, c1, c2, c3, c4, rfl, _, _, h1, l1, h2, l2, h3, _, h4, _⟩ := hp
  obtain ⟨B0, B1, B2, B3, B4, d0, d1, d2, d3, d4, rfl, _, _, _, _, k2, m2, k3, m3, _, _⟩ := hs
  have hu28 := Try.underlying28
  have hu42 := Try.underlying42
  have hu32 := Try.underlying32
  have HP : Aside0 (PgV w [.slice none 0 0, .slice A1 p.rg.length c1, .slice A2 p.lo.length c2, .slice B2 s.rg.length d2, .slice B3 s.me.length d3] ⟨[], p.rg, p.lo, s.rg, s.me⟩) := ⟨⟨none, A1, A2, B2, B3, 0, c1, c2, d2, d3, rfl, Kd.C_nil _ _, Nat.le_refl _, h1, l1, h2, l2, k2, m2, k3, m3⟩⟩
  obtain ⟨px, hpx⟩ : ∃ px : Array Value, px = #[.slice A0 p.th.length c0, .slice A1 p.rg.length c1, .slice A2 p.lo.length c2, .slice A3 p.r0.length c3, .slice A4 p.m0.length c4] := ⟨_, rfl⟩
  obtain ⟨sx, hsx⟩ : ∃ sx : Array Value, sx = #[.slice B0 s.p.length d0, .slice B1 s.q.length d1, .slice B2 s.rg.length d2, .slice B3 s.me.length d3, .slice B4 s.bf.length d4, .int .i64 s.lk] := ⟨_, rfl⟩
  have hb0 := (((Bag.nil w).fresh 28 #[.slice A0 p.th.length c0, .slice A1 p.rg.length c1, .slice A2 p.lo.length c2, .slice A3 p.r0.length c3, .slice A4 p.m0.length c4]).fresh 42 #[.slice B0 s.p.length d0, .slice B1 s.q.length d1, .slice B2 s.rg.length d2, .slice B3 s.me.length d3, .slice B4 s.bf.length d4, .int .i64 s.lk]).fresh 32 (finV []).toArray
  have z1 : (w.alloc (.cells #[.slice A0 p.th.length c0, .slice A1 p.rg.length c1, .slice A2 p.lo.length c2, .slice A3 p.r0.length c3, .slice A4 p.m0.length c4] 28)).heap.size = w.heap.size + 1 := by simp
  have z2 : ((w.alloc (.cells #[.slice A0 p.th.length c0, .slice A1 p.rg.length c1, .slice A2 p.lo.length c2, .slice A3 p.r0.length c3, .slice A4 p.m0.length c4] 28)).alloc (.cells #[.slice B0 s.p.length d0, .slice B1 s.q.length d1, .slice B2 s.rg.length d2, .slice B3 s.me.length d3, .slice B4 s.bf.length d4, .int .i64 s.lk] 42)).heap.size = w.heap.size + 1 + 1 := by simp
  rw [z1, z2] at hb0
  have HB0 := Aside0.mk hb0
  clear h1 h2 h3 h4 z1 z2 hb0 k2 k3
  go_enter Try.func42, Try.ntmps42
  go_upto_region 1 with fail
  generalize hW : World.alloc (World.alloc (World.alloc w _) _) _ = W3
  have HB : Aside0 (Bag w [] [(w.heap.size + 1 + 1, 32, (finV []).toArray), (w.heap.size + 1, 42, sx), (w.heap.size, 28, px)] W3) := ⟨by rw [← hW, hpx, hsx]; exact HB0.out⟩
  have hm : (w.heap.size, (28 : TypeId), px) ∈ [(w.heap.size + 1 + 1, (32 : TypeId), (finV []).toArray), (w.heap.size + 1, 42, sx), (w.heap.size, 28, px)] := List.mem_cons_of_mem _ (List.mem_cons_of_mem _ List.mem_cons_self)
  have hm2 : (w.heap.size + 1, (42 : TypeId), sx) ∈ [(w.heap.size + 1 + 1, (32 : TypeId), (finV []).toArray), (w.heap.size + 1, 42, sx), (w.heap.size, 28, px)] := List.mem_cons_of_mem _ List.mem_cons_self
  obtain ⟨b1, _⟩ := HB.out.cellOf hm 1 (.slice A1 p.rg.length c1) (by rw [hpx]; rfl)
  obtain ⟨b2, _⟩ := HB.out.cellOf hm 2 (.slice A2 p.lo.length c2) (by rw [hpx]; rfl)
  obtain ⟨b3, _⟩ := HB.out.cellOf hm2 2 (.slice B2 s.rg.length d2) (by rw [hsx]; rfl)
  obtain ⟨b4, _⟩ := HB.out.cellOf hm2 3 (.slice B3 s.me.length d3) (by rw [hsx]; rfl)
  clear hW HB0 hm hm2 hpx hsx
  have hL := Aside0.mk (finM_le p.rg p.lo.length s.rg s.me)
  go_wp2_with (first
    | (go_at_call 86; (with_reducible refine (prog_First.calls (HP.out.below HB.out.below)).mono ?_); rintro e w5 ⟨rfl, hb5⟩; have HB5 := Aside0.mk (HB.out.later hb5); have h5 := (HB5.out.cell _ List.mem_cons_self).2; clear hb5)
    | (refine wpList_store_row rfl 32 (.tmp 4) (.tmp 14) rfl (w.heap.size + 1 + 1) _ rfl rfl 32 _ h5 (finV_size hL.out) (finV_sizes (Nat.zero_le _) hL.out) (finV_one _) ?_))
  have hB6 := (HB5.out.perm (cells' := [(w.heap.size + 1 + 1, (32 : TypeId), (finV []).toArray)]) (fun c hc => by rw [List.mem_singleton.1 hc]; exact List.mem_cons_self)).setAll (vs' := (finV (finM p.rg p.lo.length s.rg s.me)).toArray) (fun c hc => by cases hc)
  refine bodyPost_ret (results_cell_row rfl _ _ (w.heap.size + 1 + 1) 32 _ (0, 0) _ rfl (hB6.cell _ List.mem_cons_self).2 hu32 rfl (finV_size hL.out)) rfl ⟨rfl, hB6.below⟩
end Go.Proofs.Ytemhpbdlonfikaa.P
/- weirref09.End: the document's final state. -/
namespace Go.Proofs.Ytemhpbdlonfikaa.P
open Go Go.RowKit Go.Proofs.YtemhpbdlonfikaaW.PrintWords Go.Proofs.YtemhpbdlonfikaaW.PrintLast Go.Proofs.YtemhpbdlonfikaaW.PrintMore

section
variable {w W : World} {rows : List Rw} {cells : List (Nat × TypeId × Array Value)} {g : Nat} {l : List Int}
theorem putL_more {l : List Int} {x : Int} (h : l.length < 48) : putL l x = l ++ [x] := if_neg (by omega)
theorem Bag.put (h : Bag w rows ((g, 32, (finV l).toArray) :: cells) W) (hne : ∀ c ∈ cells, c.1 ≠ g) (hl : l.length < 48) (x : Int) :
    Bag w rows ((g, 32, (finV (putL l x)).toArray) :: cells) ((W.setCell ⟨g, 1 + l.length, none⟩ (.int .i64 x)).setCell ⟨g, 0, none⟩ (.int .i64 ((l.length : Int) + 1))) := by
  have h1 := (h.setCell (i := 1 + l.length) hne (.int .i64 x)).setCell (i := 0) hne (.int .i64 ((l.length : Int) + 1))
  rw [finV_put hl, ← putL_more hl] at h1
  exact h1
end

end Go.Proofs.Ytemhpbdlonfikaa.P
/- weirref11.Step: the document's step, of a plain state. -/
namespace Go.Proofs.Ytemhpbdlonfikaa.P
open Go Go.RowKit Go.Proofs.YtemhpbdlonfikaaW.PrintWords Go.Proofs.YtemhpbdlonfikaaW.PrintLast Go.Proofs.YtemhpbdlonfikaaW.PrintMore

theorem heap_size_alloc (w : World) (o : Obj) : (w.alloc o).heap.size = w.heap.size + 1 := by simp
theorem results_row_tmp {P : Program} {fn : Func} {p u : Tmp} {ty : TypeId} (h : fn.results = #[.cell p ty, .tmp u]) (tmps : Array Value) (w : World) (g : Nat) (t : TypeId) (cs : Array Value) (fr : Nat × Nat) (d : TypeDesc)
    (hp : tmps.getD p undef = .pointer (some ⟨g, 0, none⟩)) (hg : w.heap[g]? = some (.cells cs t fr))
    (hu : P.underlying ty = some d) (hd : (match d with | .struct _ | .array _ _ => true | _ => false) = true) (hi : (P.info? ty).map (·.size) = some cs.size) :
    (results fn tmps).run P w = .ok (.tuple #[.agg cs, tmps.getD u undef]) w := by
  have hp' : tmps[p]?.getD undef = .pointer (some ⟨g, 0, none⟩) := by simpa using hp
  simp [results, h, hp', asAddr, run_loadVar_row w g t ty cs fr d hg hu hd hi]
theorem StO.fresh {w W : World} {cells : List (Nat × TypeId × Array Value)} {vs : List Value} {s : St} (h : StO w cells W vs s) (t : TypeId) (us : Array Value) : StO w ((W.heap.size, t, us) :: cells) (W.alloc (.cells us t)) vs s := by
  obtain ⟨vp, vq, vr, vm, vb, vrs, bfx, rfl, h1, h2⟩ := h
  exact ⟨vp, vq, vr, vm, vb, vrs, bfx, rfl, h1.fresh t us, h2⟩
theorem toNat_lt {y : Int} {n : Nat} (h0 : 0 ≤ y) (h : y < n) : y.toNat < n := by omega
theorem StO.setAll {w W : World} {g : Nat} {t : TypeId} {us us' : Array Value} {vs : List Value} {s : St} (h : StO w [(g, t, us)] W vs s) : StO w [(g, t, us')] (W.setRow g us') vs s := by
  obtain ⟨vp, vq, vr, vm, vb, vrs, bfx, rfl, h1, h2⟩ := h
  exact ⟨vp, vq, vr, vm, vb, vrs, bfx, rfl, h1.setAll (fun c hc => by cases hc), h2⟩
theorem StO.below {w W : World} {cells : List (Nat × TypeId × Array Value)} {vs : List Value} {s : St} (h : StO w cells W vs s) : Below w.heap.size w W := by
  obtain ⟨vp, vq, vr, vm, vb, vrs, bfx, _, h1, _⟩ := h
  exact h1.below
theorem StO.cellAt {w W : World} {cells : List (Nat × TypeId × Array Value)} {vs : List Value} {s : St} (h : StO w cells W vs s) {c : Nat × TypeId × Array Value} (hc : c ∈ cells) : W.heap[c.1]? = some (.cells c.2.2 c.2.1 (0, 0)) := by
  obtain ⟨vp, vq, vr, vm, vb, vrs, bfx, _, h1, _⟩ := h
  exact (h1.cell c hc).2
/-- A state's six values. -/
def Six (sv : List Value) (s : St) : Prop := ∃ (E0 E1 E2 E3 E4 : Option Addr) (f0 f1 f2 f3 f4 : Nat), sv = [.slice E0 s.p.length f0, .slice E1 s.q.length f1, .slice E2 s.rg.length f2, .slice E3 s.me.length f3, .slice E4 s.bf.length f4, .int .i64 s.lk]
end Go.Proofs.Ytemhpbdlonfikaa.P
/- The printed contracts, told of a program and a state as one fact each. -/
namespace Go.Proofs.Ytemhpbdlonfikaa.P
open Go Go.RowKit Go.Proofs.YtemhpbdlonfikaaW.PrintWords Go.Proofs.YtemhpbdlonfikaaW.PrintLast Go.Proofs.YtemhpbdlonfikaaW.PrintMore

theorem over_call {w : World} {p : Pg} {s : St} {pv sv : List Value} (hp : PgV w pv p) (hs : StV w sv s) {r : Bool} (hv : Ev (fun k => sc_over.f k p.th p.rg p.lo p.r0 p.m0 s.p s.q s.rg s.me s.bf s.lk) r) :
    Calls Try.prog 41 #[.agg pv.toArray, .agg sv.toArray] w fun e W' => e = .returned (.bool r) ∧ Below w.heap.size w W' := by
  obtain ⟨A0, A1, A2, A3, A4, c0, c1, c2, c3, c4, rfl, h0, l0, h1, l1, h2, l2, h3, l3, h4, l4⟩ := hp
  obtain ⟨B0, B1, B2, B3, B4, d0, d1, d2, d3, d4, rfl, k0, m0, k1, m1, k2, m2, k3, m3, k4, m4⟩ := hs
  obtain ⟨K, hK⟩ := hv.rounds
  exact sc_over.calls K A0 c0 p.th A1 c1 p.rg A2 c2 p.lo A3 c3 p.r0 A4 c4 p.m0 B0 d0 s.p B1 d1 s.q B2 d2 s.rg B3 d3 s.me B4 d4 s.bf s.lk r w h0 l0 h1 l1 h2 l2 h3 l3 h4 l4 k0 m0 k1 m1 k2 m2 k3 m3 k4 m4 hK
theorem first_e (p : Pg) : ∀ b ∈ (firstM p).bf, b = [] := fun _b hb => (List.mem_replicate.1 hb).2
theorem start_ok {w : World} {p : Pg} {pv : List Value} (hp : PgV w pv p) (hP : SmallPg p) (hv : Ev (fun k => prog_Valid.f k p.th p.rg p.lo p.r0 p.m0) 0) :
    Calls Try.prog 18 #[.agg pv.toArray] w fun e W' => ∃ sv, Six sv (firstM p) ∧ e = .returned (.tuple #[.agg sv.toArray, .int .i64 0]) ∧ StO w [] W' sv (firstM p) := by
  obtain ⟨A0, A1, A2, A3, A4, c0, c1, c2, c3, c4, rfl, h0, l0, h1, l1, h2, l2, h3, l3, h4, l4⟩ := hp
  obtain ⟨K, hK⟩ := (start_is hP hv).rounds
  refine (sc_Start.calls K A0 c0 p.th A1 c1 p.rg A2 c2 p.lo A3 c3 p.r0 A4 c4 p.m0 _ _ _ _ _ _ _ w h0 l0 h1 l1 h2 l2 h3 l3 h4 l4 hK).mono ?_
  rintro e W' ⟨v0, v1, v2, v3, v4, rfl, r0, r1, r2, r3, r4, hb⟩
  have hO := bag_state r0 r1 r2 r3 r4 hb (first_e p)
  obtain ⟨E0, f0, rfl⟩ := Kd.R_slice r0
  obtain ⟨E1, f1, rfl⟩ := Kd.R_slice r1
  obtain ⟨E2, f2, rfl, _⟩ := Kd.S_reads r2
  obtain ⟨E3, f3, rfl⟩ := Kd.R_slice r3
  obtain ⟨E4, f4, rfl, _⟩ := Kd.S_reads r4
  exact ⟨_, ⟨E0, E1, E2, E3, E4, f0, f1, f2, f3, f4, rfl⟩, rfl, hO⟩
theorem start_bad {w : World} {p : Pg} {pv : List Value} (hp : PgV w pv p) {r : Int} (hr : r ≠ 0) (hv : Ev (fun k => prog_Valid.f k p.th p.rg p.lo p.r0 p.m0) r) :
    Calls Try.prog 18 #[.agg pv.toArray] w fun e W' => ∃ sv, Six sv ⟨[], [], [], [], [], 0⟩ ∧ e = .returned (.tuple #[.agg sv.toArray, .int .i64 r]) ∧ Below w.heap.size w W' := by
  obtain ⟨A0, A1, A2, A3, A4, c0, c1, c2, c3, c4, rfl, h0, l0, h1, l1, h2, l2, h3, l3, h4, l4⟩ := hp
  obtain ⟨K, hK⟩ := (start_not hr hv).rounds
  refine (sc_Start.calls K A0 c0 p.th A1 c1 p.rg A2 c2 p.lo A3 c3 p.r0 A4 c4 p.m0 _ _ _ _ _ _ _ w h0 l0 h1 l1 h2 l2 h3 l3 h4 l4 hK).mono ?_
  rintro e W' ⟨v0, v1, v2, v3, v4, rfl, r0, r1, r2, r3, r4, hb⟩
  obtain ⟨E0, f0, rfl⟩ := Kd.R_slice r0
  obtain ⟨E1, f1, rfl⟩ := Kd.R_slice r1
  obtain ⟨E2, f2, rfl, _⟩ := Kd.S_reads r2
  obtain ⟨E3, f3, rfl⟩ := Kd.R_slice r3
  obtain ⟨E4, f4, rfl, _⟩ := Kd.S_reads r4
  exact ⟨_, ⟨E0, E1, E2, E3, E4, f0, f1, f2, f3, f4, rfl⟩, rfl, hb⟩
/-! ### a run -/
def runM (p : Pg) : St → List Int → Option St
  | s, [] => some s
  | s, i :: l => match turnM p s i with
    | some t => runM p t l
    | none => none
/-- What is kept along a run. -/
structure Good (p : Pg) (s : St) : Prop where
  ok : StOK p s
  pl : PlainSt s
theorem rd_replicate (n : Nat) (i : Int) : rd (List.replicate n 0) i = 0 := by
  unfold rd
  rw [List.getD_eq_getElem?_getD, List.getElem?_replicate]
  split <;> rfl
theorem good_first {p : Pg} (hP : SmallPg p) : Good p (firstM p) := by
  refine ⟨⟨by simp [firstM], by simp [firstM], hP.r0, by simp [firstM], hP.m0, fun i h0 h1 => ?_, fun i h0 h1 => ?_⟩, ⟨rfl, fun i => rd_replicate _ _, first_e p⟩⟩
  · show 0 ≤ rd (List.replicate p.th.length 0) i ∧ _
    rw [show rd (firstM p).p i = 0 from rd_replicate _ _, rd_replicate]
    exact ⟨by omega, by omega⟩
  · obtain ⟨n, rfl⟩ : ∃ n : Nat, i = n := ⟨i.toNat, by omega⟩
    exact hP.r0r n (by omega)
theorem Good.turn {p : Pg} {s t : St} {i : Int} (h : Good p s) (ht : turnM p s i = some t) : Good p t := by
  refine ⟨h.ok.turn ht, ?_⟩
  unfold turnM at ht
  split at ht
  · injection ht with ht
    subst ht
    exact ⟨h.pl.lk, h.pl.q, h.pl.e⟩
  · cases ht
/-- What Play answers: the final state's values and the code. -/
def playM (p : Pg) (r : Int) (order : List Int) : List Int × Int :=
  if r = 0 then match runM p (firstM p) order with
    | some s => if overB p s 0 p.th.length then (finM p.rg p.lo.length s.rg s.me, 0) else ([], 150)
    | none => ([], 150)
  else ([], r)
end Go.Proofs.Ytemhpbdlonfikaa.P
/- sc.Play: a run in which the threads take turns in an order. -/
namespace Go.Proofs.Ytemhpbdlonfikaa.P
open Go Go.RowKit Go.Proofs.YtemhpbdlonfikaaW.PrintWords Go.Proofs.YtemhpbdlonfikaaW.PrintLast Go.Proofs.YtemhpbdlonfikaaW.PrintMore

theorem finV_nil_one : (finV []).toArray.all (·.oneCell') = true := finV_one []
theorem finV_nil_size : (Try.prog.info? 32).map (·.size) = some (finV []).toArray.size := finV_size (Nat.zero_le _)
/-- A final state is stored over one, and handed back. -/
theorem fin_back {w W : World} {cells : List (Nat × TypeId × Array Value)} {g : Nat} {l l' : List Int} (h : Bag w [] ((g, 32, (finV l).toArray) :: cells) W) : Bag w [] [(g, 32, (finV l').toArray)] (W.setRow g (finV l').toArray) :=
  (h.perm (cells' := [(g, (32 : TypeId), (finV l).toArray)]) (fun c hc => by rw [List.mem_singleton.1 hc]; exact List.mem_cons_self)).setAll (fun c hc => by cases hc)

theorem drop_rd {l : List Int} {j : Nat} (h : j < l.length) : l.drop j = rd l (j : Int) :: l.drop (j + 1) := by
  rw [List.drop_eq_getElem_cons h]
  congr 1
  simp [rd, List.getD_eq_getElem?_getD, List.getElem?_eq_getElem h]

set_option maxHeartbeats 8000000 in
set_option maxRecDepth 100000 in
theorem sc_Play.calls {w : World} {p : Pg} {pv : List Value} {r : Int} {Ao : Option Addr} {co : Nat} {order : List Int} (hp : PgV w pv p) (hv : Ev (fun k => prog_Valid.f k p.th p.rg p.lo p.r0 p.m0) r) (hR : r = 0 → RightPg p ∧ SmallPg p)
    (ho : Kd.C (Kd.int .i64) w Ao order.length order) :
    Calls Try.prog 9 #[.agg pv.toArray, .slice Ao order.length co] w fun e W' => e = .returned (.tuple #[.agg (finV (playM p r order).1).toArray, .int .i64 (playM p r order).2]) ∧ Below w.heap.size w W' := by
  have HP := Aside0.mk hp
  have HV := Aside0.mk hv
  have HO := Aside0.mk ho
  obtain ⟨A0, A1, A2, A3, A4, c0, c1, c2, c3, c4, rfl, _⟩ := hp
  clear hv ho
  have hu28 := Try.underlying28
  have hu42 := Try.underlying42
  have hu32 := Try.underlying32
  obtain ⟨px, hpx⟩ : ∃ px : Array Value, px = #[.slice A0 p.th.length c0, .slice A1 p.rg.length c1, .slice A2 p.lo.length c2, .slice A3 p.r0.length c3, .slice A4 p.m0.length c4] := ⟨_, rfl⟩
  have hb0 := ((Bag.nil w).fresh 28 #[.slice A0 p.th.length c0, .slice A1 p.rg.length c1, .slice A2 p.lo.length c2, .slice A3 p.r0.length c3, .slice A4 p.m0.length c4]).fresh 32 (finV []).toArray
  simp only [heap_size_alloc] at hb0
  have HB0 := Aside0.mk hb0
  have HIP := Aside0.mk (show (Try.prog.info? 28).map (·.size) = some px.size by rw [hpx]; kernel_rfl)
  have HPX := Aside0.mk hpx
  clear hb0
  go_enter Try.func9, Try.ntmps9
  go_upto_region 1 with fail
  generalize hW : World.alloc (World.alloc w _) _ = W3
  have HB : Aside0 (Bag w [] [(w.heap.size + 1, 32, (finV []).toArray), (w.heap.size, 28, px)] W3) := ⟨by rw [← hW, hpx]; exact HB0.out⟩
  clear hW HB0 hpx
  have hc0 := (HB.out.cell _ (List.mem_cons_of_mem _ List.mem_cons_self)).2
  by_cases hr : r = 0
  · subst hr
    obtain ⟨hRP, hSP⟩ := hR rfl
    as_aux_lemma =>
      go_upto_region 2 with (first
        | (refine wpList_load_row rfl 28 (.tmp 2) rfl w.heap.size rfl 28 px (0, 0) _ hc0 hu28 rfl HIP.out ?_)
        | (rw [HPX.out]; go_at_call 18; (with_reducible refine (start_ok (HP.out.below HB.out.below) hSP HV.out).mono ?_); rintro e w4 ⟨sv, ⟨E0, E1, E2, E3, E4, f0, f1, f2, f3, f4, rfl⟩, rfl, hO4⟩; have HO4 := Aside0.mk hO4; have HB4 := Aside0.mk (HB.out.later hO4.below); clear hO4))
      generalize hW5 : World.alloc w4 _ = W5
      have HO5 : Aside0 (StO W3 [(w4.heap.size, 42, #[.slice E0 (firstM p).p.length f0, .slice E1 (firstM p).q.length f1, .slice E2 (firstM p).rg.length f2, .slice E3 (firstM p).me.length f3, .slice E4 (firstM p).bf.length f4, .int .i64 (firstM p).lk])] W5 [.slice E0 (firstM p).p.length f0, .slice E1 (firstM p).q.length f1, .slice E2 (firstM p).rg.length f2, .slice E3 (firstM p).me.length f3, .slice E4 (firstM p).bf.length f4, .int .i64 (firstM p).lk] (firstM p)) := ⟨by rw [← hW5]; exact HO4.out.fresh 42 _⟩
      clear hW5 HO4 HB4 hc0
      have HRP := Aside0.mk hRP
      have HGF := Aside0.mk (good_first hSP)
      generalize w4.heap.size = gs at HO5 ⊢
      go_wp2
      go_loopw [21] (fun v W => ∃ j : Nat, v = .int .i64 j ∧ j ≤ order.length ∧ Aside0 (∃ s, Good p s ∧ runM p s (order.drop j) = runM p (firstM p) order ∧ StO W3 [(gs, 42, #[.slice E0 (firstM p).p.length f0, .slice E1 (firstM p).q.length f1, .slice E2 (firstM p).rg.length f2, .slice E3 (firstM p).me.length f3, .slice E4 (firstM p).bf.length f4, .int .i64 (firstM p).lk])] W [.slice E0 (firstM p).p.length f0, .slice E1 (firstM p).q.length f1, .slice E2 (firstM p).rg.length f2, .slice E3 (firstM p).me.length f3, .slice E4 (firstM p).bf.length f4, .int .i64 (firstM p).lk] s)) (fun v _ => order.length - (intOf v).toNat)
      case atStart => exact ⟨0, rfl, Nat.zero_le _, ⟨firstM p, HGF.out, rfl, HO5.out⟩⟩
      case round =>
        clear HO5
        obtain ⟨j, rfl, hj, HS⟩ := hrel
        obtain ⟨s, hG, hRun, hSt⟩ := HS.out
        have HG := Aside0.mk hG
        have HRun := Aside0.mk hRun
        have HSt := Aside0.mk hSt
        have HBW := Aside0.mk (HB.out.later hSt.below)
        have hc0 := (HBW.out.cell _ (List.mem_cons_of_mem _ List.mem_cons_self)).2
        clear HS hG hRun hSt
        by_cases hlt : j < order.length
        · obtain ⟨ad, e0, hx0⟩ := Kd.at_int HO.out (j : Int) (Int.natCast_nonneg j) (Int.ofNat_lt.2 hlt)
          subst e0
          rw [Int.toNat_natCast] at hx0
          have hx1 := pw_cell_below HBW.out.below hx0
          have hdr := drop_rd hlt
          obtain ⟨x, hx⟩ : ∃ x, rd order (j : Int) = x := ⟨_, rfl⟩
          rw [hx] at hx1 hdr
          have HDR := Aside0.mk hdr
          have HJL := Aside0.mk hlt
          have HML := Aside0.mk (show order.length ≤ 9223372036854775807 from Kd.C_max HO.out)
          clear hdr hx hx0
          cases hT : turnM p s x with
          | none =>
            have HT := Aside0.mk hT
            clear hT
            as_aux_lemma =>
              go_wp2_with (first
                | (refine wpList_load_row rfl 28 (.tmp 2) rfl w.heap.size rfl 28 px (0, 0) _ hc0 hu28 rfl HIP.out ?_)
                | (rw [HPX.out]; go_at_call 40; (with_reducible refine (sc_turn.calls (i := x) (HP.out.below HB.out.below) HRP.out HG.out.ok HSt.out List.mem_cons_self).mono ?_); rintro e w6 ⟨rfl, hO6⟩; rw [HT.out] at hO6 ⊢; have HB6 := Aside0.mk (HB.out.later hO6.below); have h6 := (HB6.out.cell _ List.mem_cons_self).2; clear hO6)
                | (refine wpList_store_row rfl 32 (.tmp 4) (.tmp 29) rfl (w.heap.size + 1) (finV []).toArray rfl rfl 32 _ h6 finV_nil_size rfl finV_nil_one ?_))
              have hpm : playM p 0 order = ([], 150) := by unfold playM; rw [if_pos rfl, ← HRun.out, HDR.out]; simp only [runM, HT.out]
              rw [hpm]
              refine bodyPost_ret (results_row_tmp rfl _ _ (w.heap.size + 1) 32 _ (0, 0) _ rfl ((fin_back HB6.out).cell _ List.mem_cons_self).2 hu32 rfl finV_nil_size) rfl ⟨rfl, (fin_back HB6.out).below⟩
          | some s2 =>
            have HT := Aside0.mk hT
            clear hT
            have hw := wrap_nat HJL.out HML.out
            as_aux_lemma =>
              go_wp2_with (first
                | (refine wpList_load_row rfl 28 (.tmp 2) rfl w.heap.size rfl 28 px (0, 0) _ hc0 hu28 rfl HIP.out ?_)
                | (rw [HPX.out]; go_at_call 40; (with_reducible refine (sc_turn.calls (i := x) (HP.out.below HB.out.below) HRP.out HG.out.ok HSt.out List.mem_cons_self).mono ?_); rintro e w6 ⟨rfl, hO6⟩; rw [HT.out] at hO6 ⊢; have HO6 := Aside0.mk hO6; clear hO6))
              go_roundw
              case rel => exact ⟨j + 1, by rw [hw], HJL.out, ⟨s2, HG.out.turn HT.out, by rw [← HRun.out, HDR.out, runM, HT.out], HO6.out⟩⟩
              case measure => rw [hw]; exact sub_succ HJL.out
        · have hfin : runM p (firstM p) order = some s := by rw [← HRun.out, List.drop_eq_nil_of_le (Nat.le_of_not_lt hlt)]; rfl
          have HF := Aside0.mk hfin
          have hc1 := HSt.out.cellAt List.mem_cons_self
          obtain ⟨b, hb⟩ : ∃ b, overB p s 0 p.th.length = b := ⟨_, rfl⟩
          have hov := over_is HG.out.ok hSP.th
          rw [hb] at hov
          have HOV := Aside0.mk hov
          have HBB := Aside0.mk hb
          clear hfin hov hb
          cases b with
          | false =>
            as_aux_lemma =>
              go_wp2_with (first
                | (refine wpList_load_row rfl 28 (.tmp 2) rfl w.heap.size rfl 28 px (0, 0) _ hc0 hu28 rfl HIP.out ?_)
                | (refine wpList_load_row rfl 42 (.tmp 6) rfl gs rfl 42 _ (0, 0) _ hc1 hu42 rfl (by kernel_rfl) ?_)
                | (rw [HPX.out]; go_at_call 41; (with_reducible refine (over_call (HP.out.below HBW.out.below) HSt.out.read HOV.out).mono ?_); rintro e w6 ⟨rfl, hb6⟩; have HB6 := Aside0.mk (HBW.out.later hb6); have h6 := (HB6.out.cell _ List.mem_cons_self).2; clear hb6)
                | (refine wpList_store_row rfl 32 (.tmp 4) (.tmp 35) rfl (w.heap.size + 1) (finV []).toArray rfl rfl 32 _ h6 finV_nil_size rfl finV_nil_one ?_))
              have hpm : playM p 0 order = ([], 150) := by unfold playM; rw [if_pos rfl, HF.out]; simp only [HBB.out]; rfl
              rw [hpm]
              refine bodyPost_ret (results_row_tmp rfl _ _ (w.heap.size + 1) 32 _ (0, 0) _ rfl ((fin_back HB6.out).cell _ List.mem_cons_self).2 hu32 rfl finV_nil_size) rfl ⟨rfl, (fin_back HB6.out).below⟩
          | true =>
            as_aux_lemma =>
              go_wp2_with (first
                | (refine wpList_load_row rfl 28 (.tmp 2) rfl w.heap.size rfl 28 px (0, 0) _ hc0 hu28 rfl HIP.out ?_)
                | (refine wpList_load_row rfl 42 (.tmp 6) rfl gs rfl 42 _ (0, 0) _ hc1 hu42 rfl (by kernel_rfl) ?_)
                | (rw [HPX.out]; go_at_call 41; (with_reducible refine (over_call (HP.out.below HBW.out.below) HSt.out.read HOV.out).mono ?_); rintro e w6 ⟨rfl, hb6⟩; have HS6 := Aside0.mk (HSt.out.later hb6); have HB6 := Aside0.mk (HBW.out.later hb6); have hc01 := hc0; clear hc0 hc1 hc01; have hc0 := (HB6.out.cell _ (List.mem_cons_of_mem _ List.mem_cons_self)).2; have hc1 := HS6.out.cellAt List.mem_cons_self; clear hb6)
                | (rw [HPX.out]; go_at_call 42; (with_reducible refine (sc_final.calls (HP.out.below HB6.out.below) HS6.out.read).mono ?_); rintro e w8 ⟨rfl, hb8⟩; have HB8 := Aside0.mk (HB6.out.later hb8); have h8 := (HB8.out.cell _ List.mem_cons_self).2; clear hb8)
                | (refine wpList_store_row rfl 32 (.tmp 4) (.tmp 38) rfl (w.heap.size + 1) _ rfl rfl 32 _ h8 (finV_size (finM_le _ _ _ _)) (finV_sizes (Nat.zero_le _) (finM_le _ _ _ _)) (finV_one _) ?_))
              have hpm : playM p 0 order = (finM p.rg p.lo.length s.rg s.me, 0) := by unfold playM; rw [if_pos rfl, HF.out]; simp only [HBB.out]; rfl
              rw [hpm]
              refine bodyPost_ret (results_row_tmp rfl _ _ (w.heap.size + 1) 32 _ (0, 0) _ rfl ((fin_back HB8.out).cell _ List.mem_cons_self).2 hu32 rfl (finV_size (finM_le _ _ _ _))) rfl ⟨rfl, (fin_back HB8.out).below⟩
  · as_aux_lemma =>
      go_upto_region 2 with (first
        | (refine wpList_load_row rfl 28 (.tmp 2) rfl w.heap.size rfl 28 px (0, 0) _ hc0 hu28 rfl HIP.out ?_)
        | (rw [HPX.out]; go_at_call 18; (with_reducible refine (start_bad (HP.out.below HB.out.below) hr HV.out).mono ?_); rintro e w4 ⟨sv, ⟨E0, E1, E2, E3, E4, f0, f1, f2, f3, f4, rfl⟩, rfl, hb4⟩; have HB4 := Aside0.mk (HB.out.later hb4); clear hb4))
      have HB5 := Aside0.mk (HB4.out.later (below_alloc (Below.refl _ _) (.cells #[.slice E0 0 f0, .slice E1 0 f1, .slice E2 0 f2, .slice E3 0 f3, .slice E4 0 f4, .int .i64 0] 42)))
      have hrb : (r == 0) = false := beq_eq_false_iff_ne.2 hr
      have h5 := (HB5.out.cell _ List.mem_cons_self).2
      clear hc0 HB4
      go_wp2_with (refine wpList_store_row rfl 32 (.tmp 4) (.tmp 17) rfl (w.heap.size + 1) (finV []).toArray rfl rfl 32 _ h5 finV_nil_size rfl finV_nil_one ?_)
      have hpm : playM p r order = ([], r) := by unfold playM; rw [if_neg hr]
      rw [hpm]
      refine bodyPost_ret (results_row_tmp rfl _ _ (w.heap.size + 1) 32 _ (0, 0) _ rfl ((fin_back HB5.out).cell _ List.mem_cons_self).2 hu32 rfl finV_nil_size) rfl ⟨rfl, (fin_back HB5.out).below⟩
end Go.Proofs.Ytemhpbdlonfikaa.P
/- weirref11.Play: the document's run. -/
namespace Go.Proofs.Ytemhpbdlonfikaa.P
open Go Go.RowKit Go.Proofs.YtemhpbdlonfikaaW.PrintWords Go.Proofs.YtemhpbdlonfikaaW.PrintLast Go.Proofs.YtemhpbdlonfikaaW.PrintMore

theorem StV.regs {W : World} {B0 B1 B2 B3 B4 : Option Addr} {d0 d1 d2 d3 d4 : Nat} {s : St} (h : StV W [.slice B0 s.p.length d0, .slice B1 s.q.length d1, .slice B2 s.rg.length d2, .slice B3 s.me.length d3, .slice B4 s.bf.length d4, .int .i64 s.lk] s) :
    Kd.C (Kd.slice 2 (Kd.int .i64)) W B2 s.rg.length s.rg ∧ Kd.C (Kd.int .i64) W B3 s.me.length s.me := by
  obtain ⟨A0, A1, A2, A3, A4, c0, c1, c2, c3, c4, he, _, _, _, _, h2, _, h3, _⟩ := h
  simp only [List.cons.injEq, Value.slice.injEq, true_and, and_true] at he
  obtain ⟨⟨rfl, rfl⟩, ⟨rfl, rfl⟩, ⟨rfl, rfl⟩, ⟨rfl, rfl⟩, ⟨rfl, rfl⟩⟩ := he
  exact ⟨h2, h3⟩
end Go.Proofs.Ytemhpbdlonfikaa.P
