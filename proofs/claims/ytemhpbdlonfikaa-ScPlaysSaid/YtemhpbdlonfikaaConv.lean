/- A state that a call has made: its rows, all apart. -/
import Derived.Test.YtemhpbdlonfikaaTurn
namespace Go.Proofs.Ytemhpbdlonfikaa.P
open Go Go.RowKit Go.Proofs.YtemhpbdlonfikaaW.PrintWords Go.Proofs.YtemhpbdlonfikaaW.PrintLast Go.Proofs.YtemhpbdlonfikaaW.PrintMore

theorem apart_types {W : World} {B B' sz sz' n n' : Nat} {e e' : TypeId} {v v' : Value} {xs xs' : List Value} (h : W.ownsRow B e sz v n xs) (h' : W.ownsRow B' e' sz' v' n' xs') (hne : e ≠ e') (k : Nat) (hk : v.ownBlock = some k) :
    v'.ownBlock ≠ some k := fun hk' => by
  obtain ⟨c, hc⟩ := own_typed h k hk
  obtain ⟨c', hc'⟩ := own_typed h' k hk'
  rw [hc] at hc'
  injection hc' with hc'
  injection hc' with _ hc'
  exact hne hc'
/-- Rows of rows, laid open: the row of their values, each row, and that no two are one. -/
theorem S_rows {W : World} {α : Type} {d : Kd α} {e e2 B : Nat} {ok : Nat → Prop} {v : Value} {l : List (List α)} (h : Kd.S (Kd.slice e d) e2 W B ok v l) :
    ∃ vs : List Value, W.ownsRow B e2 1 v l.length vs ∧ (∀ k, v.ownBlock = some k → ok k) ∧ vs.length = l.length ∧
      (∀ (j : Nat) (u : Value) (x : List α), vs[j]? = some u → l[j]? = some x → Kd.R d e W B (fun k => ok k) u x) ∧
      ∀ (i j : Nat) (p q : Value), i ≠ j → vs[i]? = some p → vs[j]? = some q → ∀ k, p.ownBlock = some k → q.ownBlock ≠ some k := by
  obtain ⟨f, h0, inner, ho, hr⟩ := h
  rw [List.length_zipIdx] at ho
  have hlen : inner.length = l.length := by have := hr.1; rw [List.length_zipIdx] at this; exact this.trans (Nat.mul_one _)
  have key : ∀ (j : Nat) (u : Value) (x : List α), inner[j]? = some u → l[j]? = some x → Kd.R d e W B (fun k => (ok k ∧ some k ≠ v.ownBlock) ∧ f k = j) u x := fun j u x hu hx => by
    have h1 := hr.2 j (x, j) (Kd.zip_at hx)
    obtain ⟨v', e1, h2⟩ := h1
    have h3 : (inner.drop (j * 1)).take 1 = [u] := by
      rw [Nat.mul_one]
      obtain ⟨hj, rfl⟩ := List.getElem?_eq_some_iff.1 hu
      rw [List.drop_eq_getElem_cons hj]
      rfl
    have h4 : [u] = [v'] := h3.symm.trans e1
    injection h4 with h4 _
    rw [h4]
    exact h2
  refine ⟨inner, ho, h0, hlen, fun j u x hu hx => Kd.R_mono (key j u x hu hx) (fun k hk => hk.1.1), fun i j p q hij hp hq k hk hk' => ?_⟩
  obtain ⟨hi, _⟩ := List.getElem?_eq_some_iff.1 hp
  obtain ⟨hj, _⟩ := List.getElem?_eq_some_iff.1 hq
  have h1 := (key i p _ hp (List.getElem?_eq_getElem (by omega))).1 k hk
  have h2 := (key j q _ hq (List.getElem?_eq_getElem (by omega))).1 k hk'
  exact hij (h1.2.symm.trans h2.2)
theorem bag_state {w W : World} {v0 v1 v2 v3 v4 : Value} {s : St} {ok1 ok4 : Nat → Prop} (h0 : Kd.R (Kd.int .i64) 3 W w.heap.size (fun k => some k ≠ v1.ownBlock) v0 s.p) (h1 : Kd.R (Kd.int .i64) 3 W w.heap.size ok1 v1 s.q)
    (h2 : Kd.S (Kd.slice 2 (Kd.int .i64)) 26 W w.heap.size (fun k => some k ≠ v3.ownBlock) v2 s.rg) (h3 : Kd.R (Kd.int .i64) 2 W w.heap.size (fun _ => True) v3 s.me) (h4 : Kd.S (Kd.slice 59 k59) 57 W w.heap.size ok4 v4 s.bf)
    (hb : Below w.heap.size w W) (he : ∀ b ∈ s.bf, b = []) : StO w [] W [v0, v1, v2, v3, v4, .int .i64 s.lk] s := by
  obtain ⟨vrs, o2, _, l2, r2, a2⟩ := S_rows h2
  obtain ⟨bfx, o4, _, l4, r4, _⟩ := S_rows h4
  have o0 := Kd.own_of_R h0
  have o1 := Kd.own_of_R h1
  have o3 := Kd.own_of_R h3
  have r2o : ∀ (j : Nat) (u : Value) (x : List Int), vrs[j]? = some u → s.rg[j]? = some x → W.ownsRow w.heap.size 2 1 u x.length (nums .i64 x) := fun j u x hu hx => Kd.own_of_R (r2 j u x hu hx)
  have a23 : ∀ (j : Nat) (u : Value), vrs[j]? = some u → ∀ k, u.ownBlock = some k → v3.ownBlock ≠ some k := fun j u hu k hk e => by
    obtain ⟨hj, _⟩ := List.getElem?_eq_some_iff.1 hu
    exact (r2 j u _ hu (List.getElem?_eq_getElem (by omega))).1 k hk e.symm
  have hrow : ∀ (j : Nat) (r : Rw), (stRows v0 v1 v2 v3 v4 vrs bfx s)[j]? = some r →
      (j = 0 ∧ r = ri 3 v0 s.p) ∨ (j = 1 ∧ r = ri 3 v1 s.q) ∨ (j = 2 ∧ r = ⟨26, 1, v2, s.rg.length, vrs⟩) ∨ (j = 3 ∧ r = ri 2 v3 s.me) ∨ (j = 4 ∧ r = ⟨57, 1, v4, s.bf.length, bfx⟩) ∨
      ∃ (i : Nat) (u : Value) (x : List Int), j = i + 5 ∧ vrs[i]? = some u ∧ s.rg[i]? = some x ∧ r = ri 2 u x := fun j r hj => by
    match j with
    | 0 => exact .inl ⟨rfl, (Option.some.inj hj).symm⟩
    | 1 => exact .inr (.inl ⟨rfl, (Option.some.inj hj).symm⟩)
    | 2 => exact .inr (.inr (.inl ⟨rfl, (Option.some.inj hj).symm⟩))
    | 3 => exact .inr (.inr (.inr (.inl ⟨rfl, (Option.some.inj hj).symm⟩)))
    | 4 => exact .inr (.inr (.inr (.inr (.inl ⟨rfl, (Option.some.inj hj).symm⟩))))
    | i + 5 =>
      have hj2 : (List.zipWith (ri 2) vrs s.rg)[i]? = some r := hj
      rw [List.getElem?_zipWith] at hj2
      cases hu : vrs[i]? with
      | none => rw [hu] at hj2; cases hj2
      | some u =>
        cases hx : s.rg[i]? with
        | none => rw [hu, hx] at hj2; cases hj2
        | some x =>
          rw [hu, hx] at hj2
          exact .inr (.inr (.inr (.inr (.inr ⟨i, u, x, rfl, hu, hx, (Option.some.inj hj2).symm⟩))))
  refine ⟨v0, v1, v2, v3, v4, vrs, bfx, rfl, ⟨fun j r hj => ?_, fun i j p q hij hp hq k hk hk' => ?_, by simp, by simp, hb⟩, l2, l4, fun j v hv => ?_, he⟩
  · rcases hrow j r hj with ⟨_, rfl⟩ | ⟨_, rfl⟩ | ⟨_, rfl⟩ | ⟨_, rfl⟩ | ⟨_, rfl⟩ | ⟨i, u, x, _, hu, hx, rfl⟩
    · exact o0
    · exact o1
    · exact o2
    · exact o3
    · exact o4
    · exact r2o i u x hu hx
  · have h01 : ∀ k, v0.ownBlock = some k → v1.ownBlock = some k → False := fun k ha hb => h0.1 k ha hb.symm
    rcases hrow i p hp with ⟨hi, rfl⟩ | ⟨hi, rfl⟩ | ⟨hi, rfl⟩ | ⟨hi, rfl⟩ | ⟨hi, rfl⟩ | ⟨i1, u1, x1, hi, hu1, hx1, rfl⟩ <;>
      rcases hrow j q hq with ⟨hj, rfl⟩ | ⟨hj, rfl⟩ | ⟨hj, rfl⟩ | ⟨hj, rfl⟩ | ⟨hj, rfl⟩ | ⟨j1, u2, x2, hj, hu2, hx2, rfl⟩ <;>
      first
        | exact absurd (hi.trans hj.symm) hij
        | exact h01 k hk hk'
        | exact h01 k hk' hk
        | exact apart_types o0 o2 (by decide) k hk hk'
        | exact apart_types o2 o0 (by decide) k hk hk'
        | exact apart_types o0 o3 (by decide) k hk hk'
        | exact apart_types o3 o0 (by decide) k hk hk'
        | exact apart_types o0 o4 (by decide) k hk hk'
        | exact apart_types o4 o0 (by decide) k hk hk'
        | exact apart_types o1 o2 (by decide) k hk hk'
        | exact apart_types o2 o1 (by decide) k hk hk'
        | exact apart_types o1 o3 (by decide) k hk hk'
        | exact apart_types o3 o1 (by decide) k hk hk'
        | exact apart_types o1 o4 (by decide) k hk hk'
        | exact apart_types o4 o1 (by decide) k hk hk'
        | exact apart_types o2 o3 (by decide) k hk hk'
        | exact apart_types o3 o2 (by decide) k hk hk'
        | exact apart_types o2 o4 (by decide) k hk hk'
        | exact apart_types o4 o2 (by decide) k hk hk'
        | exact apart_types o3 o4 (by decide) k hk hk'
        | exact apart_types o4 o3 (by decide) k hk hk'
        | exact apart_types o0 (r2o _ _ _ hu2 hx2) (by decide) k hk hk'
        | exact apart_types o1 (r2o _ _ _ hu2 hx2) (by decide) k hk hk'
        | exact apart_types o2 (r2o _ _ _ hu2 hx2) (by decide) k hk hk'
        | exact apart_types o4 (r2o _ _ _ hu2 hx2) (by decide) k hk hk'
        | exact apart_types (r2o _ _ _ hu1 hx1) o0 (by decide) k hk hk'
        | exact apart_types (r2o _ _ _ hu1 hx1) o1 (by decide) k hk hk'
        | exact apart_types (r2o _ _ _ hu1 hx1) o2 (by decide) k hk hk'
        | exact apart_types (r2o _ _ _ hu1 hx1) o4 (by decide) k hk hk'
        | exact a23 j1 u2 hu2 k hk' hk
        | exact a23 i1 u1 hu1 k hk hk'
        | exact a2 i1 j1 u1 u2 (fun e => hij (by rw [hi, hj, e])) hu1 hu2 k hk hk'
  · obtain ⟨hj, _⟩ := List.getElem?_eq_some_iff.1 hv
    have hx : s.bf[j]? = some (s.bf[j]'(by omega)) := List.getElem?_eq_getElem _
    obtain ⟨A, c, hv'⟩ := Kd.R_slice (r4 j v _ hv hx)
    rw [he _ (List.mem_of_getElem? hx)] at hv'
    exact ⟨A, c, hv'⟩
end Go.Proofs.Ytemhpbdlonfikaa.P
