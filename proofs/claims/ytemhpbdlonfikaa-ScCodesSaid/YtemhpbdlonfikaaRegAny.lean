import Derived.Test.YtemhpbdlonfikaaVa
/-! A REGION WHOSE EVENTS MAY COME UP IN MANY ORDERS, BY ONE OBLIGATION AN EVENT: each block that is made belongs to one event (a colour), an event may take over another's blocks, what is known of an event moves with its blocks. -/
namespace Go.Proofs.Ytemhpbdlonfikaa.P
open Go.RowKit Go.Proofs.YtemhpbdlonfikaaW.PrintWords Go.Proofs.YtemhpbdlonfikaaW.PrintLast

section
variable {P : Program} {ops : Array Oper} {Q : Exit → Act → World → Prop} {md : Region.Mode} {S : World → Prop} {ds : List Nat} {T : Bool × List (List Nat × List Nat)}

/-- The temporaries, those of the events that have come up filled. -/
def fillT (ev : List (Nat × Tmp)) (l : Array Bool) (vs : Nat → Value) : Nat → List Value → List Value
  | _, [] => []
  | t, x :: r => (match ev.find? (fun p => p.2 == t) with
    | some p => if l.getD p.1 false then vs p.1 else x
    | none => x) :: fillT ev l vs (t + 1) r
def fill1 (ev : List (Nat × Tmp)) (l : Array Bool) (vs : Nat → Value) (t : Nat) (x : Value) : Value := match ev.find? (fun p => p.2 == t) with
    | some p => if l.getD p.1 false then vs p.1 else x
    | none => x
def actF (a0 : Act) (ev : List (Nat × Tmp)) (l : Array Bool) (vs : Nat → Value) : Act := { a0 with tmps := (fillT ev l vs 0 a0.tmps.toList).toArray }
def updV (vs : Nat → Value) (i : Nat) (v : Value) : Nat → Value := fun e => if e = i then v else vs e

theorem fillT_get (ev : List (Nat × Tmp)) (l : Array Bool) (vs : Nat → Value) : ∀ (xs : List Value) (t j : Nat), (fillT ev l vs t xs)[j]? = xs[j]?.map (fill1 ev l vs (t + j))
  | [], _, _ => by simp [fillT]
  | x :: r, t, 0 => by simp only [fillT, List.getElem?_cons_zero, Option.map_some, Nat.add_zero]; rfl
  | x :: r, t, j + 1 => by
    simp only [fillT, List.getElem?_cons_succ]
    rw [fillT_get ev l vs r (t + 1) j]
    congr 2
    omega

def oneB (ev : List (Nat × Tmp)) : Bool := ev.all fun p => ev.all fun q => (p.1 == q.1) == (p.2 == q.2)
theorem oneB_iff {ev : List (Nat × Tmp)} (h : oneB ev = true) {p q : Nat × Tmp} (hp : p ∈ ev) (hq : q ∈ ev) : p.1 = q.1 ↔ p.2 = q.2 := by
  have h1 := List.all_eq_true.1 (List.all_eq_true.1 h p hp) q hq
  rw [beq_iff_eq] at h1
  constructor
  · intro h2
    rw [beq_iff_eq.2 h2] at h1
    exact beq_iff_eq.1 h1.symm
  · intro h2
    rw [beq_iff_eq.2 h2] at h1
    exact beq_iff_eq.1 h1

theorem fill1_put {ev : List (Nat × Tmp)} (h : oneB ev = true) {i : Nat} {N : Tmp} (hi : (i, N) ∈ ev) {l : Array Bool} (hl : i < l.size) (vs : Nat → Value) (v : Value) (j : Nat) (x : Value) :
    fill1 ev (l.setIfInBounds i true) (updV vs i v) j x = if N = j then v else fill1 ev l vs j x := by
  unfold fill1
  cases hf : ev.find? (fun p => p.2 == j) with
  | none =>
    have h1 := List.find?_eq_none.1 hf (i, N) hi
    have h2 : N ≠ j := by simpa using h1
    simp [h2]
  | some p =>
    have hp := List.mem_of_find?_eq_some hf
    have h1 : p.2 = j := by simpa using List.find?_some hf
    have h2 := oneB_iff h hp hi
    simp only at h2
    by_cases hN : N = j
    · have h3 : p.1 = i := h2.2 (h1.trans hN.symm)
      simp [hN, h3, updV, Array.getD_eq_getD_getElem?, hl]
    · have h3 : p.1 ≠ i := fun e => hN ((h2.1 e).symm.trans h1)
      have h4 : (l.setIfInBounds i true).getD p.1 false = l.getD p.1 false := getD_set_ne false (Ne.symm h3)
      simp only [hN, if_false, h4, updV, h3]

theorem actF_put {ev : List (Nat × Tmp)} (h : oneB ev = true) {i : Nat} {N : Tmp} (hi : (i, N) ∈ ev) {l : Array Bool} (hl : i < l.size) (a0 : Act) (vs : Nat → Value) (v : Value) :
    (actF a0 ev l vs).put (some N) v = actF a0 ev (l.setIfInBounds i true) (updV vs i v) := by
  unfold actF Act.put
  simp only [List.setIfInBounds_toArray, Act.mk.injEq, and_true]
  congr 1
  refine List.ext_getElem? (fun j => ?_)
  rw [List.getElem?_set, fillT_get, fillT_get]
  have hlen : (fillT ev l vs 0 a0.tmps.toList).length = a0.tmps.toList.length := by
    have h1 : ∀ n, (fillT ev l vs 0 a0.tmps.toList)[n]? = none ↔ a0.tmps.toList[n]? = none := fun n => by rw [fillT_get, Option.map_eq_none_iff]
    have h2 := (h1 a0.tmps.toList.length).2 (by simp)
    have h3 := (h1 (fillT ev l vs 0 a0.tmps.toList).length).1 (by simp)
    rw [List.getElem?_eq_none_iff] at h2 h3
    omega
  rw [hlen, Nat.zero_add]
  by_cases hN : N = j
  · subst hN
    by_cases hs : N < a0.tmps.toList.length
    · simp only [if_true, hs, List.getElem?_eq_getElem hs, Option.map_some, fill1_put h hi hl]
    · simp only [if_true, hs, if_false, List.getElem?_eq_none (Nat.le_of_not_lt hs), Option.map_none]
  · simp only [hN, if_false]
    congr 1
    funext x
    rw [fill1_put h hi hl, if_neg hN]

theorem actF_none {ev : List (Nat × Tmp)} {l : Array Bool} (h : ∀ p ∈ ev, l.getD p.1 false = false) (a0 : Act) (vs : Nat → Value) : actF a0 ev l vs = a0 := by
  unfold actF
  have h1 : fillT ev l vs 0 a0.tmps.toList = a0.tmps.toList := by
    refine List.ext_getElem? (fun j => ?_)
    rw [fillT_get]
    have h2 : fill1 ev l vs (0 + j) = id := by
      funext x
      unfold fill1
      cases hf : ev.find? (fun p => p.2 == 0 + j) with
      | none => rfl
      | some p => simp [h p (List.mem_of_find?_eq_some hf)]
    rw [h2]
    simp
  rw [h1]

theorem evalF {ev : List (Nat × Tmp)} (h : oneB ev = true) {a0 : Act} {l : Array Bool} {vs : Nat → Value} {e : Nat} {N : Tmp} (hp : (e, N) ∈ ev) (hN : N < a0.tmps.size) (hl : l.getD e false = true) : (actF a0 ev l vs).eval (.tmp N) = vs e := by
  unfold actF Act.eval
  simp only [Array.getD_eq_getD_getElem?, List.getElem?_toArray]
  rw [fillT_get, Array.getElem?_toList, Array.getElem?_eq_getElem hN]
  simp only [Option.map_some, Option.getD_some, Nat.zero_add]
  unfold fill1
  cases hf : ev.find? (fun p => p.2 == N) with
  | none => exact absurd (List.find?_eq_none.1 hf (e, N) hp) (by simp)
  | some p =>
    have h1 : p.2 = N := by simpa using List.find?_some hf
    have h2 := (oneB_iff h (List.mem_of_find?_eq_some hf) hp).2 h1
    simp only at h2
    simp only [h2, hl, if_true]
theorem evalF' {ev : List (Nat × Tmp)} {a0 : Act} {l : Array Bool} {vs : Nat → Value} {t : Tmp} (h : (ev.all fun p => p.2 != t) = true) : (actF a0 ev l vs).eval (.tmp t) = a0.eval (.tmp t) := by
  unfold actF Act.eval
  simp only [Array.getD_eq_getD_getElem?, List.getElem?_toArray]
  rw [fillT_get, Array.getElem?_toList]
  have h2 : fill1 ev l vs (0 + t) = id := by
    funext x
    unfold fill1
    cases hf : ev.find? (fun p => p.2 == 0 + t) with
    | none => rfl
    | some p =>
      have h3 := List.all_eq_true.1 h p (List.mem_of_find?_eq_some hf)
      have h4 : p.2 = t := by simpa using List.find?_some hf
      simp [h4] at h3
  rw [h2]
  simp

def needs (T : Bool × List (List Nat × List Nat)) (i : Nat) : List Nat := ((T.2[i]?).getD ([], [])).1
def topoB (T : Bool × List (List Nat × List Nat)) (l0 : Array Bool) : List Nat → List (Nat × Tmp) → Bool
  | _, [] => true
  | acc, p :: r => (needs T p.1).all (fun d => l0.getD d false || acc.contains d) && topoB T l0 (p.1 :: acc) r

theorem topo_first {l0 l : Array Bool} (hle : ∀ d, l0.getD d false = true → l.getD d false = true) : ∀ (ev : List (Nat × Tmp)) (acc : List Nat), topoB T l0 acc ev = true → (∀ d ∈ acc, l.getD d false = true) → (∃ p ∈ ev, l.getD p.1 false = false) →
    ∃ p ∈ ev, l.getD p.1 false = false ∧ ∀ d ∈ needs T p.1, l.getD d false = true
  | [], _, _, _, ⟨_, hp, _⟩ => by cases hp
  | p :: r, acc, h, ha, hx => by
    simp only [topoB, Bool.and_eq_true] at h
    have hn : ∀ d ∈ needs T p.1, l.getD d false = true := fun d hd => by
      have h1 := List.all_eq_true.1 h.1 d hd
      rw [Bool.or_eq_true] at h1
      rcases h1 with h1 | h1
      · exact hle d h1
      · exact ha d (by simpa using h1)
    cases hl : l.getD p.1 false with
    | false => exact ⟨p, List.mem_cons_self, hl, hn⟩
    | true =>
      obtain ⟨q, hq, hql⟩ := hx
      have hqr : q ∈ r := by
        rcases List.mem_cons.1 hq with rfl | hq
        · rw [hl] at hql; cases hql
        · exact hq
      obtain ⟨q', hq', h2⟩ := topo_first hle r (p.1 :: acc) h.2 (fun d hd => by
        rcases List.mem_cons.1 hd with rfl | hd
        · exact hl
        · exact ha d hd) ⟨q, hqr, hql⟩
      exact ⟨q', List.mem_cons_of_mem _ hq', h2⟩

def invB (T : Bool × List (List Nat × List Nat)) (l0 lend : Array Bool) (ev : List (Nat × Tmp)) (use : Nat → List Nat) (ds : List Nat) : Bool :=
  oneB ev && topoB T l0 [] ev && l0.size == T.2.length && lend.size == l0.size
  && (List.range l0.size).all (fun j => lend.getD j false == (l0.getD j false || ev.any fun p => p.1 == j))
  && ev.all (fun p => decide (p.1 < l0.size) && !l0.getD p.1 false && !ds.contains p.1)
  && (List.range l0.size).all (fun j => l0.getD j false || (ev.any fun p => p.1 == j) || ev.all fun p => reachT T.2 p.1 T.2.length j)
  && ev.all (fun p => (use p.1).all (fun u => (needs T p.1).contains u && ev.any fun q => q.1 == u) && ev.all fun q => q.1 == p.1 || (use q.1).all fun u => !(use p.1).contains u)
  && closedT T.2 l0.toList && decide (ev.map (·.1)).Nodup

/-- What is shown of one event. F: what is known of it, by its value, its blocks and the world. -/
structure EvOk (P : Program) (ops : Array Oper) (Q : Exit → Act → World → Prop) (T : Bool × List (List Nat × List Nat)) (a0 : Act) (w0 : World) (ev : List (Nat × Tmp)) (use : Nat → List Nat) (F : Nat → (Nat → Value) → (Nat → Prop) → World → Prop) (i : Nat) (N : Tmp) : Prop where
  move : ∀ vs ok ok' W W1, F i vs ok W → (∀ k, ok k → k < W.heap.size → W1.heap[k]? = W.heap[k]? ∧ ok' k) → F i vs ok' W1
  look : ∀ (vs vs' : Nat → Value) ok W, vs i = vs' i → (∀ d ∈ needs T i, vs d = vs' d) → F i vs ok W → F i vs' ok W
  step : ∀ (l : Array Bool) (vs : Nat → Value) (W : World) (ok : Nat → Nat → Prop), (∀ d ∈ needs T i, l.getD d false = true) → Below w0.heap.size w0 W → (∀ u ∈ use i, F u vs (ok u) W) → (∀ p ∈ ev, p.1 ∈ needs T i → (∀ c ∈ ev, p.1 ∉ use c.1) → ∃ ok, F p.1 vs ok W) →
    ∃ oi, ops[i]? = some oi ∧ oi.dst = some N ∧ ∀ K : Act → World → Prop, Shut (∀ v W1, W.heap.size ≤ W1.heap.size → (∀ k, k < W.heap.size → (∀ u ∈ use i, ¬ ok u k) → W1.heap[k]? = W.heap[k]?) → Below w0.heap.size w0 W1 → F i (updV vs i v) (fun k => W.heap.size ≤ k ∨ ∃ u ∈ use i, ok u k) W1 → K ((actF a0 ev l vs).put (some N) v) W1) →
      if Region.wanted oi (yielded ops (actF a0 ev l vs).tmps) = true then Oper.wp P oi (actF a0 ev l vs) W K Q else K ((actF a0 ev l vs).put (some N) undef) W


theorem needs_ready {l : Array Bool} {i : Nat} (hT : rtab md ops = T) : i ∈ Region.ready md ops l ↔ i < T.2.length ∧ l.getD i true = false ∧ ∀ d ∈ needs T i, l.getD d false = true := by
  subst hT
  rw [ready_eq, readyT, List.mem_filter, List.mem_range]
  refine and_congr_right (fun hi => ?_)
  unfold readyAt needs
  rw [List.getElem?_eq_getElem hi]
  simp only [Option.getD_some, Bool.and_eq_true, Bool.not_eq_true', List.all_eq_true, ← gd]

theorem nodup_of_map {α β : Type} {f : α → β} : ∀ (l : List α), (l.map f).Nodup → l.Nodup
  | [], _ => List.nodup_nil
  | x :: r, h => by
    rw [List.map_cons, List.nodup_cons] at h
    exact List.nodup_cons.2 ⟨fun hm => h.1 (List.mem_map_of_mem hm), nodup_of_map r h.2⟩
theorem getD_two {l : Array Bool} {i : Nat} (hi : i < l.size) : l.getD i true = l.getD i false := by
  simp [Array.getD_eq_getD_getElem?, hi]

open Classical in
theorem any_inv {fuel' : Nat} {l0 lend : Array Bool} {a0 : Act} {w0 : World} (ev : List (Nat × Tmp)) (use : Nat → List Nat) (F : Nat → (Nat → Value) → (Nat → Prop) → World → Prop) (hT : rtab md ops = T)
    (hc : invB T l0 lend ev use ds = true) (hS : ∀ W, Below w0.heap.size w0 W → S W)
    (hev : ∀ p ∈ ev, EvOk P ops Q T a0 w0 ev use F p.1 p.2)
    (hcont : ∀ (vs : Nat → Value) (col : Nat → Option Nat) (W : World), Below w0.heap.size w0 W → (∀ p ∈ ev, (∀ c ∈ ev, p.1 ∉ use c.1) → F p.1 vs (fun k => col k = some p.1) W) → wpAnyLast P md ops Q S ds fuel' lend (actF a0 ev lend vs) W) :
    wpAnyLast P md ops Q S ds (fuel' + ev.length) l0 a0 w0 := by
  simp only [invB, Bool.and_eq_true] at hc
  obtain ⟨⟨⟨⟨⟨⟨⟨⟨⟨h1, h2⟩, h3⟩, h4⟩, h5⟩, h6⟩, h7⟩, h8⟩, h9⟩, hnd0⟩ := hc
  rw [beq_iff_eq] at h3 h4
  have hlen : T.2.length = ops.size := by rw [← hT, rtab_length]
  have k6 : ∀ p ∈ ev, p.1 < l0.size ∧ l0.getD p.1 false = false ∧ p.1 ∉ ds := fun p hp => by
    have := List.all_eq_true.1 h6 p hp
    simpa [and_assoc] using this
  have k8 : ∀ p ∈ ev, (∀ u ∈ use p.1, u ∈ needs T p.1 ∧ ∃ q ∈ ev, q.1 = u) ∧ ∀ q ∈ ev, q.1 = p.1 ∨ ∀ u ∈ use q.1, u ∉ use p.1 := fun p hp => by
    have := List.all_eq_true.1 h8 p hp
    rw [Bool.and_eq_true] at this
    refine ⟨fun u hu => ?_, fun q hq => ?_⟩
    · have h := List.all_eq_true.1 this.1 u hu
      rw [Bool.and_eq_true, List.any_eq_true] at h
      obtain ⟨ha, q, hq, hb⟩ := h
      exact ⟨by simpa using ha, q, hq, by simpa using hb⟩
    · have h := List.all_eq_true.1 this.2 q hq
      rw [Bool.or_eq_true] at h
      rcases h with h | h
      · exact .inl (by simpa using h)
      · exact .inr (fun u hu => by simpa using List.all_eq_true.1 h u hu)
  have main : ∀ (n : Nat) (l : Array Bool) (vs : Nat → Value) (col : Nat → Option Nat) (W : World), (ev.filter fun p => !l.getD p.1 false).length = n → l.size = l0.size → ListedClosed md ops l →
      (∀ j, (∀ p ∈ ev, p.1 ≠ j) → l.getD j false = l0.getD j false) → Below w0.heap.size w0 W →
      (∀ p ∈ ev, l.getD p.1 false = true → (∀ c ∈ ev, p.1 ∈ use c.1 → l.getD c.1 false = false) → F p.1 vs (fun k => col k = some p.1) W) →
      wpAnyLast P md ops Q S ds (fuel' + n) l (actF a0 ev l vs) W := by
    intro n
    induction n with
    | zero =>
      intro l vs col W hn hsz hcl hout hb hf
      have hall : ∀ p ∈ ev, l.getD p.1 false = true := fun p hp => by
        have h := List.filter_eq_nil_iff.1 (List.length_eq_zero_iff.1 hn) p hp
        simpa using h
      have hle : l = lend := by
        refine Array.ext (by omega) (fun j hj hj' => ?_)
        have h := List.all_eq_true.1 h5 j (List.mem_range.2 (by omega))
        rw [beq_iff_eq] at h
        have e1 : l.getD j false = l[j] := by simp [Array.getD_eq_getD_getElem?, hj]
        have e2 : lend.getD j false = lend[j] := by simp [Array.getD_eq_getD_getElem?, hj']
        rw [← e1, ← e2, h]
        by_cases hx : ∃ p ∈ ev, p.1 = j
        · obtain ⟨p, hp, rfl⟩ := hx
          rw [hall p hp]
          have : (ev.any fun q => q.1 == p.1) = true := List.any_eq_true.2 ⟨p, hp, by simp⟩
          simp [this]
        · have h0 : ∀ p ∈ ev, p.1 ≠ j := fun p hp e => hx ⟨p, hp, e⟩
          have : (ev.any fun q => q.1 == j) = false := by
            rw [List.any_eq_false]
            intro q hq
            simpa using h0 q hq
          rw [hout j h0, this, Bool.or_false]
      subst hle
      exact hcont vs col W hb (fun p hp hu => hf p hp (hall p hp) (fun c hc hm => absurd hm (hu c hc)))
    | succ n ih =>
      intro l vs col W hn hsz hcl hout hb hf
      have hex : ∃ p ∈ ev, l.getD p.1 false = false := by
        cases hfl : ev.filter (fun p => !l.getD p.1 false) with
        | nil => rw [hfl] at hn; cases hn
        | cons p r =>
          have hp : p ∈ ev.filter (fun p => !l.getD p.1 false) := by rw [hfl]; exact List.mem_cons_self
          rw [List.mem_filter] at hp
          exact ⟨p, hp.1, by simpa using hp.2⟩
      have hle0 : ∀ d, l0.getD d false = true → l.getD d false = true := fun d hd => by
        rw [hout d (fun p hp e => ?_)]
        · exact hd
        · have := (k6 p hp).2.1
          rw [e, hd] at this
          cases this
      have hlt : ∀ p ∈ ev, l.getD p.1 true = l.getD p.1 false := fun p hp => getD_two (by have := (k6 p hp).1; omega)
      refine ⟨fun hr => ?_, fun i hi => ?_⟩
      · obtain ⟨p, hp, hpl, hpn⟩ := topo_first hle0 ev [] h2 (fun _ h => by cases h) hex
        have : p.1 ∈ Region.ready md ops l := (needs_ready hT).2 ⟨by have := (k6 p hp).1; omega, by rw [hlt p hp]; exact hpl, hpn⟩
        rw [hr] at this
        cases this
      · obtain ⟨hi1, hi2, hi3⟩ := (needs_ready hT).1 hi
        have hisz : i < l.size := by omega
        by_cases hx : ∃ p ∈ ev, p.1 = i
        · obtain ⟨⟨i', N⟩, hp, hpi⟩ := hx
          simp only at hpi
          subst hpi
          have hE := hev _ hp
          simp only at hE
          have k8i := k8 _ hp
          simp only at k8i
          have hil : l.getD i' false = false := by rw [← getD_two hisz]; exact hi2
          have huse : ∀ u ∈ use i', F u vs (fun k => col k = some u) W := fun u hu => by
            obtain ⟨hun, q, hq, rfl⟩ := k8i.1 u hu
            refine hf q hq (hi3 _ hun) (fun c hc hm => ?_)
            rcases k8i.2 c hc with e | e
            · rw [e]; exact hil
            · exact absurd hu (e _ hm)
          obtain ⟨oi, hoi, hdst, hst⟩ := hE.step l vs W (fun u k => col k = some u) hi3 hb huse (fun p hp hn hu => ⟨_, hf p hp (hi3 _ hn) (fun c hc hm => absurd hm (hu c hc))⟩)
          refine wpOp_step hoi (fun K' hK => ?_)
          rw [hdst]
          refine hst K' (fun v W1 hs1 hk1 hb1 hF1 => hK _ _ ⟨fun _ _ => hS _ hb1, ?_⟩)
          rw [actF_put h1 hp hisz]
          refine ih (l.setIfInBounds i' true) (updV vs i' v) (fun k => if W.heap.size ≤ k ∨ ∃ u ∈ use i', col k = some u then some i' else col k) W1 ?_ (by simpa using hsz) (hcl.set hi) (fun j hj => ?_) hb1 (fun q hq hql hqc => ?_)
          · have hcount : ∀ (E : List (Nat × Tmp)), (∀ p ∈ E, ∀ q ∈ E, p.1 = q.1 → p = q) → E.Nodup → (i', N) ∈ E → (E.filter fun p => !l.getD p.1 false).length = (E.filter fun p => !(l.setIfInBounds i' true).getD p.1 false).length + 1 := by
              intro E
              induction E with
              | nil => intro _ _ h; cases h
              | cons p r ihE =>
                intro hinj hnd hm
                rw [List.nodup_cons] at hnd
                have hset : ∀ q : Nat × Tmp, q.1 ≠ i' → (l.setIfInBounds i' true).getD q.1 false = l.getD q.1 false := fun q hq => getD_set_ne false (Ne.symm hq)
                by_cases hpp : p = (i', N)
                · subst hpp
                  have hr : ∀ q ∈ r, q.1 ≠ i' := fun q hq e => by
                    have := hinj q (List.mem_cons_of_mem _ hq) (i', N) List.mem_cons_self e
                    subst this
                    exact hnd.1 hq
                  have h10 : (r.filter fun p => !l.getD p.1 false) = r.filter fun p => !(l.setIfInBounds i' true).getD p.1 false := List.filter_congr (fun q hq => by rw [hset q (hr q hq)])
                  have h11 : (l.setIfInBounds i' true).getD i' false = true := by simp [Array.getD_eq_getD_getElem?, hisz]
                  rw [List.filter_cons, List.filter_cons, if_pos (by simp [hil]), if_neg (by simp [h11]), List.length_cons, h10]
                · have hmr : (i', N) ∈ r := by
                    rcases List.mem_cons.1 hm with e | e
                    · exact absurd e.symm hpp
                    · exact e
                  have h12 : p.1 ≠ i' := fun e => hpp (hinj p List.mem_cons_self (i', N) hm e)
                  have h13 := ihE (fun a ha b hb => hinj a (List.mem_cons_of_mem _ ha) b (List.mem_cons_of_mem _ hb)) hnd.2 hmr
                  rw [List.filter_cons, List.filter_cons, hset p h12]
                  cases l.getD p.1 false <;> simp only [Bool.not_false, Bool.not_true, Bool.false_eq_true, if_true, if_false, List.length_cons, h13]
            have hnd : ev.Nodup := nodup_of_map ev (of_decide_eq_true hnd0)
            have hinj : ∀ p ∈ ev, ∀ q ∈ ev, p.1 = q.1 → p = q := fun p hp q hq e => Prod.ext e ((oneB_iff h1 hp hq).1 e)
            have := hcount ev hinj hnd hp
            omega
          · rw [getD_set_ne false (hj _ hp), hout j hj]
          · by_cases hqi : q.1 = i'
            · rw [hqi]
              refine hE.move _ _ _ _ _ hF1 (fun k hk _ => ⟨rfl, ?_⟩)
              rw [if_pos hk]
            · have hql' : l.getD q.1 false = true := by rwa [getD_set_ne false (Ne.symm hqi)] at hql
              have hqu : q.1 ∉ use i' := fun hm => by
                have h10 := hqc _ hp hm
                simp [Array.getD_eq_getD_getElem?, hisz] at h10
              have hfq := hf q hq hql' (fun c hc hm => by
                have h10 := hqc c hc hm
                have h11 : c.1 ≠ i' := fun e => by
                  rw [e] at hm
                  exact hqu hm
                rwa [getD_set_ne false (Ne.symm h11)] at h10)
              have hneed : ∀ d ∈ needs T q.1, d ≠ i' := fun d hd e => by
                subst e
                have hqn : q.1 < ops.size := by have := (k6 q hq).1; omega
                have hdl : l.getD d false = true := by
                  have hoq := Array.getElem?_eq_getElem hqn
                  have h10 := rtab_some (md := md) hoq
                  rw [hT] at h10
                  unfold needs at hd
                  rw [h10] at hd
                  simp only [Option.getD_some, needsOf, List.mem_map, List.mem_filter] at hd
                  obtain ⟨e, ⟨he, heb⟩, rfl⟩ := hd
                  exact hcl _ _ hoq hql' e (by simpa using he) heb
                rw [hil] at hdl
                cases hdl
              refine (hev q hq).move _ _ _ _ _ ((hev q hq).look vs _ _ _ (by simp [updV, hqi]) (fun d hd => by simp [updV, hneed d hd]) hfq) (fun k hk hlt => ⟨hk1 k hlt (fun u hu e => ?_), ?_⟩)
              · rw [hk] at e
                injection e with e
                rw [← e] at hu
                exact hqu hu
              · rw [if_neg]
                · exact hk
                · rintro (h | ⟨u, hu, e⟩)
                  · omega
                  · rw [hk] at e
                    injection e with e
                    rw [← e] at hu
                    exact hqu hu
        · exfalso
          obtain ⟨p, hp, hpl⟩ := hex
          have h0 : ∀ p ∈ ev, p.1 ≠ i := fun p hp e => hx ⟨p, hp, e⟩
          have h10 := List.all_eq_true.1 h7 i (List.mem_range.2 (by omega))
          rw [Bool.or_eq_true, Bool.or_eq_true] at h10
          rcases h10 with (h10 | h10) | h10
          · rw [← hout i h0, ← getD_two hisz, hi2] at h10
            cases h10
          · obtain ⟨q, hq, hqi⟩ := List.any_eq_true.1 h10
            exact h0 q hq (by simpa using hqi)
          · have h11 := List.all_eq_true.1 h10 p hp
            subst hT
            rw [← reach_eq] at h11
            exact Region.reach_not_ready hcl h11 (by rw [hlt p hp]; exact hpl) hi
  have h0 : ∀ p ∈ ev, l0.getD p.1 false = false := fun p hp => (k6 p hp).2.1
  have hn : (ev.filter fun p => !l0.getD p.1 false).length = ev.length := by
    rw [List.filter_eq_self.2 (fun p hp => by simp [h0 p hp])]
  have := main ev.length l0 (fun _ => undef) (fun _ => none) w0 hn rfl (Region.closedB_spec (by rw [closed_eq, hT]; exact h9)) (fun _ _ => rfl) (Below.refl _ _) (fun p hp h => by rw [h0 p hp] at h; cases h)
  rwa [actF_none h0] at this

section
variable {a0 : Act} {w0 : World} {ev : List (Nat × Tmp)} {use : Nat → List Nat} {F : Nat → (Nat → Value) → (Nat → Prop) → World → Prop} {i : Nat} {N : Tmp} {oi : Oper} {α : Type}
theorem R_mv {d : Kd α} {e : Nat} {w w1 : World} {base : Nat} {ok ok' : Nat → Prop} {v : Value} {xs : List α} (h : d.R e w base ok v xs) (hm : ∀ k, ok k → k < w.heap.size → w1.heap[k]? = w.heap[k]? ∧ ok' k) : d.R e w1 base ok' v xs :=
  Kd.R_mono (Kd.R_step (Kd.R_bound h) (fun k hk hlt => (hm k hk.1 hlt).1)) (fun k hk => (hm k hk.1 hk.2.2.1).2)
theorem S_mv {d : Kd α} {e : Nat} {w w1 : World} {base : Nat} {ok ok' : Nat → Prop} {v : Value} {xs : List α} (h : d.S e w base ok v xs) (hm : ∀ k, ok k → k < w.heap.size → w1.heap[k]? = w.heap[k]? ∧ ok' k) : d.S e w1 base ok' v xs :=
  Kd.S_mono (Kd.S_step (Kd.S_bound h) (fun k hk hlt => (hm k hk.1 hlt).1)) (fun k hk => (hm k hk.1 hk.2.2.1).2)
theorem wanted_of (hg : oi.guard = none) (y : Nat → Option Bool) : Region.wanted oi y = true := by unfold Region.wanted; rw [hg]

/-- An empty literal. -/
theorem ev_lit (d : Kd α) (e : Nat) (hoi : ops[i]? = some oi) (hN : oi.dst = some N) (hg : oi.guard = none) (hF : F i = fun vs ok W => d.R e W w0.heap.size ok (vs i) [])
    (hrun : ∀ (a : Act) W, (execOp a.eval oi).run P W = .ok (.value (.slice (some ⟨W.heap.size, 0, none⟩) 0 0)) (W.alloc (.cells #[] e))) : EvOk P ops Q T a0 w0 ev use F i N where
  move vs ok ok' W W1 h hm := by rw [hF] at h ⊢; exact R_mv h hm
  look vs vs' ok W h1 _ h := by rw [hF] at h ⊢; simp only at h ⊢; rw [← h1]; exact h
  step l vs W ok _ hb _ _ := by
    refine ⟨oi, hoi, hN, fun K hK => ?_⟩
    rw [← hN]
    refine Kd.R_lit_step d (w0 := w0) w0.heap.size e (wanted_of hg _) hN (xs := []) (inner := []) (ok := fun k => W.heap.size ≤ k) (okp := fun k => W.heap.size ≤ k) (hrun _ W) (Reps.none _ _) (fun _ h => h) (Nat.le_refl _) hb hb.size (by simp) (fun v1 w1 hR hb1 hgr _ => ?_)
    rw [hN]
    refine hK.out v1 w1 hgr.size (fun k hk _ => hgr.block k hk (by simp)) hb1 ?_
    rw [hF]
    simp only [updV, if_true]
    exact Kd.R_mono hR (fun k hk => .inl hk)

/-- append(an event's row, what came in ...). -/
theorem ev_append (d : Kd α) (u : Nat) (Nu : Tmp) (x : Operand) (t e : TypeId) (z : Value) (bytes : Nat) (xs ys : List α) (A : Option Addr) (m c : Nat) (hev : oneB ev = true)
    (hoi : ops[i]? = some oi) (hN : oi.dst = some N) (hg : oi.guard = none) (huse : use i = [u]) (hun : (needs T i).contains u = true) (hue : (u, Nu) ∈ ev) (hNu : Nu < a0.tmps.size)
    (hF : F i = fun vs ok W => d.R e W w0.heap.size ok (vs i) (xs ++ ys)) (hFu : F u = fun vs ok W => d.R e W w0.heap.size ok (vs u) xs)
    (ho : oi.op = .call { callee := .builtin .append, args := #[.tmp Nu, x], argTypes := #[t, t] })
    (ht : P.underlying t = some (.slice e)) (hinfo : (P.info? e).map (fun i => (i.zero, i.size, i.bytes)) = some (some z, d.sz, bytes)) (hz : z.cells.size = d.sz) (hs0 : 0 < d.sz) (hb0 : 0 < bytes)
    (hx : ∀ l vs, (actF a0 ev l vs).eval x = .slice A m c)
    (hread : ∀ W, Below w0.heap.size w0 W → d.C W A m ys) (hKM : ∀ W x cs, d.K W x cs → d.M W w0.heap.size (fun _ => False) x cs) (hl : (xs.length + m) * bytes ≤ 140737488355328) : EvOk P ops Q T a0 w0 ev use F i N where
  move vs ok ok' W W1 h hm := by rw [hF] at h ⊢; exact R_mv h hm
  look vs vs' ok W h1 _ h := by rw [hF] at h ⊢; simp only at h ⊢; rw [← h1]; exact h
  step l vs W ok hn hb hus _ := by
    have hU := hus u (by rw [huse]; exact List.mem_singleton.2 rfl)
    rw [hFu] at hU
    refine ⟨oi, hoi, hN, fun K hK => ?_⟩
    rw [← hN]
    refine Kd.R_append_rows_step d (w0 := w0) w0.heap.size (wanted_of hg _) (.tmp Nu) x t e z bytes ho ht hinfo hz hs0 hb0 (vs u) xs ys A m c (fun k => W.heap.size ≤ k ∨ ok u k) (fun _ => False) (evalF hev hue hNu (hn u (by simpa using hun))) (hx l vs)
      (Kd.R_mono hU (fun k hk => .inr hk)) (hread W hb) (hKM W) (fun _ h => h.elim) (fun k hk => .inl hk) hb hb.size hl (fun v1 w1 hR hb1 hgr _ => ?_)
    rw [hN]
    refine hK.out v1 w1 hgr.size (fun k hk hno => hgr.block k hk (fun h => hno u (by rw [huse]; exact List.mem_singleton.2 rfl) (hU.1 k h.symm))) hb1 ?_
    rw [hF]
    simp only [updV, if_true, huse, List.mem_singleton, exists_eq_left]
    exact hR

/-- A variable's block. -/
theorem ev_box (cs : Array Value) (t : TypeId) (hoi : ops[i]? = some oi) (hN : oi.dst = some N) (hg : oi.guard = none)
    (hF : F i = fun vs ok W => ∃ g, vs i = .pointer (some ⟨g, 0, none⟩) ∧ ok g ∧ w0.heap.size ≤ g ∧ W.heap[g]? = some (.cells cs t (0, 0)))
    (hrun : ∀ (a : Act) W, (execOp a.eval oi).run P W = .ok (.value (.pointer (some ⟨W.heap.size, 0, none⟩))) (W.alloc (.cells cs t (0, 0)))) : EvOk P ops Q T a0 w0 ev use F i N where
  move vs ok ok' W W1 h hm := by
    rw [hF] at h ⊢
    obtain ⟨g, h1, h2, h3, h4⟩ := h
    have h5 := hm g h2 (blk_lt h4)
    exact ⟨g, h1, h5.2, h3, h5.1.trans h4⟩
  look vs vs' ok W h1 _ h := by rw [hF] at h ⊢; simp only at h ⊢; rw [← h1]; exact h
  step l vs W ok _ hb _ _ := by
    refine ⟨oi, hoi, hN, fun K hK => ?_⟩
    rw [← hN]
    refine box_step (wanted_of hg _) hN (cs := cs) (t := t) (hrun _ W) (fun g hgs w1 hc hb1 => ?_)
    rw [hN]
    refine hK.out _ w1 hb1.size (fun k hk _ => hb1.block k hk) (below_then hb hb.size hb1) ?_
    rw [hF]
    simp only [updV, if_true]
    exact ⟨g, rfl, .inl (by omega), by have := hb.size; omega, hc⟩

/-- What yields a value of other events' values. -/
theorem ev_val (val : (Nat → Value) → Value) (hoi : ops[i]? = some oi) (hN : oi.dst = some N) (hg : oi.guard = none)
    (hF : F i = fun vs _ _ => vs i = val vs) (hlook : ∀ vs vs' : Nat → Value, (∀ d ∈ needs T i, vs d = vs' d) → val vs = val vs') (hni : (needs T i).contains i = false)
    (hev : oneB ev = true) (hsz : ∀ p ∈ ev, p.2 < a0.tmps.size)
    (hrun : ∀ (A : Act) vs W, (∀ p ∈ ev, (needs T i).contains p.1 = true → A.eval (.tmp p.2) = vs p.1) → (∀ t, (ev.all fun p => p.2 != t) = true → A.eval (.tmp t) = a0.eval (.tmp t)) →
      (∀ p ∈ ev, (needs T i).contains p.1 = true → (∀ c ∈ ev, p.1 ∉ use c.1) → ∃ ok, F p.1 vs ok W) → (execOp A.eval oi).run P W = .ok (.value (val vs)) W) : EvOk P ops Q T a0 w0 ev use F i N where
  move vs ok ok' W W1 h hm := by rw [hF] at h ⊢; exact h
  look vs vs' ok W h1 h2 h := by rw [hF] at h ⊢; simp only at h ⊢; rw [← h1, h, hlook vs vs' h2]
  step l vs W ok hn hb _ hfa := by
    refine ⟨oi, hoi, hN, fun K hK => ?_⟩
    rw [← hN]
    refine event_step (wanted_of hg _) (hrun _ vs W (fun p hp hc => evalF hev hp (hsz p hp) (hn _ (by simpa using hc))) (fun t ht => evalF' ht) (fun p hp hc => hfa p hp (by simpa using hc))) ?_
    rw [hN]
    refine hK.out _ W (Nat.le_refl _) (fun k _ _ => rfl) hb ?_
    rw [hF]
    show updV vs i (val vs) i = val (updV vs i (val vs))
    have h0 : updV vs i (val vs) i = val vs := if_pos rfl
    rw [h0]
    refine hlook _ _ (fun d hd => ?_)
    have : d ≠ i := fun e => by
      subst e
      simp [hd] at hni
    simp [updV, this]

/-- A call: what it makes is its own. -/
theorem ev_call (Fi : Value → (Nat → Prop) → World → Prop) (hmv : ∀ v ok ok' W W1, Fi v ok W → (∀ k, ok k → k < W.heap.size → W1.heap[k]? = W.heap[k]? ∧ ok' k) → Fi v ok' W1)
    {f : FuncId} {fn : Func} {as : Array Operand} {ts : Array TypeId} (hf : P.funcs[f]? = some fn) (hname : (fn.name == "runtime.NumGoroutine") = false) (hbd : fn.body.isSome = true) (args : Array Value)
    (hoi : ops[i]? = some oi) (hN : oi.dst = some N) (hg : oi.guard = none) (hF : F i = fun vs ok W => Fi (vs i) ok W)
    (hop : oi.op = .call { callee := .value (.func f), args := as, argTypes := ts }) (hargs : ∀ l vs, as.map (actF a0 ev l vs).eval = args)
    (hcall : ∀ W, Below w0.heap.size w0 W → Calls P f args W fun e W1 => ∃ v, e = .returned v ∧ Below W.heap.size W W1 ∧ Fi v (fun k => W.heap.size ≤ k) W1) : EvOk P ops Q T a0 w0 ev use F i N where
  move vs ok ok' W W1 h hm := by rw [hF] at h ⊢; exact hmv _ _ _ _ _ h hm
  look vs vs' ok W h1 _ h := by rw [hF] at h ⊢; simp only at h ⊢; rw [← h1]; exact h
  step l vs W ok _ hb _ _ := by
    refine ⟨oi, hoi, hN, fun K hK => ?_⟩
    refine goes_ hf hname hbd args (wanted_of hg _) hN hop (hargs l vs) ((hcall W hb).mono fun e W1 h => ?_)
    obtain ⟨v, rfl, hb1, hv⟩ := h
    refine ⟨v, rfl, hK.out v W1 hb1.size (fun k hk _ => hb1.block k hk) (below_then hb hb.size hb1) ?_⟩
    rw [hF]
    simp only [updV, if_true]
    exact hmv _ _ _ _ _ hv (fun k hk _ => ⟨rfl, .inl hk⟩)
end
end

theorem updV_self (vs : Nat → Value) (i : Nat) : updV vs i (vs i) = vs := by
  funext e
  unfold updV
  split
  · rename_i h; rw [h]
  · rfl
theorem putAll_act {ev : List (Nat × Tmp)} (h : oneB ev = true) (a0 : Act) (vs : Nat → Value) : ∀ (E : List (Nat × Tmp)) (l : Array Bool), (∀ p ∈ E, p ∈ ev ∧ p.1 < l.size) →
    putAll (actF a0 ev l vs) (E.map fun p => (p.2, vs p.1)) = actF a0 ev (E.foldl (fun l p => l.setIfInBounds p.1 true) l) vs
  | [], _, _ => rfl
  | p :: r, l, hE => by
    rw [List.map_cons, List.foldl_cons]
    show putAll ((actF a0 ev l vs).put (some p.2) (vs p.1)) _ = _
    have hp := hE p List.mem_cons_self
    rw [actF_put h hp.1 hp.2, updV_self]
    exact putAll_act h a0 vs r _ (fun q hq => ⟨(hE q (List.mem_cons_of_mem _ hq)).1, by simpa using (hE q (List.mem_cons_of_mem _ hq)).2⟩)
section
variable {P : Program} {ops : Array Oper} {Q : Exit → Act → World → Prop} {md : Region.Mode} {S : World → Prop} {ds : List Nat} {T : Bool × List (List Nat × List Nat)}
theorem evs_nil {G : Nat → Nat → Prop} : ∀ p ∈ ([] : List (Nat × Tmp)), G p.1 p.2 := fun _ h => by cases h
theorem evs_cons {G : Nat → Nat → Prop} {i N : Nat} {r : List (Nat × Tmp)} (h : G i N) (hr : ∀ p ∈ r, G p.1 p.2) : ∀ p ∈ (i, N) :: r, G p.1 p.2 := fun p hp => by
  rcases List.mem_cons.1 hp with rfl | hp
  · exact h
  · exact hr p hp
/-- The law, as a walk asks for it. -/
theorem inv_ {fuel : Nat} (fuel' : Nat) {l0 : Array Bool} (lend : Array Bool) {a0 : Act} {w0 : World} (ev : List (Nat × Tmp)) (use : Nat → List Nat) (F : Nat → (Nat → Value) → (Nat → Prop) → World → Prop) (hT : rtab md ops = T)
    (hc : (invB T l0 lend ev use ds && ev.foldl (fun l p => l.setIfInBounds p.1 true) l0 == lend) = true) (hfu : fuel = fuel' + ev.length) (hS : ∀ W, Below w0.heap.size w0 W → S W)
    (hev : ∀ p ∈ ev, EvOk P ops Q T a0 w0 ev use F p.1 p.2)
    (hcont : ∀ (vs : Nat → Value) (col : Nat → Option Nat) (W : World), Below w0.heap.size w0 W → (∀ p ∈ ev, (∀ c ∈ ev, p.1 ∉ use c.1) → F p.1 vs (fun k => col k = some p.1) W) → wpAnyLast P md ops Q S ds fuel' lend (putAll a0 (ev.map fun p => (p.2, vs p.1))) W) :
    wpAnyLast P md ops Q S ds fuel l0 a0 w0 := by
  subst hfu
  rw [Bool.and_eq_true, beq_iff_eq] at hc
  refine any_inv ev use F hT hc.1 hS hev (fun vs col W hb hF => ?_)
  have h := hcont vs col W hb hF
  have hc1 := hc.1
  simp only [invB, Bool.and_eq_true] at hc1
  obtain ⟨⟨⟨⟨⟨⟨⟨⟨⟨h1, _⟩, _⟩, _⟩, _⟩, h6⟩, _⟩, _⟩, _⟩, _⟩ := hc1
  have k6 : ∀ p ∈ ev, p.1 < l0.size ∧ l0.getD p.1 false = false := fun p hp => by
    have := List.all_eq_true.1 h6 p hp
    simp only [Bool.and_eq_true, decide_eq_true_eq, Bool.not_eq_true'] at this
    exact this.1
  rw [← hc.2, ← putAll_act h1 a0 vs ev l0 (fun p hp => ⟨hp, (k6 p hp).1⟩), actF_none (fun p hp => (k6 p hp).2), hc.2]
  exact h
/-- An event that only makes what is new. -/
theorem ev_fresh {a0 : Act} {w0 : World} {ev : List (Nat × Tmp)} {use : Nat → List Nat} {F : Nat → (Nat → Value) → (Nat → Prop) → World → Prop} {i : Nat} {N : Tmp} {oi : Oper} (Fi : Value → (Nat → Prop) → World → Prop)
    (hmv : ∀ v ok ok' W W1, Fi v ok W → (∀ k, ok k → k < W.heap.size → W1.heap[k]? = W.heap[k]? ∧ ok' k) → Fi v ok' W1)
    (hoi : ops[i]? = some oi) (hN : oi.dst = some N) (hF : F i = fun vs ok W => Fi (vs i) ok W)
    (hstep : ∀ (l : Array Bool) (vs : Nat → Value) (W : World), Below w0.heap.size w0 W → ∀ K : Act → World → Prop, Shut (∀ v W1, Below W.heap.size W W1 → Fi v (fun k => W.heap.size ≤ k) W1 → K ((actF a0 ev l vs).put (some N) v) W1) →
      if Region.wanted oi (yielded ops (actF a0 ev l vs).tmps) = true then Oper.wp P oi (actF a0 ev l vs) W K Q else K ((actF a0 ev l vs).put (some N) undef) W) : EvOk P ops Q T a0 w0 ev use F i N where
  move vs ok ok' W W1 h hm := by rw [hF] at h ⊢; exact hmv _ _ _ _ _ h hm
  look vs vs' ok W h1 _ h := by rw [hF] at h ⊢; simp only at h ⊢; rw [← h1]; exact h
  step l vs W ok _ hb _ _ := by
    refine ⟨oi, hoi, hN, fun K hK => hstep l vs W hb K (fun v W1 hb1 hv => hK.out v W1 hb1.size (fun k hk _ => hb1.block k hk) (below_then hb hb.size hb1) ?_)⟩
    rw [hF]
    simp only [updV, if_true]
    exact hmv _ _ _ _ _ hv (fun k hk _ => ⟨rfl, .inl hk⟩)
end

/-! Closing proofs that recur in printed texts, each under a short name: the proof is an automatic parameter (squash2.py). -/
section
variable {p : Prop}
theorem dt_ {q : Prop} [Decidable q] (h : decide q = true := by first | (with_reducible assumption) | assumption) : q := of_decide_eq_true h
theorem bel_ (h : p := by repeat (first | (with_reducible first | exact HB.out | apply below_alloc | apply pw_below_drewN | apply below_drew1 | refine below_set ?_ (Aside0.out (by assumption))) | exact HB.out)) : p := h
theorem bk_ {q : Prop} (h : Aside0 q) (t : q → p := by intro h_; repeat (first | (with_reducible first | exact h_ | refine blk_drewN ?_ _ | refine blk_drew ?_ | refine blk_alloc ?_ _) | refine blk_far ?_ (Aside0.out (by assumption)) _ | exact h_)) : p := t h.out
theorem ee_ (h : p := by first | rfl | (simp [errW_none, errW_some] <;> rfl) | (simp [*, errW_none, errW_some] <;> rfl)) : p := h
theorem ff_ (h : p := by first | rfl | (simp; done) | (simp [*]; done)) : p := h
theorem cb_ {q : Prop} (h : Aside0 q) (t : q → p := by intro h_; repeat (first | exact (Kd.C_below h_ HB.out) | (with_reducible refine Kd.C_alloc ?_ _) | (with_reducible refine Kd.C_drewN ?_ _) | (with_reducible refine Kd.C_drew ?_))) : p := t h.out
theorem put_ : (∀ (l : List Value) (i : Nat) (x : Value), l.toArray.setIfInBounds i x = (l.set i x).toArray) ∧ (∀ (a b : Value) (l : List Value), (a :: l).set 0 b = b :: l) ∧ (∀ (a b : Value) (l : List Value) (n : Nat), (a :: l).set (n + 1) b = a :: l.set n b) :=
  ⟨fun _ _ _ => List.setIfInBounds_toArray .., fun _ _ _ => rfl, fun _ _ _ _ => rfl⟩
theorem hx_ {w W : World} {a : Addr} {v : Value} (HB : Aside0 (Below w.heap.size w W)) (h : w.cell? a = some v) : W.cell? a = some v := (HB.out.cell (World.block_lt_of_cell? w _ h)).trans h
end
theorem blkA2 {w : World} {g : Nat} {t : TypeId} {v0 v1 : Value} (h : w.heap[g]? = some (.cells #[v0, v1] t (0, 0))) : w.cell? ⟨g, 0, none⟩ = some v0 ∧ w.cell? ⟨g, 1, none⟩ = some v1 ∧ w.frozen? ⟨g, 0, none⟩ = false ∧ w.frozen? ⟨g, 1, none⟩ = false :=
  ⟨(blk_cell h 0).trans rfl, (blk_cell h 1).trans rfl, blk_frozen h 0, blk_frozen h 1⟩
theorem blkA3 {w : World} {g : Nat} {t : TypeId} {v0 v1 v2 : Value} (h : w.heap[g]? = some (.cells #[v0, v1, v2] t (0, 0))) : w.cell? ⟨g, 0, none⟩ = some v0 ∧ w.cell? ⟨g, 1, none⟩ = some v1 ∧ w.cell? ⟨g, 2, none⟩ = some v2 ∧ w.frozen? ⟨g, 0, none⟩ = false ∧ w.frozen? ⟨g, 1, none⟩ = false ∧ w.frozen? ⟨g, 2, none⟩ = false :=
  ⟨(blk_cell h 0).trans rfl, (blk_cell h 1).trans rfl, (blk_cell h 2).trans rfl, blk_frozen h 0, blk_frozen h 1, blk_frozen h 2⟩
theorem blkA5 {w : World} {g : Nat} {t : TypeId} {v0 v1 v2 v3 v4 : Value} (h : w.heap[g]? = some (.cells #[v0, v1, v2, v3, v4] t (0, 0))) : w.cell? ⟨g, 0, none⟩ = some v0 ∧ w.cell? ⟨g, 1, none⟩ = some v1 ∧ w.cell? ⟨g, 2, none⟩ = some v2 ∧ w.cell? ⟨g, 3, none⟩ = some v3 ∧ w.cell? ⟨g, 4, none⟩ = some v4 ∧ w.frozen? ⟨g, 0, none⟩ = false ∧ w.frozen? ⟨g, 1, none⟩ = false ∧ w.frozen? ⟨g, 2, none⟩ = false ∧ w.frozen? ⟨g, 3, none⟩ = false ∧ w.frozen? ⟨g, 4, none⟩ = false :=
  ⟨(blk_cell h 0).trans rfl, (blk_cell h 1).trans rfl, (blk_cell h 2).trans rfl, (blk_cell h 3).trans rfl, (blk_cell h 4).trans rfl, blk_frozen h 0, blk_frozen h 1, blk_frozen h 2, blk_frozen h 3, blk_frozen h 4⟩
theorem blkA6 {w : World} {g : Nat} {t : TypeId} {v0 v1 v2 v3 v4 v5 : Value} (h : w.heap[g]? = some (.cells #[v0, v1, v2, v3, v4, v5] t (0, 0))) : w.cell? ⟨g, 0, none⟩ = some v0 ∧ w.cell? ⟨g, 1, none⟩ = some v1 ∧ w.cell? ⟨g, 2, none⟩ = some v2 ∧ w.cell? ⟨g, 3, none⟩ = some v3 ∧ w.cell? ⟨g, 4, none⟩ = some v4 ∧ w.cell? ⟨g, 5, none⟩ = some v5 ∧ w.frozen? ⟨g, 0, none⟩ = false ∧ w.frozen? ⟨g, 1, none⟩ = false ∧ w.frozen? ⟨g, 2, none⟩ = false ∧ w.frozen? ⟨g, 3, none⟩ = false ∧ w.frozen? ⟨g, 4, none⟩ = false ∧ w.frozen? ⟨g, 5, none⟩ = false :=
  ⟨(blk_cell h 0).trans rfl, (blk_cell h 1).trans rfl, (blk_cell h 2).trans rfl, (blk_cell h 3).trans rfl, (blk_cell h 4).trans rfl, (blk_cell h 5).trans rfl, blk_frozen h 0, blk_frozen h 1, blk_frozen h 2, blk_frozen h 3, blk_frozen h 4, blk_frozen h 5⟩
section
variable {p q : Prop}
theorem rs_ (h : Aside0 q) (t : q → p := by intro h_; (with_reducible repeat (first | apply Kd.R_alloc | apply Kd.R_drewN | apply Kd.R_drew)); exact h_) : p := t h.out
theorem ss_ (h : Aside0 q) (t : q → p := by intro h_; (with_reducible repeat (first | apply Kd.S_alloc | apply Kd.S_drewN | apply Kd.S_drew)); exact h_) : p := t h.out
theorem vs_ (h : Aside0 q) (t : q → p := by intro h_; (with_reducible repeat (first | apply Kd.V_alloc | apply Kd.V_drewN | apply Kd.V_drew)); exact h_) : p := t h.out
theorem ag_ (h : p := by (try simp only [List.map_toArray, List.map_cons, List.map_nil]); first | done | rfl | (simp only [List.length_drop, List.length_take]; rfl)) : p := h
end
section
variable {w W0 W W1 : World} {g g' g2 : Nat} {o : Obj} {row : Option Nat}
theorem bb_ (h : Aside0 (W0.heap[g]? = some o)) (hb : Below W.heap.size W W1) (t : W0.heap[g]? = some o → W.heap[g]? = some o := by intro h_; repeat (first | (with_reducible first | exact h_ | refine blk_drewN ?_ _ | refine blk_drew ?_ | refine blk_alloc ?_ _) | refine blk_far ?_ (Aside0.out (by assumption)) _ | exact h_)) : Aside0 (W1.heap[g]? = some o) := ⟨blk_below (t h.out) hb⟩
theorem nl_ (h : Aside0 (W0.heap[g]? = some o)) (hg : g2 = W.heap.size) (t : W0.heap[g]? = some o → W.heap[g]? = some o := by intro h_; repeat (first | (with_reducible first | exact h_ | refine blk_drewN ?_ _ | refine blk_drew ?_ | refine blk_alloc ?_ _) | refine blk_far ?_ (Aside0.out (by assumption)) _ | exact h_)) : Aside0 (g ≠ g2) := ⟨by rw [hg]; exact Nat.ne_of_lt (blk_lt (t h.out))⟩
theorem ng_ (h : Aside0 (W0.heap[g]? = some o)) (hg : g2 = W.heap.size) (t : W0.heap[g]? = some o → W.heap[g]? = some o := by intro h_; repeat (first | (with_reducible first | exact h_ | refine blk_drewN ?_ _ | refine blk_drew ?_ | refine blk_alloc ?_ _) | refine blk_far ?_ (Aside0.out (by assumption)) _ | exact h_)) : Aside0 (g2 ≠ g) := ⟨by rw [hg]; exact Nat.ne_of_gt (blk_lt (t h.out))⟩
theorem gl_ (w : World) (hg : g2 = W.heap.size) (h : Below w.heap.size w W := by repeat (first | (with_reducible first | exact HB.out | apply below_alloc | apply pw_below_drewN | apply below_drew1 | refine below_set ?_ (Aside0.out (by assumption))) | exact HB.out)) : Aside0 (w.heap.size ≤ g2) := ⟨by rw [hg]; exact h.size⟩
theorem bs_ (w : World) (hb : Below W.heap.size W W1) (h : Below w.heap.size w W := by repeat (first | (with_reducible first | exact HB.out | apply below_alloc | apply pw_below_drewN | apply below_drew1 | refine below_set ?_ (Aside0.out (by assumption))) | exact HB.out)) : Aside0 (Below w.heap.size w W1) := ⟨below_step h hb⟩
end
section
variable {P : Program} {ops : Array Oper} {o : Oper} {rest : List Oper} {a : Act} {Q : Exit → Act → World → Prop}
theorem bx_ {W : World} {N : Tmp} {cs : Array Value} {t : TypeId} (h : ∀ g, g = W.heap.size → ∀ w1, w1.heap[g]? = some (.cells cs t (0, 0)) → Below W.heap.size W w1 → wpList P ops Q rest (a.put o.dst (.pointer (some ⟨g, 0, none⟩))) w1)
    (hgd : o.guard = none := by rfl) (hd : o.dst = some N := by rfl) (hrun : (execOp a.eval o).run P W = .ok (.value (.pointer (some ⟨W.heap.size, 0, none⟩))) (W.alloc (.cells cs t (0, 0))) := by first | (go_simp; done) | (go_simp; rfl)) : wpList P ops Q (o :: rest) a W := box_event hgd hd hrun h
theorem st_ {W w1 : World} {t : TypeId} {p : Tmp} {v : Operand} (h : ∀ w', w' = w1 → wpList P ops Q rest a w') (hgd : o.guard = none := by rfl) (ho : o.op = .store t (.tmp p) v := by rfl) (hN : o.dst = none := by rfl)
    (hrun : (execOp a.eval o).run P W = .ok .skip w1 := by first | (go_simp; done) | (go_simp; rfl)) : wpList P ops Q (o :: rest) a W := store_event hgd ho hN hrun h
end
end Go.Proofs.Ytemhpbdlonfikaa.P
