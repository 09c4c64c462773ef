import Derived.Test.YtohpboblmmbjnaaVa
import Derived.SizedLaws
import Derived.Deep.Slices
import Derived.ChangeArms
import Derived.ChangeOld
import Derived.DataReads
import Derived.WideShapes
import Derived.Test.YtohpboblmmbjnaaP0
/-! What a law's argument holds, out of what its row says of it (DataW.trod): each row that it reaches, its numbers' bounds, its lengths' bounds. -/
namespace Go.Proofs.Ytohpboblmmbjnaa.P
open Go.RowKit Go.ChangeShapes Go.WideShapes Go.Deep Go.Proofs.YtohpboblmmbjnaaW.PrintWords

def Opens {α : Type} (P : Program) (t : TypeId) (K : World → α → List Value → Prop) (G : α → Prop) : Prop :=
  ∀ (H : Type) (enc : TypeId × Value → H) (W : World) (base : Nat) (spare : Nat → Bool) (held : Bool) (fuel : Nat) (cs : List Value) (x : DataW H × List MemPlace),
    DataW.trod enc P W base spare held fuel t cs = some x → (x.1.weights P t).all (· ≤ reachBytes) = true → ∃ p, K W p cs ∧ G p

section
variable {P : Program} {t e : TypeId}
theorem opens_int {k : IntKind} (ht : P.underlying t = some (.int k)) : Opens P t (Kd.int k).K (fun n => (Lit.int k n).wf = true) := by
  intro H enc W base spare held fuel cs x h _
  obtain ⟨n, rfl, _, hw⟩ := DataW.trod_int ht h
  exact ⟨n, rfl, hw⟩
theorem weightsAll_mem {H : Type} {d : DataW H} {n : Nat} (hn : n ∈ d.weights P e) : ∀ (l : List (DataW H)), d ∈ l → n ∈ DataW.weightsAll P e l
  | [], h => by cases h
  | y :: r, h => by
    simp only [DataW.weightsAll, List.mem_append]
    rcases List.mem_cons.1 h with rfl | h
    · exact .inl hn
    · exact .inr (weightsAll_mem hn r h)

theorem opens_slice {α : Type} {d : Kd α} {G : α → Prop} (ht : P.underlying t = some (.slice e)) (he : P.cellsOf e = d.sz) (ho : Opens P e d.K G) :
    Opens P t (Kd.slice e d).K (fun xs => xs.length * P.bytesOf e ≤ reachBytes ∧ ∀ p ∈ xs, G p) := by
  intro H enc W base spare held fuel cs x h hw
  rcases open_slice ht h with ⟨rfl, rfl⟩ | ⟨a, len, cap, m, n, D, Pl, rfl, hb, hl, hc, hm, rfl, hel⟩
  · refine ⟨[], ⟨none, 0, rfl, Nat.le_refl _, rfl, by simp, fun h => absurd h (by simp)⟩, by simp, fun p hp => by cases hp⟩
  · have hlm : len ≤ m := by rw [hm]; split <;> omega
    simp only [DataW.weights, ht, List.all_cons, List.length_map, List.length_range, Bool.and_eq_true, decide_eq_true_eq] at hw
    have hi : ∀ i : Fin len, ∃ p, ∃ cs', W.cells? base (a.add (i.val * P.cellsOf e)) (P.cellsOf e) = some cs' ∧ d.K W p cs' ∧ G p := by
      intro i
      obtain ⟨cs', h1, h2⟩ := hel i.val (by omega)
      obtain ⟨p, hp, hg⟩ := ho H enc W base spare held n cs' _ h2 (List.all_eq_true.2 (fun q hq => by
        refine List.all_eq_true.1 hw.2 q ?_
        rw [List.mem_append]
        exact .inl (weightsAll_mem hq _ (List.mem_map.2 ⟨i.val, List.mem_range.2 i.isLt, rfl⟩))))
      exact ⟨p, cs', h1, hp, hg⟩
    obtain ⟨f, hf⟩ := Classical.axiomOfChoice hi
    refine ⟨List.ofFn f, ⟨some a, cap, by simp, by simpa using hl, by simp, ?_, fun hn => ⟨a, rfl, fun j p hj => ?_⟩⟩, ?_, fun p hp => ?_⟩
    · simp only [List.length_ofFn]
      have : maxLen ≤ 9223372036854775807 := by decide
      omega
    · obtain ⟨hjl, rfl⟩ := List.getElem?_eq_some_iff.1 hj
      rw [List.length_ofFn] at hjl
      rw [List.getElem_ofFn]
      obtain ⟨cs', h1, h2, _⟩ := hf ⟨j, hjl⟩
      obtain ⟨_, h3, h4⟩ := World.cells?_some h1
      refine ⟨cs', h3.trans he, h2, fun i u hu => ?_⟩
      have hi1 := (List.getElem?_eq_some_iff.1 hu).1
      have h5 := h4 i (by omega)
      rw [hu, Go.Deep.add_add, he] at h5
      exact h5
    · simp only [List.length_ofFn]
      exact Nat.le_trans (Nat.mul_le_mul_right _ (Nat.le_add_right _ _)) hw.1
    · obtain ⟨i, rfl⟩ := List.mem_ofFn.1 hp
      obtain ⟨_, _, _, h⟩ := hf i
      exact h

/-- A struct's fields, told by its cells. -/
theorem weightsEach_mem {H : Type} {n : Nat} : ∀ (ts : List TypeId) (l : List (DataW H)) (i : Nat) (t : TypeId) (d : DataW H), ts[i]? = some t → l[i]? = some d → n ∈ d.weights P t → n ∈ DataW.weightsEach P ts l
  | _, _, _, _, _, ht, hd, hn => DataW.weights_mem_each ht hd _ hn
theorem field_opens {H : Type} {enc : TypeId × Value → H} {W : World} {base : Nat} {spare : Nat → Bool} {held : Bool} {cs : List Value} {fs : Array Field} {xs : List (DataW H × List MemPlace)} {n : Nat}
    {α : Type} {K : World → α → List Value → Prop} {G : α → Prop} (i : Nat) (f : Field) (hf : fs[i]? = some f) (ho : Opens P f.type K G) (ht : P.underlying t = some (.struct fs)) (hl : xs.length = fs.size)
    (h : ∀ (i : Nat) (f : Field), fs[i]? = some f → DataW.trod enc P W base spare held n f.type ((cs.drop f.offset).take (P.cellsOf f.type)) = xs[i]?)
    (hw : ((DataW.agg (xs.map (·.1))).weights P t).all (· ≤ reachBytes) = true) {u : List Value} (hu : (cs.drop f.offset).take (P.cellsOf f.type) = u) : ∃ p, K W p u ∧ G p := by
  subst hu
  have hi : i < xs.length := by
    rw [hl]
    exact (Array.getElem?_eq_some_iff.1 hf).1
  have h1 := h i f hf
  rw [List.getElem?_eq_getElem hi] at h1
  refine ho H enc W base spare held n _ _ h1 (List.all_eq_true.2 (fun q hq => ?_))
  refine List.all_eq_true.1 hw q ?_
  simp only [DataW.weights, ht]
  refine weightsEach_mem _ _ i f.type xs[i].1 ?_ ?_ hq
  · rw [List.getElem?_map, Array.getElem?_toList, hf]
    rfl
  · rw [List.getElem?_map, List.getElem?_eq_getElem hi]
    rfl
end
end Go.Proofs.Ytohpboblmmbjnaa.P
/- What a Kind that is handed in holds. -/
namespace Go.Proofs.Ytohpboblmmbjnaa.P
open Go.RowKit Go.ChangeShapes Go.WideShapes Go.Proofs.YtohpboblmmbjnaaW.PrintWords

set_option maxRecDepth 100000 in
theorem opens_kind_n {H : Type} {enc : TypeId × Value → H} {W : World} {r : Reach} {b0 base : Nat} {spare : Nat → Bool} {held : Bool} {v : Value} {d : DataW H} {ps : List MemPlace} (hv : Value.okWide Try.prog W r b0 24 v)
    (h : DataW.Trod enc Try.prog W base spare held 24 v d ps) (hw : (d.weights Try.prog 24).all (· ≤ reachBytes) = true) :
    ∃ (K N : Int) (A : Option Addr) (c : Nat) (l : List Int), v = .agg #[.int .i64 K, .slice A l.length c, .int .i64 N] ∧ Kd.C (Kd.int .i64) W A l.length l ∧ l.length ≤ c ∧ (l.length + 1) * 8 ≤ 140737488355328 ∧ ∀ x ∈ l, (Lit.int .i64 x).wf = true := by
  obtain ⟨cs, rfl, hsz⟩ := okWide_struct Try.underlying24 hv
  obtain ⟨fuel, h⟩ := h
  obtain ⟨xs, n, _, hx, hl, hlen, hf⟩ := DataW.trod_struct Try.underlying24 h
  injection hx with hx _
  subst hx
  have c24 : Try.prog.cellsOf 24 = 3 := by kernel_rfl
  have c22 : Try.prog.cellsOf 22 = 1 := by kernel_rfl
  have c3 : Try.prog.cellsOf 3 = 1 := by kernel_rfl
  have o3 := opens_int (k := .i64) Try.underlying3
  have o22 := opens_slice (d := Kd.int .i64) Try.underlying22 (by kernel_rfl) o3
  obtain ⟨L, rfl⟩ : ∃ L : List Value, cs = L.toArray := ⟨cs.toList, by simp⟩
  have hl' : L.length = 3 := by rw [c24] at hsz; simpa using hsz
  simp only [Value.cells] at hf
  match L, hl' with
  | [u0, u1, u2], _ =>
    obtain ⟨K, e0, _⟩ := field_opens (t := 24) 0 _ rfl o3 Try.underlying24 hlen hf hw (u := [u0]) (by simp [c3])
    obtain ⟨l, ⟨A, c, e1, l1, k1⟩, g1, g1'⟩ := field_opens (t := 24) 1 _ rfl o22 Try.underlying24 hlen hf hw (u := [u1]) (by simp [c22])
    obtain ⟨N, e2, _⟩ := field_opens (t := 24) 2 _ rfl o3 Try.underlying24 hlen hf hw (u := [u2]) (by simp [c3])
    have e0' : [u0] = [Value.int .i64 K] := e0
    have e2' : [u2] = [Value.int .i64 N] := e2
    injection e0' with e0' _
    injection e1 with e1 _
    injection e2' with e2' _
    subst e0' e1 e2'
    have b3 : Try.prog.bytesOf 3 = 8 := by kernel_rfl
    rw [b3] at g1
    have hrb : reachBytes = 140737488351232 := by kernel_rfl
    exact ⟨K, N, A, c, l, rfl, k1, l1, by omega, g1'⟩
end Go.Proofs.Ytohpboblmmbjnaa.P
