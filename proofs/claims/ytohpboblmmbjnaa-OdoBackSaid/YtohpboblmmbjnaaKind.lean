/- What a Kind that is handed in holds. -/
import Derived.Test.YtohpboblmmbjnaaOpen
import Derived.Test.YtohpboblmmbjnaaP0
namespace Go.Proofs.Ytohpboblmmbjnaa.P
open Go.RowKit Go.ChangeShapes Go.WideShapes Go.Proofs.YtohpboblmmbjnaaW.PrintWords

set_option maxRecDepth 100000 in
theorem opens_kind {H : Type} {enc : TypeId × Value → H} {W : World} {r : Reach} {b0 base : Nat} {spare : Nat → Bool} {held : Bool} {v : Value} {d : DataW H} {ps : List MemPlace} (hv : Value.okWide Try.prog W r b0 24 v)
    (h : DataW.Trod enc Try.prog W base spare held 24 v d ps) (hw : (d.weights Try.prog 24).all (· ≤ reachBytes) = true) :
    ∃ (K N : Int) (A : Option Addr) (c : Nat) (l : List Int), v = .agg #[.int .i64 K, .slice A l.length c, .int .i64 N] ∧ Kd.C (Kd.int .i64) W A l.length l ∧ l.length ≤ c ∧ ∀ x ∈ l, (Lit.int .i64 x).wf = true := by
  obtain ⟨cs, rfl, hsz⟩ := okWide_struct Try.underlying24 hv
  obtain ⟨fuel, h⟩ := h
  obtain ⟨xs, n, _, hx, hl, hlen, hf⟩ := DataW.trod_struct Try.underlying24 h
  injection hx with hx _
  subst hx
  have c24 : Try.prog.cellsOf 24 = 3 := by kernel_rfl
  have c22 : Try.prog.cellsOf 22 = 1 := by kernel_rfl
  have c3 : Try.prog.cellsOf 3 = 1 := by kernel_rfl
  have o3 := opens_int (k := .i64) Try.underlying3
  have o22 := opens_slice (d := Kd.int .i64) Try.underlying22 (by kernel_rfl) o3
  obtain ⟨L, rfl⟩ : ∃ L : List Value, cs = L.toArray := ⟨cs.toList, by simp⟩
  have hl' : L.length = 3 := by rw [c24] at hsz; simpa using hsz
  simp only [Value.cells] at hf
  match L, hl' with
  | [u0, u1, u2], _ =>
    obtain ⟨K, e0, _⟩ := field_opens (t := 24) 0 _ rfl o3 Try.underlying24 hlen hf hw (u := [u0]) (by simp [c3])
    obtain ⟨l, ⟨A, c, e1, l1, k1⟩, g1, g1'⟩ := field_opens (t := 24) 1 _ rfl o22 Try.underlying24 hlen hf hw (u := [u1]) (by simp [c22])
    obtain ⟨N, e2, _⟩ := field_opens (t := 24) 2 _ rfl o3 Try.underlying24 hlen hf hw (u := [u2]) (by simp [c3])
    have e0' : [u0] = [Value.int .i64 K] := e0
    have e2' : [u2] = [Value.int .i64 N] := e2
    injection e0' with e0' _
    injection e1 with e1 _
    injection e2' with e2' _
    subst e0' e1 e2'
    exact ⟨K, N, A, c, l, rfl, k1, l1, g1'⟩
end Go.Proofs.Ytohpboblmmbjnaa.P
