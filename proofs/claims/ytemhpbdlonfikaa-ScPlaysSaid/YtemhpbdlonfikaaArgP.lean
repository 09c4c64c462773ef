/- What a program that is handed in holds. -/
import Derived.Test.YtemhpbdlonfikaaOpen
import Derived.Test.YtemhpbdlonfikaaP0
namespace Go.Proofs.Ytemhpbdlonfikaa.P
open Go.RowKit Go.ChangeShapes Go.WideShapes Go.Proofs.YtemhpbdlonfikaaW.PrintWords

set_option maxRecDepth 100000 in
theorem opens_k87 : Opens Try.prog 87 k87.K (fun _ => True) := by
  intro H enc W base spare held fuel cs x h hw
  obtain ⟨xs, n, _, rfl, hl, hlen, hf⟩ := DataW.trod_struct Try.underlying87 h
  have hc : Try.prog.cellsOf 87 = 5 := by kernel_rfl
  have h2 : Try.prog.cellsOf 2 = 1 := by kernel_rfl
  have h3 : Try.prog.cellsOf 3 = 1 := by kernel_rfl
  rw [hc] at hl
  match cs, hl with
  | [u0, u1, u2, u3, u4], _ =>
    obtain ⟨a, ha, _⟩ := field_opens (t := 87) 0 _ rfl (opens_int (k := .i64) Try.underlying3) Try.underlying87 hlen hf hw (u := [u0]) (by simp [h3])
    obtain ⟨b, hb, _⟩ := field_opens (t := 87) 1 _ rfl (opens_int (k := .i64) Try.underlying3) Try.underlying87 hlen hf hw (u := [u1]) (by simp [h3])
    obtain ⟨c, hc', _⟩ := field_opens (t := 87) 2 _ rfl (opens_int (k := .i64) Try.underlying3) Try.underlying87 hlen hf hw (u := [u2]) (by simp [h3])
    obtain ⟨d, hd, _⟩ := field_opens (t := 87) 3 _ rfl (opens_int (k := .i64) Try.underlying3) Try.underlying87 hlen hf hw (u := [u3]) (by simp [h3])
    obtain ⟨e, he, _⟩ := field_opens (t := 87) 4 _ rfl (opens_int (k := .i64) Try.underlying2) Try.underlying87 hlen hf hw (u := [u4]) (by simp [h2])
    have ha' : [u0] = [Value.int .i64 a] := ha
    have hb' : [u1] = [Value.int .i64 b] := hb
    have hc' : [u2] = [Value.int .i64 c] := hc'
    have hd' : [u3] = [Value.int .i64 d] := hd
    have he' : [u4] = [Value.int .i64 e] := he
    obtain rfl : u0 = .int .i64 a := by injection ha'
    obtain rfl : u1 = .int .i64 b := by injection hb'
    obtain rfl : u2 = .int .i64 c := by injection hc'
    obtain rfl : u3 = .int .i64 d := by injection hd'
    obtain rfl : u4 = .int .i64 e := by injection he'
    exact ⟨⟨a, b, c, d, e⟩, k87_mk W ⟨a, b, c, d, e⟩, trivial⟩
set_option maxRecDepth 100000 in
theorem opens_prog {H : Type} {enc : TypeId × Value → H} {W : World} {r : Reach} {b0 base : Nat} {spare : Nat → Bool} {held : Bool} {v : Value} {d : DataW H} {ps : List MemPlace} (hv : Value.okWide Try.prog W r b0 28 v)
    (h : DataW.Trod enc Try.prog W base spare held 28 v d ps) (hw : (d.weights Try.prog 28).all (· ≤ reachBytes) = true) :
    ∃ (A0 A1 A2 A3 A4 : Option Addr) (c0 c1 c2 c3 c4 : Nat) (th : List (List S87)) (rg : List (List ByteArray)) (lo : List ByteArray) (r0 : List (List Int)) (m0 : List Int),
      v = .agg #[.slice A0 th.length c0, .slice A1 rg.length c1, .slice A2 lo.length c2, .slice A3 r0.length c3, .slice A4 m0.length c4] ∧
      Kd.C (Kd.slice 87 k87) W A0 th.length th ∧ th.length ≤ c0 ∧ Kd.C (Kd.slice 9 Kd.string) W A1 rg.length rg ∧ rg.length ≤ c1 ∧ Kd.C Kd.string W A2 lo.length lo ∧ lo.length ≤ c2 ∧
      Kd.C (Kd.slice 2 (Kd.int .i64)) W A3 r0.length r0 ∧ r0.length ≤ c3 ∧ Kd.C (Kd.int .i64) W A4 m0.length m0 ∧ m0.length ≤ c4 ∧
      th.length < 5864062014806 ∧ rg.length < 5864062014806 ∧ lo.length ≤ 8796093022208 ∧ (∀ x ∈ th, x.length ≤ 3518437208883) ∧ (∀ x ∈ rg, x.length ≤ 8796093022208) ∧ ∀ s ∈ lo, s.size ≤ 140737488351232 := by
  obtain ⟨cs, rfl, hsz⟩ := okWide_struct Try.underlying28 hv
  obtain ⟨fuel, h⟩ := h
  obtain ⟨xs, n, _, hx, hl, hlen, hf⟩ := DataW.trod_struct Try.underlying28 h
  injection hx with hx _
  subst hx
  have hR : reachBytes = 140737488351232 := by decide
  have c28 : Try.prog.cellsOf 28 = 5 := by kernel_rfl
  have c22 : Try.prog.cellsOf 22 = 1 := by kernel_rfl
  have c23 : Try.prog.cellsOf 23 = 1 := by kernel_rfl
  have c24 : Try.prog.cellsOf 24 = 1 := by kernel_rfl
  have c25 : Try.prog.cellsOf 25 = 1 := by kernel_rfl
  have c26 : Try.prog.cellsOf 26 = 1 := by kernel_rfl
  have b85 : Try.prog.bytesOf 85 = 24 := by kernel_rfl
  have b87 : Try.prog.bytesOf 87 = 40 := by kernel_rfl
  have b24 : Try.prog.bytesOf 24 = 24 := by kernel_rfl
  have b9 : Try.prog.bytesOf 9 = 16 := by kernel_rfl
  have o2 := opens_int (k := .i64) Try.underlying2
  have o9 := opens_string Try.underlying9
  have o85 := opens_slice (d := k87) Try.underlying85 (by kernel_rfl) opens_k87
  have o22 := opens_slice (d := Kd.slice 87 k87) Try.underlying22 (by kernel_rfl) o85
  have o24 := opens_slice (d := Kd.string) Try.underlying24 (by kernel_rfl) o9
  have o23 := opens_slice (d := Kd.slice 9 Kd.string) Try.underlying23 (by kernel_rfl) o24
  have o26 := opens_slice (d := Kd.int .i64) Try.underlying26 (by kernel_rfl) o2
  have o25 := opens_slice (d := Kd.slice 2 (Kd.int .i64)) Try.underlying25 (by kernel_rfl) o26
  obtain ⟨L, rfl⟩ : ∃ L : List Value, cs = L.toArray := ⟨cs.toList, by simp⟩
  have hl' : L.length = 5 := by rw [c28] at hsz; simpa using hsz
  simp only [Value.cells] at hf
  match L, hl' with
  | [u0, u1, u2, u3, u4], _ =>
    obtain ⟨th, ⟨A0, c0, e0, l0, k0⟩, g0, g0'⟩ := field_opens (t := 28) 0 _ rfl o22 Try.underlying28 hlen hf hw (u := [u0]) (by simp [c22])
    obtain ⟨rg, ⟨A1, c1, e1, l1, k1⟩, g1, g1'⟩ := field_opens (t := 28) 1 _ rfl o23 Try.underlying28 hlen hf hw (u := [u1]) (by simp [c23])
    obtain ⟨lo, ⟨A2, c2, e2, l2, k2⟩, g2, g2'⟩ := field_opens (t := 28) 2 _ rfl o24 Try.underlying28 hlen hf hw (u := [u2]) (by simp [c24])
    obtain ⟨r0, ⟨A3, c3, e3, l3, k3⟩, _, _⟩ := field_opens (t := 28) 3 _ rfl o25 Try.underlying28 hlen hf hw (u := [u3]) (by simp [c25])
    obtain ⟨m0, ⟨A4, c4, e4, l4, k4⟩, _, _⟩ := field_opens (t := 28) 4 _ rfl o26 Try.underlying28 hlen hf hw (u := [u4]) (by simp [c26])
    injection e0 with e0 _
    injection e1 with e1 _
    injection e2 with e2 _
    injection e3 with e3 _
    injection e4 with e4 _
    subst e0 e1 e2 e3 e4
    rw [b85] at g0
    rw [b24] at g1
    rw [b9] at g2
    refine ⟨A0, A1, A2, A3, A4, c0, c1, c2, c3, c4, th, rg, lo, r0, m0, rfl, k0, l0, k1, l1, k2, l2, k3, l3, k4, l4, by omega, by omega, by omega, fun x hx => ?_, fun x hx => ?_, fun s hs => ?_⟩
    · have := (g0' x hx).1
      rw [b87] at this
      omega
    · have := (g1' x hx).1
      rw [b9] at this
      omega
    · have := g2' s hs
      omega
end Go.Proofs.Ytemhpbdlonfikaa.P
