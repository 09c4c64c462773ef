/- What a State that is handed in holds. -/
import Derived.Test.YtgooppfeikijeaaOpen
import Derived.Test.YtgooppfeikijeaaP0
namespace Go.Proofs.Ytgooppfeikijeaa.P
open Go.RowKit Go.ChangeShapes Go.WideShapes Go.Proofs.YtgooppfeikijeaaW.PrintWords

theorem opens_k37 : Opens Try.prog 37 k37.K (fun _ => True) := by
  intro H enc W base spare held fuel cs x h hw
  obtain ⟨xs, n, _, rfl, hl, hlen, hf⟩ := DataW.trod_struct Try.underlying37 h
  have hc : Try.prog.cellsOf 37 = 2 := by kernel_rfl
  have h2 : Try.prog.cellsOf 2 = 1 := by kernel_rfl
  have h3 : Try.prog.cellsOf 3 = 1 := by kernel_rfl
  rw [hc] at hl
  match cs, hl with
  | [u0, u1], _ =>
    obtain ⟨a, ha, _⟩ := field_opens (t := 37) 0 _ rfl (opens_int (k := .i64) Try.underlying3) Try.underlying37 hlen hf hw (u := [u0]) (by simp [h3])
    obtain ⟨b, hb, _⟩ := field_opens (t := 37) 1 _ rfl (opens_int (k := .i64) Try.underlying2) Try.underlying37 hlen hf hw (u := [u1]) (by simp [h2])
    have ha' : [u0] = [Value.int .i64 a] := ha
    have hb' : [u1] = [Value.int .i64 b] := hb
    obtain rfl : u0 = .int .i64 a := by injection ha'
    obtain rfl : u1 = .int .i64 b := by injection hb'
    exact ⟨⟨a, b⟩, k37_mk W ⟨a, b⟩, trivial⟩

theorem opens_state {H : Type} {enc : TypeId × Value → H} {W : World} {r : Reach} {b0 base : Nat} {spare : Nat → Bool} {held : Bool} {v : Value} {d : DataW H} {ps : List MemPlace} (hv : Value.okWide Try.prog W r b0 27 v)
    (h : DataW.Trod enc Try.prog W base spare held 27 v d ps) (hw : (d.weights Try.prog 27).all (· ≤ reachBytes) = true) :
    ∃ (A0 A1 A2 A3 A4 : Option Addr) (c0 c1 c2 c3 c4 : Nat) (p q : List Int) (rg : List (List Int)) (me : List Int) (bf : List (List S37)) (lk : Int),
      v = .agg #[.slice A0 p.length c0, .slice A1 q.length c1, .slice A2 rg.length c2, .slice A3 me.length c3, .slice A4 bf.length c4, .int .i64 lk] ∧
      Kd.C (Kd.int .i64) W A0 p.length p ∧ p.length ≤ c0 ∧ Kd.C (Kd.int .i64) W A1 q.length q ∧ q.length ≤ c1 ∧ Kd.C (Kd.slice 2 (Kd.int .i64)) W A2 rg.length rg ∧ rg.length ≤ c2 ∧
      Kd.C (Kd.int .i64) W A3 me.length me ∧ me.length ≤ c3 ∧ Kd.C (Kd.slice 37 k37) W A4 bf.length bf ∧ bf.length ≤ c4 ∧
      p.length < 17592186044416 ∧ q.length < 17592186044416 ∧ me.length < 17592186044416 ∧ rg.length < 5864062014805 ∧ bf.length < 5864062014805 ∧ (∀ x ∈ rg, x.length < 17592186044416) ∧ ∀ x ∈ bf, x.length < 8796093022208 := by
  obtain ⟨cs, rfl, hsz⟩ := okWide_struct Try.underlying27 hv
  obtain ⟨fuel, h⟩ := h
  obtain ⟨xs, n, _, hx, hl, hlen, hf⟩ := DataW.trod_struct Try.underlying27 h
  injection hx with hx _
  subst hx
  have hR : reachBytes = 140737488351232 := by decide
  have c27 : Try.prog.cellsOf 27 = 6 := by kernel_rfl
  have c22 : Try.prog.cellsOf 22 = 1 := by kernel_rfl
  have c23 : Try.prog.cellsOf 23 = 1 := by kernel_rfl
  have c24 : Try.prog.cellsOf 24 = 1 := by kernel_rfl
  have c25 : Try.prog.cellsOf 25 = 1 := by kernel_rfl
  have c3 : Try.prog.cellsOf 3 = 1 := by kernel_rfl
  have b3 : Try.prog.bytesOf 3 = 8 := by kernel_rfl
  have b2 : Try.prog.bytesOf 2 = 8 := by kernel_rfl
  have b24 : Try.prog.bytesOf 24 = 24 := by kernel_rfl
  have b32 : Try.prog.bytesOf 32 = 24 := by kernel_rfl
  have b37 : Try.prog.bytesOf 37 = 16 := by kernel_rfl
  have o3 := opens_int (k := .i64) Try.underlying3
  have o2 := opens_int (k := .i64) Try.underlying2
  have o22 := opens_slice (d := Kd.int .i64) Try.underlying22 (by kernel_rfl) o3
  have o24 := opens_slice (d := Kd.int .i64) Try.underlying24 (by kernel_rfl) o2
  have o23 := opens_slice (d := Kd.slice 2 (Kd.int .i64)) Try.underlying23 (by kernel_rfl) o24
  have o32 := opens_slice (d := k37) Try.underlying32 (by kernel_rfl) opens_k37
  have o25 := opens_slice (d := Kd.slice 37 k37) Try.underlying25 (by kernel_rfl) o32
  obtain ⟨L, rfl⟩ : ∃ L : List Value, cs = L.toArray := ⟨cs.toList, by simp⟩
  have hl' : L.length = 6 := by rw [c27] at hsz; simpa using hsz
  simp only [Value.cells] at hf
  match L, hl' with
  | [u0, u1, u2, u3, u4, u5], _ =>
    obtain ⟨p, ⟨A0, c0, e0, l0, k0⟩, g0, _⟩ := field_opens (t := 27) 0 _ rfl o22 Try.underlying27 hlen hf hw (u := [u0]) (by simp [c22])
    obtain ⟨q, ⟨A1, c1, e1, l1, k1⟩, g1, _⟩ := field_opens (t := 27) 1 _ rfl o22 Try.underlying27 hlen hf hw (u := [u1]) (by simp [c22])
    obtain ⟨rg, ⟨A2, c2, e2, l2, k2⟩, g2, g2'⟩ := field_opens (t := 27) 2 _ rfl o23 Try.underlying27 hlen hf hw (u := [u2]) (by simp [c23])
    obtain ⟨me, ⟨A3, c3', e3, l3, k3⟩, g3, _⟩ := field_opens (t := 27) 3 _ rfl o24 Try.underlying27 hlen hf hw (u := [u3]) (by simp [c24])
    obtain ⟨bf, ⟨A4, c4, e4, l4, k4⟩, g4, g4'⟩ := field_opens (t := 27) 4 _ rfl o25 Try.underlying27 hlen hf hw (u := [u4]) (by simp [c25])
    obtain ⟨lk, e5, _⟩ := field_opens (t := 27) 5 _ rfl o3 Try.underlying27 hlen hf hw (u := [u5]) (by simp [c3])
    have e5' : [u5] = [Value.int .i64 lk] := e5
    injection e0 with e0 _
    injection e1 with e1 _
    injection e2 with e2 _
    injection e3 with e3 _
    injection e4 with e4 _
    injection e5' with e5' _
    subst e0 e1 e2 e3 e4 e5'
    rw [b3] at g0 g1
    rw [b24] at g2
    rw [b2] at g3
    rw [b32] at g4
    refine ⟨A0, A1, A2, A3, A4, c0, c1, c2, c3', c4, p, q, rg, me, bf, lk, rfl, k0, l0, k1, l1, k2, l2, k3, l3, k4, l4, by omega, by omega, by omega, by omega, by omega, fun x hx => ?_, fun x hx => ?_⟩
    · have := (g2' x hx).1
      rw [b2] at this
      omega
    · have := (g4' x hx).1
      rw [b37] at this
      omega
end Go.Proofs.Ytgooppfeikijeaa.P
