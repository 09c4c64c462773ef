/- The contract of bits.Len64 at small numbers (its table is a text of 256 bytes), in the printer's form. -/
import Derived.Test.YtohpboblmmbjnaaP0
import Derived.Outline
namespace Go.Proofs.Ytohpboblmmbjnaa.P
open Go.RowKit Go.Proofs.YtohpboblmmbjnaaW.PrintWords

/-- How many digits to the base 2 a number has; told of small ones alone. -/
def len7 (n : Nat) : Int := if n = 0 then 0 else (Nat.log2 n : Int) + 1
def bits_Len64.f (a0 : Int) : Option Int := if 0 ≤ a0 ∧ a0 < 128 then some (len7 a0.toNat) else none
def lenTab : Array UInt8 := #[0, 1, 2, 2, 3, 3, 3, 3, 4, 4, 4, 4, 4, 4, 4, 4, 5, 5, 5, 5, 5, 5, 5, 5, 5, 5, 5, 5, 5, 5, 5, 5, 6, 6, 6, 6, 6, 6, 6, 6, 6, 6, 6, 6, 6, 6, 6, 6, 6, 6, 6, 6, 6, 6, 6, 6, 6, 6, 6, 6, 6, 6, 6, 6, 7, 7, 7, 7, 7, 7, 7, 7, 7, 7, 7, 7, 7, 7, 7, 7, 7, 7, 7, 7, 7, 7, 7, 7, 7, 7, 7, 7, 7, 7, 7, 7, 7, 7, 7, 7, 7, 7, 7, 7, 7, 7, 7, 7, 7, 7, 7, 7, 7, 7, 7, 7, 7, 7, 7, 7, 7, 7, 7, 7, 7, 7, 7, 7, 8, 8, 8, 8, 8, 8, 8, 8, 8, 8, 8, 8, 8, 8, 8, 8, 8, 8, 8, 8, 8, 8, 8, 8, 8, 8, 8, 8, 8, 8, 8, 8, 8, 8, 8, 8, 8, 8, 8, 8, 8, 8, 8, 8, 8, 8, 8, 8, 8, 8, 8, 8, 8, 8, 8, 8, 8, 8, 8, 8, 8, 8, 8, 8, 8, 8, 8, 8, 8, 8, 8, 8, 8, 8, 8, 8, 8, 8, 8, 8, 8, 8, 8, 8, 8, 8, 8, 8, 8, 8, 8, 8, 8, 8, 8, 8, 8, 8, 8, 8, 8, 8, 8, 8, 8, 8, 8, 8, 8, 8, 8, 8, 8, 8, 8, 8, 8, 8, 8, 8, 8, 8, 8, 8, 8, 8, 8, 8]
theorem lenTab_at : ∀ m : Fin 128, wrap64 (wrap64 ((lenTab.getD m.val 0).toNat : Int)) = len7 m.val := by decide +kernel
theorem lenTab_byte (n : Nat) (h : n < lenTab.size) : (⟨lenTab⟩ : ByteArray)[n]'h = lenTab.getD n 0 := by
  show lenTab[n] = _
  simp [Array.getD, h]

set_option maxHeartbeats 4000000 in
set_option maxRecDepth 100000 in
theorem bits_Len64.calls (a0 : Int) (r : Int) (w : World) (h : bits_Len64.f a0 = some r) :
    Calls Try.prog 79 #[.int .u64 a0] w fun e w' => e = .returned (.int .i64 r) ∧ Drawn0 w w' := by
  unfold bits_Len64.f at h
  by_cases hb : 0 ≤ a0 ∧ a0 < 128
  · rw [if_pos hb] at h
    obtain rfl := Option.some.inj h
    clear h
    obtain ⟨h0, h1⟩ := hb
    obtain ⟨n, rfl⟩ := Int.eq_ofNat_of_zero_le h0
    have b1 : decide ((4294967296 : Int) ≤ (n : Int)) = false := decide_eq_false (by omega)
    have b2 : decide ((65536 : Int) ≤ (n : Int)) = false := decide_eq_false (by omega)
    have b3 : decide ((256 : Int) ≤ (n : Int)) = false := decide_eq_false (by omega)
    have q1 : (n : Int) % 256 = n := by omega
    go_enter Try.func79, Try.ntmps79
    go_wp2
    go_ret
    refine ⟨congrArg (fun x => Ending.returned (.int .i64 x)) ?_, Drawn0.refl _⟩
    refine Eq.trans ?_ (lenTab_at ⟨n, by omega⟩)
    show wrap64 (wrap64 ((((⟨lenTab⟩ : ByteArray)[n]'(by show n < 256; omega)).toNat : Int))) = _
    rw [lenTab_byte]
  · rw [if_neg hb] at h
    cases h
end Go.Proofs.Ytohpboblmmbjnaa.P
