/- The contract of strings.Count at a text of one line feed, off the kit's shelf, in the printer's form. -/
import Derived.Test.YtfmpkngillljeaaP0
import Derived.Test.YtfmpkngillljeaaShelf
namespace Go.Proofs.Ytfmpkngillljeaa.P
open Go.RowKit Go.Proofs.YtfmpkngillljeaaW.PrintWords

/-- How often a line feed stands in a text; told of no other separator. -/
def strings_Count.f (a0 a1 : ByteArray) : Option Int := if a1 = ⟨#[10]⟩ then some (Lib.countByte a0.data.toList 10 : Int) else none

theorem strings_Count.calls (a0 a1 : ByteArray) (r : Int) (w : World) (h : strings_Count.f a0 a1 = some r) :
    Calls Try.prog 23 #[.string a0, .string a1] w fun e w' => e = .returned (.int .i64 r) ∧ Drawn0 w w' := by
  unfold strings_Count.f at h
  by_cases h1 : a1 = ⟨#[10]⟩
  · rw [if_pos h1] at h
    subst h1
    obtain rfl := Option.some.inj h
    exact (Try.strings_Count_one a0 10 w).mono fun e w' ⟨he, hw⟩ => ⟨he, ⟨⟨0, hw⟩⟩⟩
  · rw [if_neg h1] at h
    cases h
end Go.Proofs.Ytfmpkngillljeaa.P
