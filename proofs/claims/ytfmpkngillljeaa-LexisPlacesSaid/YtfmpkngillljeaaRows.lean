/-
  No cell of these rows narrows 'for every input' (looked for: loops, veiled, ifaces, maps, wideKeys, modest, calm, conditions, laid).
  DERIVED. THE GIVEN ROWS OF THIS SEAT. 4 by the template 'for every input the law returns true; each argument reads behind the call as it read before'; 0 by the template 'total and deterministic' (their statements: YtfmpkngillljeaaTotals.lean).
  GIVEN WITH THE SEED: the statements are not yours to turn. If you find one false, say at which input.
  Laid BY PROGRAM, IN A SANDBOX (cutbox-rows.mjs): the forced cells as the released guide's own fill.sh prints them over the translation cc244f64725b8a6d… (all of the seat's roots in one cut). By AI agents, Wed Nov 11 2026. No macro, syntax, notation, axiom, sorry.
-/
import Derived.Test.YtfmpkngillljeaaChecked
import GoSem.Claim
import GoSem.ClaimJoined
import GoSem.ClaimMapViews
import Derived.JoinedTies
import Derived.KernelRfl
namespace Go.Proofs.Ytfmpkngillljeaa
/- THE CELL 'sum', in the pinned program and in every row, IS THE sha256 OF THE DUMP (.gsa) THAT YtfmpkngillljeaaProg.lean LOADS. Nothing in Lean hashes anything: it is a label: what it is worth is what the hold of that sum in a sandbox is worth. -/
noncomputable def Try.pinned : Pinned := { name := "ytfmpkngillljeaa", sum := "cc244f64725b8a6d51626cc0667e9798d70c35b8d1f7f26fe42850aaefefd04e", checked := Try.checked }
namespace Rows
def none {H : Type} : Left H := { results := [], args := [] }

/-- 'weirlaw05.LexisPlaces': WHATEVER THE INPUT: true; the input reads as it did. -/
def lexisPlacesSpec : ChangeSpec := { name := "lexisPlaces", fn := fun _ => fun
  | [d1, d2] => { results := [.lit (.bool true)], args := [d1, d2] }
  | _ => none }
def lexisPlacesRow : OpenClaim := { program := "ytfmpkngillljeaa", sum := "cc244f64725b8a6d51626cc0667e9798d70c35b8d1f7f26fe42850aaefefd04e", func := "weir/weirlaw05.LexisPlaces", spec := "lexisPlaces", inPlace := ["internal/bytealg.CountString", "internal/bytealg.IndexByteString", "internal/bytealg.IndexString"], named := ["internal/bytealg.MaxLen"], apart := false }
def LexisPlacesSaid : Prop := lexisPlacesRow.holds Try.pinned (OpenSpec.ofChange lexisPlacesSpec)

/-- ITS FALSE NEIGHBOUR: 'it returns false'. Refute it at one input. -/
def lexisPlacesWrong : ChangeSpec := { name := "lexisPlaces", fn := fun _ => fun
  | [d1, d2] => { results := [.lit (.bool false)], args := [d1, d2] }
  | _ => none }
def LexisPlacesWrongFalsely : Prop := lexisPlacesRow.holds Try.pinned (OpenSpec.ofChange lexisPlacesWrong)

/-- 'weirlaw05.LexisWalks': WHATEVER THE INPUT: true; the input reads as it did. -/
def lexisWalksSpec : ChangeSpec := { name := "lexisWalks", fn := fun _ => fun
  | [d1, d2, d3] => { results := [.lit (.bool true)], args := [d1, d2, d3] }
  | _ => none }
def lexisWalksRow : OpenClaim := { program := "ytfmpkngillljeaa", sum := "cc244f64725b8a6d51626cc0667e9798d70c35b8d1f7f26fe42850aaefefd04e", func := "weir/weirlaw05.LexisWalks", spec := "lexisWalks", inPlace := ["internal/bytealg.IndexByteString", "internal/bytealg.CountString", "internal/bytealg.IndexString", "math/bits.Add64"], unfollowed := true, recurses := true, named := ["internal/bytealg.MaxLen"], apart := false }
def LexisWalksSaid : Prop := lexisWalksRow.holds Try.pinned (OpenSpec.ofChange lexisWalksSpec)

/-- ITS FALSE NEIGHBOUR: 'it returns false'. Refute it at one input. -/
def lexisWalksWrong : ChangeSpec := { name := "lexisWalks", fn := fun _ => fun
  | [d1, d2, d3] => { results := [.lit (.bool false)], args := [d1, d2, d3] }
  | _ => none }
def LexisWalksWrongFalsely : Prop := lexisWalksRow.holds Try.pinned (OpenSpec.ofChange lexisWalksWrong)

/-- 'weirlaw05.LexisTokens': WHATEVER THE INPUT: true; the input reads as it did. -/
def lexisTokensSpec : ChangeSpec := { name := "lexisTokens", fn := fun _ => fun
  | [d1, d2] => { results := [.lit (.bool true)], args := [d1, d2] }
  | _ => none }
def lexisTokensRow : OpenClaim := { program := "ytfmpkngillljeaa", sum := "cc244f64725b8a6d51626cc0667e9798d70c35b8d1f7f26fe42850aaefefd04e", func := "weir/weirlaw05.LexisTokens", spec := "lexisTokens", inPlace := ["internal/bytealg.IndexByteString", "internal/bytealg.CountString", "internal/bytealg.IndexString", "math/bits.Add64"], unfollowed := true, recurses := true, named := ["internal/bytealg.MaxLen"], apart := false }
def LexisTokensSaid : Prop := lexisTokensRow.holds Try.pinned (OpenSpec.ofChange lexisTokensSpec)

/-- ITS FALSE NEIGHBOUR: 'it returns false'. Refute it at one input. -/
def lexisTokensWrong : ChangeSpec := { name := "lexisTokens", fn := fun _ => fun
  | [d1, d2] => { results := [.lit (.bool false)], args := [d1, d2] }
  | _ => none }
def LexisTokensWrongFalsely : Prop := lexisTokensRow.holds Try.pinned (OpenSpec.ofChange lexisTokensWrong)

/-- 'weirlaw05.LexisGaps': WHATEVER THE INPUT: true; the input reads as it did. -/
def lexisGapsSpec : ChangeSpec := { name := "lexisGaps", fn := fun _ => fun
  | [d1, d2] => { results := [.lit (.bool true)], args := [d1, d2] }
  | _ => none }
def lexisGapsRow : OpenClaim := { program := "ytfmpkngillljeaa", sum := "cc244f64725b8a6d51626cc0667e9798d70c35b8d1f7f26fe42850aaefefd04e", func := "weir/weirlaw05.LexisGaps", spec := "lexisGaps", inPlace := ["internal/bytealg.IndexByteString", "internal/bytealg.CountString", "internal/bytealg.IndexString", "math/bits.Add64"], unfollowed := true, recurses := true, named := ["internal/bytealg.MaxLen"], apart := false }
def LexisGapsSaid : Prop := lexisGapsRow.holds Try.pinned (OpenSpec.ofChange lexisGapsSpec)

/-- ITS FALSE NEIGHBOUR: 'it returns false'. Refute it at one input. -/
def lexisGapsWrong : ChangeSpec := { name := "lexisGaps", fn := fun _ => fun
  | [d1, d2] => { results := [.lit (.bool false)], args := [d1, d2] }
  | _ => none }
def LexisGapsWrongFalsely : Prop := lexisGapsRow.holds Try.pinned (OpenSpec.ofChange lexisGapsWrong)

/- THE SECOND FORM. 'bulk': how many values and letters a reading holds, each counted each time it is reached (what is shared counts as often as it is met; a slice's spare places count too). A statement '..UptoSaid' is the law's where the arguments, and the package variables that the reading takes, are together of bulk at most 1048576: NARROWER than '..Said'. Prove '..Said' where nothing that the law and all that it calls make is longer than what came in: it says more and counts as full. Else prove '..UptoSaid'. A law counts once. -/
mutual
def uptoBulk {H : Type} : DataW H → Nat
  | .lit (.string bytes) => bytes.length + 1
  | .lit _ => 1
  | .nil => 1
  | .ptr d => uptoBulk d + 1
  | .slice elems spare => uptoBulkAll elems + uptoBulkAll spare + 1
  | .agg parts => uptoBulkAll parts + 1
  | .iface _ d => uptoBulk d + 1
  | .map entries => uptoBulkEntries entries + 1
  | .held _ => 1
def uptoBulkAll {H : Type} : List (DataW H) → Nat
  | [] => 0
  | d :: r => uptoBulk d + uptoBulkAll r
def uptoBulkEntries {H : Type} : List (Lit × DataW H) → Nat
  | [] => 0
  | x :: r => uptoBulkEntry x + uptoBulkEntries r
def uptoBulkEntry {H : Type} : Lit × DataW H → Nat
  | (.string bytes, d) => bytes.length + uptoBulk d + 1
  | (_, d) => uptoBulk d + 1
 end
def uptoSmall : (H : Type) → List (DataW H) → Bool := fun _ ds => decide (uptoBulkAll ds ≤ 1048576)
def OpenSpec.upto (s : _root_.Go.ChangeSpec) : _root_.Go.OpenSpec := { _root_.Go.OpenSpec.ofChange s with cond := some uptoSmall }

/-- 'weirlaw05.LexisPlaces', WHERE WHAT IT READS IS OF BULK AT MOST 1048576: true; the input reads as it did. -/
def lexisPlacesUptoRow : OpenClaim := { program := "ytfmpkngillljeaa", sum := "cc244f64725b8a6d51626cc0667e9798d70c35b8d1f7f26fe42850aaefefd04e", func := "weir/weirlaw05.LexisPlaces", spec := "lexisPlaces", inPlace := ["internal/bytealg.CountString", "internal/bytealg.IndexByteString", "internal/bytealg.IndexString"], named := ["internal/bytealg.MaxLen"], apart := false, narrowed := true }
def LexisPlacesUptoSaid : Prop := lexisPlacesUptoRow.holds Try.pinned (OpenSpec.upto lexisPlacesSpec)

/-- 'weirlaw05.LexisWalks', WHERE WHAT IT READS IS OF BULK AT MOST 1048576: true; the input reads as it did. -/
def lexisWalksUptoRow : OpenClaim := { program := "ytfmpkngillljeaa", sum := "cc244f64725b8a6d51626cc0667e9798d70c35b8d1f7f26fe42850aaefefd04e", func := "weir/weirlaw05.LexisWalks", spec := "lexisWalks", inPlace := ["internal/bytealg.IndexByteString", "internal/bytealg.CountString", "internal/bytealg.IndexString", "math/bits.Add64"], unfollowed := true, recurses := true, named := ["internal/bytealg.MaxLen"], apart := false, narrowed := true }
def LexisWalksUptoSaid : Prop := lexisWalksUptoRow.holds Try.pinned (OpenSpec.upto lexisWalksSpec)

/-- 'weirlaw05.LexisTokens', WHERE WHAT IT READS IS OF BULK AT MOST 1048576: true; the input reads as it did. -/
def lexisTokensUptoRow : OpenClaim := { program := "ytfmpkngillljeaa", sum := "cc244f64725b8a6d51626cc0667e9798d70c35b8d1f7f26fe42850aaefefd04e", func := "weir/weirlaw05.LexisTokens", spec := "lexisTokens", inPlace := ["internal/bytealg.IndexByteString", "internal/bytealg.CountString", "internal/bytealg.IndexString", "math/bits.Add64"], unfollowed := true, recurses := true, named := ["internal/bytealg.MaxLen"], apart := false, narrowed := true }
def LexisTokensUptoSaid : Prop := lexisTokensUptoRow.holds Try.pinned (OpenSpec.upto lexisTokensSpec)

/-- 'weirlaw05.LexisGaps', WHERE WHAT IT READS IS OF BULK AT MOST 1048576: true; the input reads as it did. -/
def lexisGapsUptoRow : OpenClaim := { program := "ytfmpkngillljeaa", sum := "cc244f64725b8a6d51626cc0667e9798d70c35b8d1f7f26fe42850aaefefd04e", func := "weir/weirlaw05.LexisGaps", spec := "lexisGaps", inPlace := ["internal/bytealg.IndexByteString", "internal/bytealg.CountString", "internal/bytealg.IndexString", "math/bits.Add64"], unfollowed := true, recurses := true, named := ["internal/bytealg.MaxLen"], apart := false, narrowed := true }
def LexisGapsUptoSaid : Prop := lexisGapsUptoRow.holds Try.pinned (OpenSpec.upto lexisGapsSpec)

end Rows
end Go.Proofs.Ytfmpkngillljeaa
