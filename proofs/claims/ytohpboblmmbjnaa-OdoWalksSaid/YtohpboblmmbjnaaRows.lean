/-
  No cell of these rows narrows 'for every input' (looked for: loops, veiled, ifaces, maps, wideKeys, modest, calm, conditions, laid).
  DERIVED. THE GIVEN ROWS OF THIS SEAT. 5 by the template 'for every input the law returns true; each argument reads behind the call as it read before'; 0 by the template 'total and deterministic' (their statements: YtohpboblmmbjnaaTotals.lean).
  GIVEN WITH THE SEED: the statements are not yours to turn. If you find one false, say at which input.
  Laid BY PROGRAM, IN A SANDBOX (cutbox-rows.mjs): the forced cells as the released guide's own fill.sh prints them over the translation 5448d9a1e3c61fd5… (all of the seat's roots in one cut). By AI agents, Wed Nov 11 2026. No macro, syntax, notation, axiom, sorry.
-/
import Derived.Test.YtohpboblmmbjnaaChecked
import GoSem.Claim
import GoSem.ClaimJoined
import GoSem.ClaimMapViews
import Derived.JoinedTies
import Derived.KernelRfl
namespace Go.Proofs.Ytohpboblmmbjnaa
/- THE CELL 'sum', in the pinned program and in every row, IS THE sha256 OF THE DUMP (.gsa) THAT YtohpboblmmbjnaaProg.lean LOADS. Nothing in Lean hashes anything: it is a label: what it is worth is what the hold of that sum in a sandbox is worth. -/
noncomputable def Try.pinned : Pinned := { name := "ytohpboblmmbjnaa", sum := "5448d9a1e3c61fd58362827f30d8451618920df774580c8c35e14c44c3edbd32", checked := Try.checked }
namespace Rows
def none {H : Type} : Left H := { results := [], args := [] }

/-- 'weirlaw03.OdoSpaces': WHATEVER THE INPUT: true; the input reads as it did. -/
def odoSpacesSpec : ChangeSpec := { name := "odoSpaces", fn := fun _ => fun
  | [d1, d2, d3] => { results := [.lit (.bool true)], args := [d1, d2, d3] }
  | _ => none }
def odoSpacesRow : OpenClaim := { program := "ytohpboblmmbjnaa", sum := "5448d9a1e3c61fd58362827f30d8451618920df774580c8c35e14c44c3edbd32", func := "weir/weirlaw03.OdoSpaces", spec := "odoSpaces", unfollowed := true, recurses := true, apart := false }
def OdoSpacesSaid : Prop := odoSpacesRow.holds Try.pinned (OpenSpec.ofChange odoSpacesSpec)

/-- ITS FALSE NEIGHBOUR: 'it returns false'. Refute it at one input. -/
def odoSpacesWrong : ChangeSpec := { name := "odoSpaces", fn := fun _ => fun
  | [d1, d2, d3] => { results := [.lit (.bool false)], args := [d1, d2, d3] }
  | _ => none }
def OdoSpacesWrongFalsely : Prop := odoSpacesRow.holds Try.pinned (OpenSpec.ofChange odoSpacesWrong)

/-- 'weirlaw03.OdoBack': WHATEVER THE INPUT: true; the input reads as it did. -/
def odoBackSpec : ChangeSpec := { name := "odoBack", fn := fun _ => fun
  | [d1, d2, d3, d4] => { results := [.lit (.bool true)], args := [d1, d2, d3, d4] }
  | _ => none }
def odoBackRow : OpenClaim := { program := "ytohpboblmmbjnaa", sum := "5448d9a1e3c61fd58362827f30d8451618920df774580c8c35e14c44c3edbd32", func := "weir/weirlaw03.OdoBack", spec := "odoBack", unfollowed := true, recurses := true, apart := false }
def OdoBackSaid : Prop := odoBackRow.holds Try.pinned (OpenSpec.ofChange odoBackSpec)

/-- ITS FALSE NEIGHBOUR: 'it returns false'. Refute it at one input. -/
def odoBackWrong : ChangeSpec := { name := "odoBack", fn := fun _ => fun
  | [d1, d2, d3, d4] => { results := [.lit (.bool false)], args := [d1, d2, d3, d4] }
  | _ => none }
def OdoBackWrongFalsely : Prop := odoBackRow.holds Try.pinned (OpenSpec.ofChange odoBackWrong)

/-- 'weirlaw03.OdoWholes': WHATEVER THE INPUT: true; the input reads as it did. -/
def odoWholesSpec : ChangeSpec := { name := "odoWholes", fn := fun _ => fun
  | [d1, d2, d3, d4, d5] => { results := [.lit (.bool true)], args := [d1, d2, d3, d4, d5] }
  | _ => none }
def odoWholesRow : OpenClaim := { program := "ytohpboblmmbjnaa", sum := "5448d9a1e3c61fd58362827f30d8451618920df774580c8c35e14c44c3edbd32", func := "weir/weirlaw03.OdoWholes", spec := "odoWholes", unfollowed := true, recurses := true, apart := false }
def OdoWholesSaid : Prop := odoWholesRow.holds Try.pinned (OpenSpec.ofChange odoWholesSpec)

/-- ITS FALSE NEIGHBOUR: 'it returns false'. Refute it at one input. -/
def odoWholesWrong : ChangeSpec := { name := "odoWholes", fn := fun _ => fun
  | [d1, d2, d3, d4, d5] => { results := [.lit (.bool false)], args := [d1, d2, d3, d4, d5] }
  | _ => none }
def OdoWholesWrongFalsely : Prop := odoWholesRow.holds Try.pinned (OpenSpec.ofChange odoWholesWrong)

/-- 'weirlaw03.OdoWalks': WHATEVER THE INPUT: true; the input reads as it did. -/
def odoWalksSpec : ChangeSpec := { name := "odoWalks", fn := fun _ => fun
  | [d1, d2, d3, d4] => { results := [.lit (.bool true)], args := [d1, d2, d3, d4] }
  | _ => none }
def odoWalksRow : OpenClaim := { program := "ytohpboblmmbjnaa", sum := "5448d9a1e3c61fd58362827f30d8451618920df774580c8c35e14c44c3edbd32", func := "weir/weirlaw03.OdoWalks", spec := "odoWalks", unfollowed := true, recurses := true, apart := false }
def OdoWalksSaid : Prop := odoWalksRow.holds Try.pinned (OpenSpec.ofChange odoWalksSpec)

/-- ITS FALSE NEIGHBOUR: 'it returns false'. Refute it at one input. -/
def odoWalksWrong : ChangeSpec := { name := "odoWalks", fn := fun _ => fun
  | [d1, d2, d3, d4] => { results := [.lit (.bool false)], args := [d1, d2, d3, d4] }
  | _ => none }
def OdoWalksWrongFalsely : Prop := odoWalksRow.holds Try.pinned (OpenSpec.ofChange odoWalksWrong)

/-- 'weirlaw03.OdoCounts': WHATEVER THE INPUT: true; the input reads as it did. -/
def odoCountsSpec : ChangeSpec := { name := "odoCounts", fn := fun _ => fun
  | [d] => { results := [.lit (.bool true)], args := [d] }
  | _ => none }
def odoCountsRow : OpenClaim := { program := "ytohpboblmmbjnaa", sum := "5448d9a1e3c61fd58362827f30d8451618920df774580c8c35e14c44c3edbd32", func := "weir/weirlaw03.OdoCounts", spec := "odoCounts", unfollowed := true, recurses := true, apart := false }
def OdoCountsSaid : Prop := odoCountsRow.holds Try.pinned (OpenSpec.ofChange odoCountsSpec)

/-- ITS FALSE NEIGHBOUR: 'it returns false'. Refute it at one input. -/
def odoCountsWrong : ChangeSpec := { name := "odoCounts", fn := fun _ => fun
  | [d] => { results := [.lit (.bool false)], args := [d] }
  | _ => none }
def OdoCountsWrongFalsely : Prop := odoCountsRow.holds Try.pinned (OpenSpec.ofChange odoCountsWrong)

/- THE SECOND FORM. 'bulk': how many values and letters a reading holds, each counted each time it is reached (what is shared counts as often as it is met; a slice's spare places count too). A statement '..UptoSaid' is the law's where the arguments, and the package variables that the reading takes, are together of bulk at most 1048576: NARROWER than '..Said'. Prove '..Said' where nothing that the law and all that it calls make is longer than what came in: it says more and counts as full. Else prove '..UptoSaid'. A law counts once. -/
mutual
def uptoBulk {H : Type} : DataW H → Nat
  | .lit (.string bytes) => bytes.length + 1
  | .lit _ => 1
  | .nil => 1
  | .ptr d => uptoBulk d + 1
  | .slice elems spare => uptoBulkAll elems + uptoBulkAll spare + 1
  | .agg parts => uptoBulkAll parts + 1
  | .iface _ d => uptoBulk d + 1
  | .map entries => uptoBulkEntries entries + 1
  | .held _ => 1
def uptoBulkAll {H : Type} : List (DataW H) → Nat
  | [] => 0
  | d :: r => uptoBulk d + uptoBulkAll r
def uptoBulkEntries {H : Type} : List (Lit × DataW H) → Nat
  | [] => 0
  | x :: r => uptoBulkEntry x + uptoBulkEntries r
def uptoBulkEntry {H : Type} : Lit × DataW H → Nat
  | (.string bytes, d) => bytes.length + uptoBulk d + 1
  | (_, d) => uptoBulk d + 1
 end
def uptoSmall : (H : Type) → List (DataW H) → Bool := fun _ ds => decide (uptoBulkAll ds ≤ 1048576)
def OpenSpec.upto (s : _root_.Go.ChangeSpec) : _root_.Go.OpenSpec := { _root_.Go.OpenSpec.ofChange s with cond := some uptoSmall }

/-- 'weirlaw03.OdoSpaces', WHERE WHAT IT READS IS OF BULK AT MOST 1048576: true; the input reads as it did. -/
def odoSpacesUptoRow : OpenClaim := { program := "ytohpboblmmbjnaa", sum := "5448d9a1e3c61fd58362827f30d8451618920df774580c8c35e14c44c3edbd32", func := "weir/weirlaw03.OdoSpaces", spec := "odoSpaces", unfollowed := true, recurses := true, apart := false, narrowed := true }
def OdoSpacesUptoSaid : Prop := odoSpacesUptoRow.holds Try.pinned (OpenSpec.upto odoSpacesSpec)

/-- 'weirlaw03.OdoBack', WHERE WHAT IT READS IS OF BULK AT MOST 1048576: true; the input reads as it did. -/
def odoBackUptoRow : OpenClaim := { program := "ytohpboblmmbjnaa", sum := "5448d9a1e3c61fd58362827f30d8451618920df774580c8c35e14c44c3edbd32", func := "weir/weirlaw03.OdoBack", spec := "odoBack", unfollowed := true, recurses := true, apart := false, narrowed := true }
def OdoBackUptoSaid : Prop := odoBackUptoRow.holds Try.pinned (OpenSpec.upto odoBackSpec)

/-- 'weirlaw03.OdoWholes', WHERE WHAT IT READS IS OF BULK AT MOST 1048576: true; the input reads as it did. -/
def odoWholesUptoRow : OpenClaim := { program := "ytohpboblmmbjnaa", sum := "5448d9a1e3c61fd58362827f30d8451618920df774580c8c35e14c44c3edbd32", func := "weir/weirlaw03.OdoWholes", spec := "odoWholes", unfollowed := true, recurses := true, apart := false, narrowed := true }
def OdoWholesUptoSaid : Prop := odoWholesUptoRow.holds Try.pinned (OpenSpec.upto odoWholesSpec)

/-- 'weirlaw03.OdoWalks', WHERE WHAT IT READS IS OF BULK AT MOST 1048576: true; the input reads as it did. -/
def odoWalksUptoRow : OpenClaim := { program := "ytohpboblmmbjnaa", sum := "5448d9a1e3c61fd58362827f30d8451618920df774580c8c35e14c44c3edbd32", func := "weir/weirlaw03.OdoWalks", spec := "odoWalks", unfollowed := true, recurses := true, apart := false, narrowed := true }
def OdoWalksUptoSaid : Prop := odoWalksUptoRow.holds Try.pinned (OpenSpec.upto odoWalksSpec)

/-- 'weirlaw03.OdoCounts', WHERE WHAT IT READS IS OF BULK AT MOST 1048576: true; the input reads as it did. -/
def odoCountsUptoRow : OpenClaim := { program := "ytohpboblmmbjnaa", sum := "5448d9a1e3c61fd58362827f30d8451618920df774580c8c35e14c44c3edbd32", func := "weir/weirlaw03.OdoCounts", spec := "odoCounts", unfollowed := true, recurses := true, apart := false, narrowed := true }
def OdoCountsUptoSaid : Prop := odoCountsUptoRow.holds Try.pinned (OpenSpec.upto odoCountsSpec)

end Rows
end Go.Proofs.Ytohpboblmmbjnaa
