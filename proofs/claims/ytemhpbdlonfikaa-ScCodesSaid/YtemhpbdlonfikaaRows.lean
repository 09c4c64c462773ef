/-
  No cell of these rows narrows 'for every input' (looked for: loops, veiled, ifaces, maps, wideKeys, modest, calm, conditions, laid).
  DERIVED. THE GIVEN ROWS OF THIS SEAT. 6 by the template 'for every input the law returns true; each argument reads behind the call as it read before'; 0 by the template 'total and deterministic' (their statements: YtemhpbdlonfikaaTotals.lean).
  GIVEN WITH THE SEED: the statements are not yours to turn. If you find one false, say at which input.
  Laid BY PROGRAM, IN A SANDBOX (cutbox-rows.mjs): the forced cells as the released guide's own fill.sh prints them over the translation 17d11ade67aa9d15… (all of the seat's roots in one cut). By AI agents, Wed Nov 11 2026. No macro, syntax, notation, axiom, sorry.
-/
import Derived.Test.YtemhpbdlonfikaaChecked
import GoSem.Claim
import GoSem.ClaimJoined
import GoSem.ClaimMapViews
import Derived.JoinedTies
import Derived.KernelRfl
namespace Go.Proofs.Ytemhpbdlonfikaa
/- THE CELL 'sum', in the pinned program and in every row, IS THE sha256 OF THE DUMP (.gsa) THAT YtemhpbdlonfikaaProg.lean LOADS. Nothing in Lean hashes anything: it is a label: what it is worth is what the hold of that sum in a sandbox is worth. -/
noncomputable def Try.pinned : Pinned := { name := "ytemhpbdlonfikaa", sum := "17d11ade67aa9d156e2641825a3223669ccd5693fd0f793f2a0f01d771759324", checked := Try.checked }
namespace Rows
def none {H : Type} : Left H := { results := [], args := [] }

/-- 'weirlaw11.ScPlays': WHATEVER THE INPUT: true; the input reads as it did. -/
def scPlaysSpec : ChangeSpec := { name := "scPlays", fn := fun _ => fun
  | [d1, d2] => { results := [.lit (.bool true)], args := [d1, d2] }
  | _ => none }
def scPlaysRow : OpenClaim := { program := "ytemhpbdlonfikaa", sum := "17d11ade67aa9d156e2641825a3223669ccd5693fd0f793f2a0f01d771759324", func := "weir/weirlaw11.ScPlays", spec := "scPlays", unfollowed := true, recurses := true, plainKeys := false, apart := false }
def ScPlaysSaid : Prop := scPlaysRow.holds Try.pinned (OpenSpec.ofChange scPlaysSpec)

/-- ITS FALSE NEIGHBOUR: 'it returns false'. Refute it at one input. -/
def scPlaysWrong : ChangeSpec := { name := "scPlays", fn := fun _ => fun
  | [d1, d2] => { results := [.lit (.bool false)], args := [d1, d2] }
  | _ => none }
def ScPlaysWrongFalsely : Prop := scPlaysRow.holds Try.pinned (OpenSpec.ofChange scPlaysWrong)

/-- 'weirlaw11.ScCodes': WHATEVER THE INPUT: true; the input reads as it did. -/
def scCodesSpec : ChangeSpec := { name := "scCodes", fn := fun _ => fun
  | [d1, d2, d3] => { results := [.lit (.bool true)], args := [d1, d2, d3] }
  | _ => none }
def scCodesRow : OpenClaim := { program := "ytemhpbdlonfikaa", sum := "17d11ade67aa9d156e2641825a3223669ccd5693fd0f793f2a0f01d771759324", func := "weir/weirlaw11.ScCodes", spec := "scCodes", inPlace := ["internal/abi.NoEscape"], unfollowed := true, recurses := true, plainKeys := false, apart := false }
def ScCodesSaid : Prop := scCodesRow.holds Try.pinned (OpenSpec.ofChange scCodesSpec)

/-- ITS FALSE NEIGHBOUR: 'it returns false'. Refute it at one input. -/
def scCodesWrong : ChangeSpec := { name := "scCodes", fn := fun _ => fun
  | [d1, d2, d3] => { results := [.lit (.bool false)], args := [d1, d2, d3] }
  | _ => none }
def ScCodesWrongFalsely : Prop := scCodesRow.holds Try.pinned (OpenSpec.ofChange scCodesWrong)

/-- 'weirlaw11.ScMachines': WHATEVER THE INPUT: true; the input reads as it did. -/
def scMachinesSpec : ChangeSpec := { name := "scMachines", fn := fun _ => fun
  | [d1, d2, d3, d4] => { results := [.lit (.bool true)], args := [d1, d2, d3, d4] }
  | _ => none }
def scMachinesRow : OpenClaim := { program := "ytemhpbdlonfikaa", sum := "17d11ade67aa9d156e2641825a3223669ccd5693fd0f793f2a0f01d771759324", func := "weir/weirlaw11.ScMachines", spec := "scMachines", inPlace := ["internal/abi.NoEscape"], unfollowed := true, recurses := true, plainKeys := false, apart := false }
def ScMachinesSaid : Prop := scMachinesRow.holds Try.pinned (OpenSpec.ofChange scMachinesSpec)

/-- ITS FALSE NEIGHBOUR: 'it returns false'. Refute it at one input. -/
def scMachinesWrong : ChangeSpec := { name := "scMachines", fn := fun _ => fun
  | [d1, d2, d3, d4] => { results := [.lit (.bool false)], args := [d1, d2, d3, d4] }
  | _ => none }
def ScMachinesWrongFalsely : Prop := scMachinesRow.holds Try.pinned (OpenSpec.ofChange scMachinesWrong)

/-- 'weirlaw11.ScBack': WHATEVER THE INPUT: true; the input reads as it did. -/
def scBackSpec : ChangeSpec := { name := "scBack", fn := fun _ => fun
  | [d1, d2, d3] => { results := [.lit (.bool true)], args := [d1, d2, d3] }
  | _ => none }
def scBackRow : OpenClaim := { program := "ytemhpbdlonfikaa", sum := "17d11ade67aa9d156e2641825a3223669ccd5693fd0f793f2a0f01d771759324", func := "weir/weirlaw11.ScBack", spec := "scBack", inPlace := ["internal/abi.NoEscape"], unfollowed := true, recurses := true, plainKeys := false, apart := false }
def ScBackSaid : Prop := scBackRow.holds Try.pinned (OpenSpec.ofChange scBackSpec)

/-- ITS FALSE NEIGHBOUR: 'it returns false'. Refute it at one input. -/
def scBackWrong : ChangeSpec := { name := "scBack", fn := fun _ => fun
  | [d1, d2, d3] => { results := [.lit (.bool false)], args := [d1, d2, d3] }
  | _ => none }
def ScBackWrongFalsely : Prop := scBackRow.holds Try.pinned (OpenSpec.ofChange scBackWrong)

/-- 'weirlaw11.ScSteps': WHATEVER THE INPUT: true; the input reads as it did. -/
def scStepsSpec : ChangeSpec := { name := "scSteps", fn := fun _ => fun
  | [d1, d2, d3] => { results := [.lit (.bool true)], args := [d1, d2, d3] }
  | _ => none }
def scStepsRow : OpenClaim := { program := "ytemhpbdlonfikaa", sum := "17d11ade67aa9d156e2641825a3223669ccd5693fd0f793f2a0f01d771759324", func := "weir/weirlaw11.ScSteps", spec := "scSteps", inPlace := ["internal/abi.NoEscape"], unfollowed := true, recurses := true, plainKeys := false, apart := false }
def ScStepsSaid : Prop := scStepsRow.holds Try.pinned (OpenSpec.ofChange scStepsSpec)

/-- ITS FALSE NEIGHBOUR: 'it returns false'. Refute it at one input. -/
def scStepsWrong : ChangeSpec := { name := "scSteps", fn := fun _ => fun
  | [d1, d2, d3] => { results := [.lit (.bool false)], args := [d1, d2, d3] }
  | _ => none }
def ScStepsWrongFalsely : Prop := scStepsRow.holds Try.pinned (OpenSpec.ofChange scStepsWrong)

/-- 'weirlaw11.ScWeaves': WHATEVER THE INPUT: true; the input reads as it did. -/
def scWeavesSpec : ChangeSpec := { name := "scWeaves", fn := fun _ => fun
  | [d] => { results := [.lit (.bool true)], args := [d] }
  | _ => none }
def scWeavesRow : OpenClaim := { program := "ytemhpbdlonfikaa", sum := "17d11ade67aa9d156e2641825a3223669ccd5693fd0f793f2a0f01d771759324", func := "weir/weirlaw11.ScWeaves", spec := "scWeaves", inPlace := ["internal/abi.NoEscape"], unfollowed := true, recurses := true, plainKeys := false, apart := false }
def ScWeavesSaid : Prop := scWeavesRow.holds Try.pinned (OpenSpec.ofChange scWeavesSpec)

/-- ITS FALSE NEIGHBOUR: 'it returns false'. Refute it at one input. -/
def scWeavesWrong : ChangeSpec := { name := "scWeaves", fn := fun _ => fun
  | [d] => { results := [.lit (.bool false)], args := [d] }
  | _ => none }
def ScWeavesWrongFalsely : Prop := scWeavesRow.holds Try.pinned (OpenSpec.ofChange scWeavesWrong)

/- THE SECOND FORM. 'bulk': how many values and letters a reading holds, each counted each time it is reached (what is shared counts as often as it is met; a slice's spare places count too). A statement '..UptoSaid' is the law's where the arguments, and the package variables that the reading takes, are together of bulk at most 1048576: NARROWER than '..Said'. Prove '..Said' where nothing that the law and all that it calls make is longer than what came in: it says more and counts as full. Else prove '..UptoSaid'. A law counts once. -/
mutual
def uptoBulk {H : Type} : DataW H → Nat
  | .lit (.string bytes) => bytes.length + 1
  | .lit _ => 1
  | .nil => 1
  | .ptr d => uptoBulk d + 1
  | .slice elems spare => uptoBulkAll elems + uptoBulkAll spare + 1
  | .agg parts => uptoBulkAll parts + 1
  | .iface _ d => uptoBulk d + 1
  | .map entries => uptoBulkEntries entries + 1
  | .held _ => 1
def uptoBulkAll {H : Type} : List (DataW H) → Nat
  | [] => 0
  | d :: r => uptoBulk d + uptoBulkAll r
def uptoBulkEntries {H : Type} : List (Lit × DataW H) → Nat
  | [] => 0
  | x :: r => uptoBulkEntry x + uptoBulkEntries r
def uptoBulkEntry {H : Type} : Lit × DataW H → Nat
  | (.string bytes, d) => bytes.length + uptoBulk d + 1
  | (_, d) => uptoBulk d + 1
 end
def uptoSmall : (H : Type) → List (DataW H) → Bool := fun _ ds => decide (uptoBulkAll ds ≤ 1048576)
def OpenSpec.upto (s : _root_.Go.ChangeSpec) : _root_.Go.OpenSpec := { _root_.Go.OpenSpec.ofChange s with cond := some uptoSmall }

/-- 'weirlaw11.ScPlays', WHERE WHAT IT READS IS OF BULK AT MOST 1048576: true; the input reads as it did. -/
def scPlaysUptoRow : OpenClaim := { program := "ytemhpbdlonfikaa", sum := "17d11ade67aa9d156e2641825a3223669ccd5693fd0f793f2a0f01d771759324", func := "weir/weirlaw11.ScPlays", spec := "scPlays", unfollowed := true, recurses := true, plainKeys := false, apart := false, narrowed := true }
def ScPlaysUptoSaid : Prop := scPlaysUptoRow.holds Try.pinned (OpenSpec.upto scPlaysSpec)

/-- 'weirlaw11.ScCodes', WHERE WHAT IT READS IS OF BULK AT MOST 1048576: true; the input reads as it did. -/
def scCodesUptoRow : OpenClaim := { program := "ytemhpbdlonfikaa", sum := "17d11ade67aa9d156e2641825a3223669ccd5693fd0f793f2a0f01d771759324", func := "weir/weirlaw11.ScCodes", spec := "scCodes", inPlace := ["internal/abi.NoEscape"], unfollowed := true, recurses := true, plainKeys := false, apart := false, narrowed := true }
def ScCodesUptoSaid : Prop := scCodesUptoRow.holds Try.pinned (OpenSpec.upto scCodesSpec)

/-- 'weirlaw11.ScMachines', WHERE WHAT IT READS IS OF BULK AT MOST 1048576: true; the input reads as it did. -/
def scMachinesUptoRow : OpenClaim := { program := "ytemhpbdlonfikaa", sum := "17d11ade67aa9d156e2641825a3223669ccd5693fd0f793f2a0f01d771759324", func := "weir/weirlaw11.ScMachines", spec := "scMachines", inPlace := ["internal/abi.NoEscape"], unfollowed := true, recurses := true, plainKeys := false, apart := false, narrowed := true }
def ScMachinesUptoSaid : Prop := scMachinesUptoRow.holds Try.pinned (OpenSpec.upto scMachinesSpec)

/-- 'weirlaw11.ScBack', WHERE WHAT IT READS IS OF BULK AT MOST 1048576: true; the input reads as it did. -/
def scBackUptoRow : OpenClaim := { program := "ytemhpbdlonfikaa", sum := "17d11ade67aa9d156e2641825a3223669ccd5693fd0f793f2a0f01d771759324", func := "weir/weirlaw11.ScBack", spec := "scBack", inPlace := ["internal/abi.NoEscape"], unfollowed := true, recurses := true, plainKeys := false, apart := false, narrowed := true }
def ScBackUptoSaid : Prop := scBackUptoRow.holds Try.pinned (OpenSpec.upto scBackSpec)

/-- 'weirlaw11.ScSteps', WHERE WHAT IT READS IS OF BULK AT MOST 1048576: true; the input reads as it did. -/
def scStepsUptoRow : OpenClaim := { program := "ytemhpbdlonfikaa", sum := "17d11ade67aa9d156e2641825a3223669ccd5693fd0f793f2a0f01d771759324", func := "weir/weirlaw11.ScSteps", spec := "scSteps", inPlace := ["internal/abi.NoEscape"], unfollowed := true, recurses := true, plainKeys := false, apart := false, narrowed := true }
def ScStepsUptoSaid : Prop := scStepsUptoRow.holds Try.pinned (OpenSpec.upto scStepsSpec)

/-- 'weirlaw11.ScWeaves', WHERE WHAT IT READS IS OF BULK AT MOST 1048576: true; the input reads as it did. -/
def scWeavesUptoRow : OpenClaim := { program := "ytemhpbdlonfikaa", sum := "17d11ade67aa9d156e2641825a3223669ccd5693fd0f793f2a0f01d771759324", func := "weir/weirlaw11.ScWeaves", spec := "scWeaves", inPlace := ["internal/abi.NoEscape"], unfollowed := true, recurses := true, plainKeys := false, apart := false, narrowed := true }
def ScWeavesUptoSaid : Prop := scWeavesUptoRow.holds Try.pinned (OpenSpec.upto scWeavesSpec)

end Rows
end Go.Proofs.Ytemhpbdlonfikaa
