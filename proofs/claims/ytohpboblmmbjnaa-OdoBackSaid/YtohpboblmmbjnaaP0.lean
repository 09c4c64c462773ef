-- Printed by xprint.py, a program of this session over the kit's printer.
import Derived.Test.YtohpboblmmbjnaaProg
import Derived.Test.YtohpboblmmbjnaaRegAny
import Derived.Below
import Derived.Deep.Draws
import Derived.Deep.AppendLies
import Derived.Maps.AppendAt
import Derived.OwnWalk
import Derived.Laws.BytesArg
import Derived.Laws.MakeOwn
import Derived.Laws.OwnMore
import Derived.Deep.OwnRows
import Derived.Tactics
import Derived.Lib.ConvBytes
import Derived.Laws.Slices
import Derived.WalkKit
import Derived.KernelRfl
import Derived.RowKit3
import Derived.Deep.LoopGhost
import Derived.Deep.QuietTactic
import Derived.BigQuiet
import Derived.WideLaws
import Derived.Deep.DeepCutAuto
import Derived.Deep.CutBlock
import Derived.Deep.RegionHeld3
import Derived.Laws.Rows
import Derived.Lib.AppendStr
import Derived.ArgAppend
import Derived.Laws.IdiomCopy
import Derived.OrdersHeld
import Derived.Laws.BitsLemmas
import Derived.WalkLawsBesides
import Derived.Lib.SliceRun
import Derived.RowKit
import Derived.Test.YtohpboblmmbjnaaWWords
import Derived.Test.YtohpboblmmbjnaaWLast
import Derived.Test.YtohpboblmmbjnaaWTab
import Derived.Test.YtohpboblmmbjnaaWFour
import Derived.Test.YtohpboblmmbjnaaWQPut
import Derived.Test.YtohpboblmmbjnaaWApart
import Derived.Test.YtohpboblmmbjnaaWArr
import Derived.Test.YtohpboblmmbjnaaWZeros
import Derived.Test.YtohpboblmmbjnaaWFoot
import Derived.Test.YtohpboblmmbjnaaWKept
import Derived.Test.YtohpboblmmbjnaaWShare
import Derived.Test.YtohpboblmmbjnaaWN
import Derived.Test.YtohpboblmmbjnaaWFootNe
import Derived.Test.YtohpboblmmbjnaaWAt
import Derived.Test.YtohpboblmmbjnaaWEqStruct
import Derived.Test.YtohpboblmmbjnaaWRepsOne
import Derived.Test.YtohpboblmmbjnaaWInv
import Derived.Test.YtohpboblmmbjnaaWInvWords
import Derived.Test.YtohpboblmmbjnaaWGuard
import Derived.Test.YtohpboblmmbjnaaWNEv
import Derived.Test.YtohpboblmmbjnaaWMore
namespace Go.Proofs.Ytohpboblmmbjnaa.P
open Go.RowKit Go.Proofs.YtohpboblmmbjnaaW.PrintWords Go.Proofs.YtohpboblmmbjnaaW.PrintLast Go.Proofs.YtohpboblmmbjnaaW.PrintMore
attribute [local go_sem] max2_int min2_int max_two min_two max_three min_three max_four min_four   -- for this text's walks alone



def errW : Option Int → Value
  | none => .nilIface
  | some c => .iface 0 (.int .i64 c)
theorem errW_none : errW none = .nilIface := rfl
theorem errW_some (c : Int) : errW (some c) = .iface 0 (.int .i64 c) := rfl

theorem info3 : (Try.prog.info? 3).map (fun i => (i.zero, i.size, i.bytes)) = some (some (.int .i64 0), 1, 8) := by kernel_rfl
theorem info25 : (Try.prog.info? 25).map (fun i => (i.zero, i.size, i.bytes)) = some (some (.int .u64 0), 1, 8) := by kernel_rfl
-- the values' own types

end Go.Proofs.Ytohpboblmmbjnaa.P
