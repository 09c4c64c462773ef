-- Printed by xprint.py, a program of this session over the kit's printer.
import Derived.Test.YtfmpkngillljeaaProg
import Derived.Below
import Derived.Deep.Draws
import Derived.Deep.AppendLies
import Derived.Maps.AppendAt
import Derived.OwnWalk
import Derived.Laws.BytesArg
import Derived.Laws.MakeOwn
import Derived.Laws.OwnMore
import Derived.Deep.OwnRows
import Derived.Tactics
import Derived.Lib.ConvBytes
import Derived.Laws.Slices
import Derived.WalkKit
import Derived.KernelRfl
import Derived.RowKit3
import Derived.Deep.LoopGhost
import Derived.Deep.QuietTactic
import Derived.BigQuiet
import Derived.WideLaws
import Derived.Deep.DeepCutAuto
import Derived.Deep.CutBlock
import Derived.Deep.RegionHeld3
import Derived.Laws.Rows
import Derived.Lib.AppendStr
import Derived.ArgAppend
import Derived.Laws.IdiomCopy
import Derived.OrdersHeld
import Derived.Laws.BitsLemmas
import Derived.RowKit
import Derived.Test.YtfmpkngillljeaaWWords
import Derived.Test.YtfmpkngillljeaaWLast
import Derived.Test.YtfmpkngillljeaaWTab
import Derived.Test.YtfmpkngillljeaaWFour
import Derived.Test.YtfmpkngillljeaaWQPut
import Derived.Test.YtfmpkngillljeaaWApart
import Derived.Test.YtfmpkngillljeaaWArr
import Derived.Test.YtfmpkngillljeaaWZeros
import Derived.Test.YtfmpkngillljeaaWFoot
import Derived.Test.YtfmpkngillljeaaWKept
import Derived.Test.YtfmpkngillljeaaWShare
import Derived.Test.YtfmpkngillljeaaWN
import Derived.Test.YtfmpkngillljeaaWFootNe
import Derived.Test.YtfmpkngillljeaaWAt
import Derived.Test.YtfmpkngillljeaaWEqStruct
import Derived.Test.YtfmpkngillljeaaWRepsOne
import Derived.Test.YtfmpkngillljeaaWInv
import Derived.Test.YtfmpkngillljeaaWInvWords
import Derived.Test.YtfmpkngillljeaaWGuard
import Derived.Test.YtfmpkngillljeaaWNEv
import Derived.Test.YtfmpkngillljeaaWMore
namespace Go.Proofs.Ytfmpkngillljeaa.P
open Go.RowKit Go.Proofs.YtfmpkngillljeaaW.PrintWords Go.Proofs.YtfmpkngillljeaaW.PrintLast Go.Proofs.YtfmpkngillljeaaW.PrintMore
attribute [local go_sem] max2_int min2_int max_two min_two max_three min_three max_four min_four   -- for this text's walks alone



def errW : Option Int → Value
  | none => .nilIface
  | some c => .iface 0 (.int .i64 c)
theorem errW_none : errW none = .nilIface := rfl
theorem errW_some (c : Int) : errW (some c) = .iface 0 (.int .i64 c) := rfl

-- the values' own types

end Go.Proofs.Ytfmpkngillljeaa.P
