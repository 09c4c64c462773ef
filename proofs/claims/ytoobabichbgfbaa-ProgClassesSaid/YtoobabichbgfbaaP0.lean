-- Printed by xprint.py, a program of this session over the kit's printer.
import Derived.Test.YtoobabichbgfbaaProg
import Derived.Below
import Derived.Deep.Draws
import Derived.Deep.AppendLies
import Derived.Maps.AppendAt
import Derived.OwnWalk
import Derived.Laws.BytesArg
import Derived.Laws.MakeOwn
import Derived.Laws.OwnMore
import Derived.Deep.OwnRows
import Derived.Tactics
import Derived.Lib.ConvBytes
import Derived.Laws.Slices
import Derived.WalkKit
import Derived.KernelRfl
import Derived.RowKit3
import Derived.Deep.LoopGhost
import Derived.Deep.QuietTactic
import Derived.BigQuiet
import Derived.WideLaws
import Derived.Deep.DeepCutAuto
import Derived.Deep.CutBlock
import Derived.Deep.RegionHeld3
import Derived.Laws.Rows
import Derived.Lib.AppendStr
import Derived.ArgAppend
import Derived.Laws.IdiomCopy
import Derived.OrdersHeld
import Derived.Laws.BitsLemmas
import Derived.RowKit
import Derived.Test.YtoobabichbgfbaaWWords
import Derived.Test.YtoobabichbgfbaaWLast
import Derived.Test.YtoobabichbgfbaaWTab
import Derived.Test.YtoobabichbgfbaaWFour
import Derived.Test.YtoobabichbgfbaaWQPut
import Derived.Test.YtoobabichbgfbaaWApart
import Derived.Test.YtoobabichbgfbaaWArr
import Derived.Test.YtoobabichbgfbaaWZeros
import Derived.Test.YtoobabichbgfbaaWFoot
import Derived.Test.YtoobabichbgfbaaWKept
import Derived.Test.YtoobabichbgfbaaWShare
import Derived.Test.YtoobabichbgfbaaWN
import Derived.Test.YtoobabichbgfbaaWFootNe
import Derived.Test.YtoobabichbgfbaaWAt
import Derived.Test.YtoobabichbgfbaaWEqStruct
import Derived.Test.YtoobabichbgfbaaWRepsOne
import Derived.Test.YtoobabichbgfbaaWInv
import Derived.Test.YtoobabichbgfbaaWInvWords
import Derived.Test.YtoobabichbgfbaaWGuard
import Derived.Test.YtoobabichbgfbaaWNEv
import Derived.Test.YtoobabichbgfbaaWMore
namespace Go.Proofs.Ytoobabichbgfbaa.P
open Go.RowKit Go.Proofs.YtoobabichbgfbaaW.PrintWords Go.Proofs.YtoobabichbgfbaaW.PrintLast Go.Proofs.YtoobabichbgfbaaW.PrintMore
attribute [local go_sem] max2_int min2_int max_two min_two max_three min_three max_four min_four   -- for this text's walks alone



def errW : Option Int → Value
  | none => .nilIface
  | some c => .iface 0 (.int .i64 c)
theorem errW_none : errW none = .nilIface := rfl
theorem errW_some (c : Int) : errW (some c) = .iface 0 (.int .i64 c) := rfl

-- the values' own types

end Go.Proofs.Ytoobabichbgfbaa.P
