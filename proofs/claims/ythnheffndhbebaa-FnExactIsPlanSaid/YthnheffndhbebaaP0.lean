-- Laid by a program of this session's own (wip/tool/myprint.py).
import Derived.Test.YthnheffndhbebaaProg
import Derived.Below
import Derived.Deep.Draws
import Derived.Deep.AppendLies
import Derived.Maps.AppendAt
import Derived.OwnWalk
import Derived.Laws.BytesArg
import Derived.Laws.MakeOwn
import Derived.Laws.OwnMore
import Derived.Deep.OwnRows
import Derived.Tactics
import Derived.Lib.ConvBytes
import Derived.Laws.Slices
import Derived.WalkKit
import Derived.KernelRfl
import Derived.RowKit3
import Derived.Deep.LoopGhost
import Derived.Deep.QuietTactic
import Derived.BigQuiet
import Derived.WideLaws
import Derived.Deep.DeepCutAuto
import Derived.Deep.CutBlock
import Derived.Deep.RegionHeld3
import Derived.Laws.Rows
import Derived.Lib.AppendStr
import Derived.ArgAppend
import Derived.Laws.IdiomCopy
import Derived.OrdersHeld
import Derived.Laws.BitsLemmas
import Derived.RowKit
import Derived.Test.YthnheffndhbebaaWWords
import Derived.Test.YthnheffndhbebaaWLast
import Derived.Test.YthnheffndhbebaaWTab
import Derived.Test.YthnheffndhbebaaWFour
import Derived.Test.YthnheffndhbebaaWQPut
import Derived.Test.YthnheffndhbebaaWApart
import Derived.Test.YthnheffndhbebaaWArr
import Derived.Test.YthnheffndhbebaaWZeros
import Derived.Test.YthnheffndhbebaaWFoot
import Derived.Test.YthnheffndhbebaaWKept
import Derived.Test.YthnheffndhbebaaWShare
import Derived.Test.YthnheffndhbebaaWN
import Derived.Test.YthnheffndhbebaaWFootNe
import Derived.Test.YthnheffndhbebaaWAt
import Derived.Test.YthnheffndhbebaaWEqStruct
import Derived.Test.YthnheffndhbebaaWRepsOne
import Derived.Test.YthnheffndhbebaaWInv
import Derived.Test.YthnheffndhbebaaWInvWords
import Derived.Test.YthnheffndhbebaaWGuard
import Derived.Test.YthnheffndhbebaaWNEv
import Derived.Test.YthnheffndhbebaaWMore
namespace Go.Proofs.Ythnheffndhbebaa.P
open Go.RowKit Go.Proofs.YthnheffndhbebaaW.PrintWords Go.Proofs.YthnheffndhbebaaW.PrintLast Go.Proofs.YthnheffndhbebaaW.PrintMore
attribute [local go_sem] max2_int min2_int max_two min_two max_three min_three max_four min_four   -- for this text's walks alone
set_option linter.unusedVariables false
set_option linter.unusedSimpArgs false



def errW : Option Int → Value
  | none => .nilIface
  | some c => .iface 0 (.int .i64 c)
theorem errW_none : errW none = .nilIface := rfl
theorem errW_some (c : Int) : errW (some c) = .iface 0 (.int .i64 c) := rfl

-- the values' own types

end Go.Proofs.Ythnheffndhbebaa.P
