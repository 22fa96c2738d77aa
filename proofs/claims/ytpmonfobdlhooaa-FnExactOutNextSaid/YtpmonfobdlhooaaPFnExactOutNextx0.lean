/- Functions that a law reaches, each with the walk that shows what its call answers; laid by a program of this session. -/
import Derived.Test.YtpmonfobdlhooaaProg
import Derived.Below
import Derived.Deep.Draws
import Derived.Deep.AppendLies
import Derived.Maps.AppendAt
import Derived.OwnWalk
import Derived.Laws.BytesArg
import Derived.Laws.MakeOwn
import Derived.Laws.OwnMore
import Derived.Deep.OwnRows
import Derived.Tactics
import Derived.Lib.ConvBytes
import Derived.Laws.Slices
import Derived.WalkKit
import Derived.KernelRfl
import Derived.RowKit3
import Derived.Deep.LoopGhost
import Derived.Deep.QuietTactic
import Derived.BigQuiet
import Derived.WideLaws
import Derived.Deep.DeepCutAuto
import Derived.Deep.CutBlock
import Derived.Deep.RegionHeld3
import Derived.Laws.Rows
import Derived.Lib.AppendStr
import Derived.ArgAppend
import Derived.Laws.IdiomCopy
import Derived.OrdersHeld
import Derived.Laws.BitsLemmas
import Derived.RowKit
import Derived.Test.YtpmonfobdlhooaaOutNext
import Derived.Test.YtpmonfobdlhooaaWWords
import Derived.Test.YtpmonfobdlhooaaWLast
import Derived.Test.YtpmonfobdlhooaaWTab
import Derived.Test.YtpmonfobdlhooaaWFour
import Derived.Test.YtpmonfobdlhooaaWQPut
import Derived.Test.YtpmonfobdlhooaaWApart
import Derived.Test.YtpmonfobdlhooaaWArr
import Derived.Test.YtpmonfobdlhooaaWZeros
import Derived.Test.YtpmonfobdlhooaaWFoot
import Derived.Test.YtpmonfobdlhooaaWKept
import Derived.Test.YtpmonfobdlhooaaWShare
import Derived.Test.YtpmonfobdlhooaaWN
import Derived.Test.YtpmonfobdlhooaaWFootNe
import Derived.Test.YtpmonfobdlhooaaWAt
import Derived.Test.YtpmonfobdlhooaaWEqStruct
import Derived.Test.YtpmonfobdlhooaaWRepsOne
import Derived.Test.YtpmonfobdlhooaaWInv
import Derived.Test.YtpmonfobdlhooaaWInvWords
import Derived.Test.YtpmonfobdlhooaaWGuard
import Derived.Test.YtpmonfobdlhooaaWNEv
import Derived.Test.YtpmonfobdlhooaaWMore
namespace Go.Proofs.Ytpmonfobdlhooaa.PFnExactOutNext
open Go.RowKit Go.Proofs.YtpmonfobdlhooaaW.PrintWords Go.Proofs.YtpmonfobdlhooaaW.PrintLast Go.Proofs.YtpmonfobdlhooaaW.PrintMore
attribute [local go_sem] max2_int min2_int max_two min_two max_three min_three max_four min_four   -- for this text's walks alone
set_option linter.unusedVariables false
set_option linter.unusedSimpArgs false



def errW : Option Int → Value
  | none => .nilIface
  | some c => .iface 0 (.int .i64 c)
theorem errW_none : errW none = .nilIface := rfl
theorem errW_some (c : Int) : errW (some c) = .iface 0 (.int .i64 c) := rfl

-- the values' own types

end Go.Proofs.Ytpmonfobdlhooaa.PFnExactOutNext
