/- Functions that a law reaches, each with the walk that shows what its call answers; laid by a program of this session. -/
import Derived.Test.YtekeehhbalhfiaaProg
import Derived.Below
import Derived.Deep.Draws
import Derived.Deep.AppendLies
import Derived.Maps.AppendAt
import Derived.OwnWalk
import Derived.Laws.BytesArg
import Derived.Laws.MakeOwn
import Derived.Laws.OwnMore
import Derived.Deep.OwnRows
import Derived.Tactics
import Derived.Lib.ConvBytes
import Derived.Laws.Slices
import Derived.WalkKit
import Derived.KernelRfl
import Derived.RowKit3
import Derived.Deep.LoopGhost
import Derived.Deep.QuietTactic
import Derived.BigQuiet
import Derived.WideLaws
import Derived.Deep.DeepCutAuto
import Derived.Deep.CutBlock
import Derived.Deep.RegionHeld3
import Derived.Laws.Rows
import Derived.Lib.AppendStr
import Derived.ArgAppend
import Derived.Laws.IdiomCopy
import Derived.OrdersHeld
import Derived.Laws.BitsLemmas
import Derived.RowKit
import Derived.Test.YtekeehhbalhfiaaAl
import Derived.Test.YtekeehhbalhfiaaBoxQueueLaw
import Derived.Test.YtekeehhbalhfiaaWWords
import Derived.Test.YtekeehhbalhfiaaWLast
import Derived.Test.YtekeehhbalhfiaaWTab
import Derived.Test.YtekeehhbalhfiaaWFour
import Derived.Test.YtekeehhbalhfiaaWQPut
import Derived.Test.YtekeehhbalhfiaaWApart
import Derived.Test.YtekeehhbalhfiaaWArr
import Derived.Test.YtekeehhbalhfiaaWZeros
import Derived.Test.YtekeehhbalhfiaaWFoot
import Derived.Test.YtekeehhbalhfiaaWKept
import Derived.Test.YtekeehhbalhfiaaWShare
import Derived.Test.YtekeehhbalhfiaaWN
import Derived.Test.YtekeehhbalhfiaaWFootNe
import Derived.Test.YtekeehhbalhfiaaWAt
import Derived.Test.YtekeehhbalhfiaaWEqStruct
import Derived.Test.YtekeehhbalhfiaaWRepsOne
import Derived.Test.YtekeehhbalhfiaaWInv
import Derived.Test.YtekeehhbalhfiaaWInvWords
import Derived.Test.YtekeehhbalhfiaaWGuard
import Derived.Test.YtekeehhbalhfiaaWNEv
import Derived.Test.YtekeehhbalhfiaaWMore
namespace Go.Proofs.Ytekeehhbalhfiaa.PFnBoxQueue
open Go.RowKit Go.Proofs.YtekeehhbalhfiaaW.PrintWords Go.Proofs.YtekeehhbalhfiaaW.PrintLast Go.Proofs.YtekeehhbalhfiaaW.PrintMore
attribute [local go_sem] max2_int min2_int max_two min_two max_three min_three max_four min_four   -- for this text's walks alone
set_option linter.unusedVariables false
set_option linter.unusedSimpArgs false



def errW : Option Int → Value
  | none => .nilIface
  | some c => .iface 0 (.int .i64 c)
theorem errW_none : errW none = .nilIface := rfl
theorem errW_some (c : Int) : errW (some c) = .iface 0 (.int .i64 c) := rfl

-- the values' own types

end Go.Proofs.Ytekeehhbalhfiaa.PFnBoxQueue
