/- Functions that a law reaches, each with the walk that shows what its call answers; laid by a program of this session. -/
import Derived.Test.YtcnipdbommmkmaaProg
import Derived.Below
import Derived.Deep.Draws
import Derived.Deep.AppendLies
import Derived.Maps.AppendAt
import Derived.OwnWalk
import Derived.Laws.BytesArg
import Derived.Laws.MakeOwn
import Derived.Laws.OwnMore
import Derived.Deep.OwnRows
import Derived.Tactics
import Derived.Lib.ConvBytes
import Derived.Laws.Slices
import Derived.WalkKit
import Derived.KernelRfl
import Derived.RowKit3
import Derived.Deep.LoopGhost
import Derived.Deep.QuietTactic
import Derived.BigQuiet
import Derived.WideLaws
import Derived.Deep.DeepCutAuto
import Derived.Deep.CutBlock
import Derived.Deep.RegionHeld3
import Derived.Laws.Rows
import Derived.Lib.AppendStr
import Derived.ArgAppend
import Derived.Laws.IdiomCopy
import Derived.OrdersHeld
import Derived.Laws.BitsLemmas
import Derived.RowKit
import Derived.Test.YtcnipdbommmkmaaVSq
import Derived.Test.YtcnipdbommmkmaaVVmOk
import Derived.Test.YtcnipdbommmkmaaVCopy
import Derived.Test.YtcnipdbommmkmaaVCopyInt
import Derived.Test.YtcnipdbommmkmaaVWords
import Derived.Test.YtcnipdbommmkmaaVLast
import Derived.Test.YtcnipdbommmkmaaVTab
import Derived.Test.YtcnipdbommmkmaaVFour
import Derived.Test.YtcnipdbommmkmaaVQPut
import Derived.Test.YtcnipdbommmkmaaVApart
import Derived.Test.YtcnipdbommmkmaaVArr
import Derived.Test.YtcnipdbommmkmaaVZeros
import Derived.Test.YtcnipdbommmkmaaVFoot
import Derived.Test.YtcnipdbommmkmaaVKept
import Derived.Test.YtcnipdbommmkmaaVShare
import Derived.Test.YtcnipdbommmkmaaVN
import Derived.Test.YtcnipdbommmkmaaVFootNe
import Derived.Test.YtcnipdbommmkmaaVAt
import Derived.Test.YtcnipdbommmkmaaVEqStruct
import Derived.Test.YtcnipdbommmkmaaVRepsOne
import Derived.Test.YtcnipdbommmkmaaVInv
import Derived.Test.YtcnipdbommmkmaaVInvWords
import Derived.Test.YtcnipdbommmkmaaVGuard
import Derived.Test.YtcnipdbommmkmaaVNEv
import Derived.Test.YtcnipdbommmkmaaVMore
namespace Go.Proofs.Ytcnipdbommmkmaa.PVg
open Go.RowKit Go.Proofs.YtcnipdbommmkmaaW.PrintWords Go.Proofs.YtcnipdbommmkmaaW.PrintLast Go.Proofs.YtcnipdbommmkmaaW.PrintMore
attribute [local go_sem] max2_int min2_int max_two min_two max_three min_three max_four min_four   -- for this text's walks alone
set_option linter.unusedVariables false
set_option linter.unusedSimpArgs false



def errW : Option Int → Value
  | none => .nilIface
  | some c => .iface 0 (.int .i64 c)
theorem errW_none : errW none = .nilIface := rfl
theorem errW_some (c : Int) : errW (some c) = .iface 0 (.int .i64 c) := rfl

theorem info3 : (Try.prog.info? 3).map (fun i => (i.zero, i.size, i.bytes)) = some (some (.int .i64 0), 1, 8) := by kernel_rfl
theorem info5 : (Try.prog.info? 5).map (fun i => (i.zero, i.size, i.bytes)) = some (some (.int .u8 0), 1, 1) := by kernel_rfl
-- the values' own types

end Go.Proofs.Ytcnipdbommmkmaa.PVg
