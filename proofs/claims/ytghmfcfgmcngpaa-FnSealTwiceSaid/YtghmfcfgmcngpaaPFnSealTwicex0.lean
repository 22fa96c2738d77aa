/- Functions that a law reaches, each with the walk that shows what its call answers; laid by a program of this session. -/
import Derived.Test.YtghmfcfgmcngpaaProg
import Derived.Below
import Derived.Deep.Draws
import Derived.Deep.AppendLies
import Derived.Maps.AppendAt
import Derived.OwnWalk
import Derived.Laws.BytesArg
import Derived.Laws.MakeOwn
import Derived.Laws.OwnMore
import Derived.Deep.OwnRows
import Derived.Tactics
import Derived.Lib.ConvBytes
import Derived.Laws.Slices
import Derived.WalkKit
import Derived.KernelRfl
import Derived.RowKit3
import Derived.Deep.LoopGhost
import Derived.Deep.QuietTactic
import Derived.BigQuiet
import Derived.WideLaws
import Derived.Deep.DeepCutAuto
import Derived.Deep.CutBlock
import Derived.Deep.RegionHeld3
import Derived.Laws.Rows
import Derived.Lib.AppendStr
import Derived.ArgAppend
import Derived.Laws.IdiomCopy
import Derived.OrdersHeld
import Derived.Laws.BitsLemmas
import Derived.RowKit
import Derived.Test.YtghmfcfgmcngpaaAl
import Derived.Test.YtghmfcfgmcngpaaBytPut
import Derived.Test.YtghmfcfgmcngpaaSealHide
import Derived.Test.YtghmfcfgmcngpaaWWords
import Derived.Test.YtghmfcfgmcngpaaWLast
import Derived.Test.YtghmfcfgmcngpaaWTab
import Derived.Test.YtghmfcfgmcngpaaWFour
import Derived.Test.YtghmfcfgmcngpaaWQPut
import Derived.Test.YtghmfcfgmcngpaaWApart
import Derived.Test.YtghmfcfgmcngpaaWArr
import Derived.Test.YtghmfcfgmcngpaaWZeros
import Derived.Test.YtghmfcfgmcngpaaWFoot
import Derived.Test.YtghmfcfgmcngpaaWKept
import Derived.Test.YtghmfcfgmcngpaaWShare
import Derived.Test.YtghmfcfgmcngpaaWN
import Derived.Test.YtghmfcfgmcngpaaWFootNe
import Derived.Test.YtghmfcfgmcngpaaWAt
import Derived.Test.YtghmfcfgmcngpaaWEqStruct
import Derived.Test.YtghmfcfgmcngpaaWRepsOne
import Derived.Test.YtghmfcfgmcngpaaWInv
import Derived.Test.YtghmfcfgmcngpaaWInvWords
import Derived.Test.YtghmfcfgmcngpaaWGuard
import Derived.Test.YtghmfcfgmcngpaaWNEv
import Derived.Test.YtghmfcfgmcngpaaWMore
namespace Go.Proofs.Ytghmfcfgmcngpaa.PFnSealTwice
open Go.RowKit Go.Proofs.YtghmfcfgmcngpaaW.PrintWords Go.Proofs.YtghmfcfgmcngpaaW.PrintLast Go.Proofs.YtghmfcfgmcngpaaW.PrintMore
attribute [local go_sem] max2_int min2_int max_two min_two max_three min_three max_four min_four   -- for this text's walks alone
set_option linter.unusedVariables false
set_option linter.unusedSimpArgs false



def errW : Option Int → Value
  | none => .nilIface
  | some c => .iface 0 (.int .i64 c)
theorem errW_none : errW none = .nilIface := rfl
theorem errW_some (c : Int) : errW (some c) = .iface 0 (.int .i64 c) := rfl

theorem info3 : (Try.prog.info? 3).map (fun i => (i.zero, i.size, i.bytes)) = some (some (.int .i64 0), 1, 8) := by kernel_rfl
theorem info5 : (Try.prog.info? 5).map (fun i => (i.zero, i.size, i.bytes)) = some (some (.int .u8 0), 1, 1) := by kernel_rfl
-- the values' own types

end Go.Proofs.Ytghmfcfgmcngpaa.PFnSealTwice
