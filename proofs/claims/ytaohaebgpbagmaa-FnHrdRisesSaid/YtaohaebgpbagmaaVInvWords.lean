/- Words that print.sh lays, cut by a program of this session (trim.py) to what one claim names. Conditions: as each theorem states. -/
import Derived.Test.YtaohaebgpbagmaaVInv
import Derived.Test.YtaohaebgpbagmaaVFootNe
namespace Go.Proofs.YtaohaebgpbagmaaW.PrintWords
open Go.RowKit
end Go.Proofs.YtaohaebgpbagmaaW.PrintWords
namespace Go.Proofs.YtaohaebgpbagmaaW.PrintLast
section
variable {ops : Array Oper} {a : Act} {o og : Oper} {g : Nat} {t : Tmp} {u : Bool}
end
end Go.Proofs.YtaohaebgpbagmaaW.PrintLast
