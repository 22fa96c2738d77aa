/- Words that print.sh lays, cut by a program of this session (trim.py) to what one claim names. Conditions: as each theorem states. -/
import Derived.Test.YtcnipdbommmkmaaVInv
import Derived.Test.YtcnipdbommmkmaaVFootNe
namespace Go.Proofs.YtcnipdbommmkmaaW.PrintWords
open Go.RowKit
end Go.Proofs.YtcnipdbommmkmaaW.PrintWords
namespace Go.Proofs.YtcnipdbommmkmaaW.PrintLast
section
variable {ops : Array Oper} {a : Act} {o og : Oper} {g : Nat} {t : Tmp} {u : Bool}
end
end Go.Proofs.YtcnipdbommmkmaaW.PrintLast
