/- Words that print.sh lays, cut by a program of this session (trim.py) to what one claim names. Conditions: as each theorem states. -/
import Derived.Test.YtlmlbodbloahlaaVInv
import Derived.Test.YtlmlbodbloahlaaVFootNe
namespace Go.Proofs.YtlmlbodbloahlaaW.PrintWords
open Go.RowKit
end Go.Proofs.YtlmlbodbloahlaaW.PrintWords
namespace Go.Proofs.YtlmlbodbloahlaaW.PrintLast
section
variable {ops : Array Oper} {a : Act} {o og : Oper} {g : Nat} {t : Tmp} {u : Bool}
end
end Go.Proofs.YtlmlbodbloahlaaW.PrintLast
