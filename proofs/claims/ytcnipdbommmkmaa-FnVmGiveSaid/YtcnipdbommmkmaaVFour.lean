/- Words that print.sh lays, cut by a program of this session (trim.py) to what one claim names. Conditions: as each theorem states. -/
import Derived.Test.YtcnipdbommmkmaaVTab
/-! ### 56. Four, five, six operations that may come up next, in any order -/
namespace Go.Proofs.YtcnipdbommmkmaaW.PrintLast
section
variable {P : Program} {ops : Array Oper} {Q : Exit → Act → World → Prop} {md : Region.Mode} {S : World → Prop} {ds : List Nat} {T : Bool × List (List Nat × List Nat)}
end
end Go.Proofs.YtcnipdbommmkmaaW.PrintLast
