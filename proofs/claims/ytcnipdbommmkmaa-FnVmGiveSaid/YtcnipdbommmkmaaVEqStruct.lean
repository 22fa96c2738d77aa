/- Words that print.sh lays, cut by a program of this session (trim.py) to what one claim names. Conditions: as each theorem states. -/
import Derived.Test.YtcnipdbommmkmaaVWords
import Derived.Laws.StructEq
/-! ### 53. '==' of structs as_ one Bool -/
namespace Go.Proofs.YtcnipdbommmkmaaW.PrintWords
open Go.RowKit
section
variable {P : Program} {d : Nat} {xs ys : Array Value} {f : Field} {fs : List Field} {a b : Value} {r s : Bool} {w : World}
end
end Go.Proofs.YtcnipdbommmkmaaW.PrintWords
