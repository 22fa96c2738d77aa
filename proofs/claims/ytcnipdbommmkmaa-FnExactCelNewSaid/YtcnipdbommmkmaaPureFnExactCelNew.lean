/- The pure statement of FnExactCelNew: the program's CelNew and the reference's tell the same, in memory of its own: a plain reckoning. Conditions: none. -/
import Derived.Test.YtcnipdbommmkmaaPFnExactCelNewx3
import Derived.Test.YtcnipdbommmkmaaPl
set_option linter.unusedSimpArgs false
set_option linter.unusedVariables false
namespace Go.Proofs.Ytcnipdbommmkmaa.Pure
open Go.RowKit Go.Proofs.Ytcnipdbommmkmaa.PFnExactCelNew Go.Proofs.YtcnipdbommmkmaaW.PrintWords Go.Proofs.YtcnipdbommmkmaaW.PrintLast Go.Proofs.YtcnipdbommmkmaaW.PrintMore Go.Proofs.YtcnipdbommmkmaaPl

namespace FnExactCelNew_
end FnExactCelNew_
open FnExactCelNew_
theorem FnExactCelNew : laws_FnExactCelNew.Pure := ⟨60, by decide +kernel⟩

end Go.Proofs.Ytcnipdbommmkmaa.Pure
