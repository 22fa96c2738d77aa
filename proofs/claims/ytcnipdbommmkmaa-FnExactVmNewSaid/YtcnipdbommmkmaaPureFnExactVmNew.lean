/- The pure statement of FnExactVmNew: the program's VmNew and the reference's tell the same, in memory of its own: a plain reckoning. Conditions: none. -/
import Derived.Test.YtcnipdbommmkmaaPFnExactVmNewx3
import Derived.Test.YtcnipdbommmkmaaPl
set_option linter.unusedSimpArgs false
set_option linter.unusedVariables false
namespace Go.Proofs.Ytcnipdbommmkmaa.Pure
open Go.RowKit Go.Proofs.Ytcnipdbommmkmaa.PFnExactVmNew Go.Proofs.YtcnipdbommmkmaaW.PrintWords Go.Proofs.YtcnipdbommmkmaaW.PrintLast Go.Proofs.YtcnipdbommmkmaaW.PrintMore Go.Proofs.YtcnipdbommmkmaaPl

namespace FnExactVmNew_
end FnExactVmNew_
open FnExactVmNew_
theorem FnExactVmNew : laws_FnExactVmNew.Pure := ⟨60, by decide +kernel⟩

end Go.Proofs.Ytcnipdbommmkmaa.Pure
