/- The pure statement of FnVmGive: the walk that was made by hand holds for all bytes. Conditions: bytes. -/
import Derived.Test.YtcnipdbommmkmaaPFnVmGivex1
import Derived.Test.YtcnipdbommmkmaaVPl
set_option linter.unusedSimpArgs false
set_option linter.unusedVariables false
namespace Go.Proofs.Ytcnipdbommmkmaa.Pure
open Go.RowKit Go.Proofs.Ytcnipdbommmkmaa.PFnVmGive Go.Proofs.YtcnipdbommmkmaaW.PrintWords Go.Proofs.YtcnipdbommmkmaaW.PrintLast Go.Proofs.YtcnipdbommmkmaaW.PrintMore Go.Proofs.YtcnipdbommmkmaaPl

namespace FnVmGive_
end FnVmGive_
open FnVmGive_
theorem FnVmGive : laws_FnVmGive.Pure := by
  intro l0 _ h0
  exact if_pos (List.all_eq_true.2 h0)

end Go.Proofs.Ytcnipdbommmkmaa.Pure
