/- The pure statement of FnExactVmGive: the walk that was made by hand holds for all that memory can hold. Conditions: bytes and whole numbers of 64 bits. -/
import Derived.Test.YtcnipdbommmkmaaPFnExactVmGivex1
import Derived.Test.YtcnipdbommmkmaaVPl
set_option linter.unusedSimpArgs false
set_option linter.unusedVariables false
namespace Go.Proofs.Ytcnipdbommmkmaa.Pure
open Go.RowKit Go.Proofs.Ytcnipdbommmkmaa.PFnExactVmGive Go.Proofs.YtcnipdbommmkmaaW.PrintWords Go.Proofs.YtcnipdbommmkmaaW.PrintLast Go.Proofs.YtcnipdbommmkmaaW.PrintMore Go.Proofs.YtcnipdbommmkmaaPl

namespace FnExactVmGive_
end FnExactVmGive_
open FnExactVmGive_
theorem FnExactVmGive : laws_FnExactVmGive.Pure := by
  intro p l1 l2 h a b l3 x y z m yes _ h1 _ h2 _ _ _ _ h3 _ _ _ _ h4 _
  exact if_pos ⟨h1, h2, h3, h4⟩

end Go.Proofs.Ytcnipdbommmkmaa.Pure
