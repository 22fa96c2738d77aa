/- The pure statement of FnExactConstants: the constants' comparisons come out true. Conditions: none. -/
import Derived.Test.YtpmonfobdlhooaaPFnExactConstantsx1
import Derived.Test.YtpmonfobdlhooaaPl
namespace Go.Proofs.Ytpmonfobdlhooaa.Pure
open Go.RowKit Go.Proofs.Ytpmonfobdlhooaa.PFnExactConstants Go.Proofs.YtpmonfobdlhooaaW.PrintWords Go.Proofs.YtpmonfobdlhooaaW.PrintLast Go.Proofs.YtpmonfobdlhooaaW.PrintMore Go.Proofs.YtpmonfobdlhooaaPl

namespace FnExactConstants_
end FnExactConstants_
open FnExactConstants_
theorem FnExactConstants : laws_FnExactConstants.Pure := rfl

end Go.Proofs.Ytpmonfobdlhooaa.Pure
