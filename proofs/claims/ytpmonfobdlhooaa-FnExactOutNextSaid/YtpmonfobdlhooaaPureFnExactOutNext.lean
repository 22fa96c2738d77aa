/- The pure statement of FnExactOutNext: the program's OutNext and the reference's tell the same. Conditions: the arguments are whole numbers of 64 bits. -/
import Derived.Test.YtpmonfobdlhooaaPFnExactOutNextx1
import Derived.Test.YtpmonfobdlhooaaPl
namespace Go.Proofs.Ytpmonfobdlhooaa.Pure
open Go.RowKit Go.Proofs.Ytpmonfobdlhooaa.PFnExactOutNext Go.Proofs.YtpmonfobdlhooaaW.PrintWords Go.Proofs.YtpmonfobdlhooaaW.PrintLast Go.Proofs.YtpmonfobdlhooaaW.PrintMore Go.Proofs.YtpmonfobdlhooaaPl

namespace FnExactOutNext_
end FnExactOutNext_
open FnExactOutNext_
theorem FnExactOutNext : laws_FnExactOutNext.Pure := by
  intro a b c d _ _ _ _
  unfold laws_FnExactOutNext.f laws_toOutOut.f spec_OutNext.f impl_OutNext.f laws_eqOutOut.f
  simp

end Go.Proofs.Ytpmonfobdlhooaa.Pure
