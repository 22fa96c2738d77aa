/- The pure statement of FnExactBoxTake: the walk that was made by hand holds for all that memory can hold. Conditions: bytes. -/
import Derived.Test.YtekeehhbalhfiaaPFnExactBoxTakex1
import Derived.Test.YtekeehhbalhfiaaPl
set_option linter.unusedSimpArgs false
set_option linter.unusedVariables false
namespace Go.Proofs.Ytekeehhbalhfiaa.Pure
open Go.RowKit Go.Proofs.Ytekeehhbalhfiaa.PFnExactBoxTake Go.Proofs.YtekeehhbalhfiaaW.PrintWords Go.Proofs.YtekeehhbalhfiaaW.PrintLast Go.Proofs.YtekeehhbalhfiaaW.PrintMore Go.Proofs.YtekeehhbalhfiaaPl

namespace FnExactBoxTake_
end FnExactBoxTake_
open FnExactBoxTake_
theorem FnExactBoxTake : laws_FnExactBoxTake.Pure := by
  intro d l hd hl hx
  exact if_pos ⟨fun x hxx => (hx x hxx).1, hl⟩

end Go.Proofs.Ytekeehhbalhfiaa.Pure
