/- The pure statement of FnExactBoxPut: the walk that was made by hand holds for all that memory can hold. Conditions: bytes. -/
import Derived.Test.YtekeehhbalhfiaaPFnExactBoxPutx1
import Derived.Test.YtekeehhbalhfiaaPl
set_option linter.unusedSimpArgs false
set_option linter.unusedVariables false
namespace Go.Proofs.Ytekeehhbalhfiaa.Pure
open Go.RowKit Go.Proofs.Ytekeehhbalhfiaa.PFnExactBoxPut Go.Proofs.YtekeehhbalhfiaaW.PrintWords Go.Proofs.YtekeehhbalhfiaaW.PrintLast Go.Proofs.YtekeehhbalhfiaaW.PrintMore Go.Proofs.YtekeehhbalhfiaaPl

namespace FnExactBoxPut_
end FnExactBoxPut_
open FnExactBoxPut_
theorem FnExactBoxPut : laws_FnExactBoxPut.Pure := by
  intro d l m hd hl hx hm hy
  exact if_pos ⟨fun x hxx => (hx x hxx).1, hl, hm⟩

end Go.Proofs.Ytekeehhbalhfiaa.Pure
