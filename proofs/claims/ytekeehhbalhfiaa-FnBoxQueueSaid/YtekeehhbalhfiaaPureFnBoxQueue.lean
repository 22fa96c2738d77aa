/- The pure statement of FnBoxQueue: the walk that was made by hand holds for all that memory can hold. Conditions: bytes. -/
import Derived.Test.YtekeehhbalhfiaaPFnBoxQueuex1
import Derived.Test.YtekeehhbalhfiaaPl
set_option linter.unusedSimpArgs false
set_option linter.unusedVariables false
namespace Go.Proofs.Ytekeehhbalhfiaa.Pure
open Go.RowKit Go.Proofs.Ytekeehhbalhfiaa.PFnBoxQueue Go.Proofs.YtekeehhbalhfiaaW.PrintWords Go.Proofs.YtekeehhbalhfiaaW.PrintLast Go.Proofs.YtekeehhbalhfiaaW.PrintMore Go.Proofs.YtekeehhbalhfiaaPl

namespace FnBoxQueue_
end FnBoxQueue_
open FnBoxQueue_
theorem FnBoxQueue : laws_FnBoxQueue.Pure := by
  intro l m hl hx hm hy
  exact if_pos ⟨hl, hm⟩

end Go.Proofs.Ytekeehhbalhfiaa.Pure
