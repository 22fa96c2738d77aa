/- The pure statement of FnExactOutOpen: the program's OutOpen and the reference's tell the same. Conditions: the argument is a whole number of 64 bits. -/
import Derived.Test.YtpmonfobdlhooaaPFnExactOutOpenx1
import Derived.Test.YtpmonfobdlhooaaPl
namespace Go.Proofs.Ytpmonfobdlhooaa.Pure
open Go.RowKit Go.Proofs.Ytpmonfobdlhooaa.PFnExactOutOpen Go.Proofs.YtpmonfobdlhooaaW.PrintWords Go.Proofs.YtpmonfobdlhooaaW.PrintLast Go.Proofs.YtpmonfobdlhooaaW.PrintMore Go.Proofs.YtpmonfobdlhooaaPl

namespace FnExactOutOpen_
theorem l1In_eq (a b c : Int) : spec_l1In.f a b c = some (decide (b ≤ a ∧ a ≤ c)) := by
  unfold spec_l1In.f
  by_cases h1 : b ≤ a
  · rw [if_pos h1]
    simp [h1]
  · rw [if_neg h1]
    simp [h1]
end FnExactOutOpen_
open FnExactOutOpen_
theorem FnExactOutOpen : laws_FnExactOutOpen.Pure := by
  intro a _
  unfold laws_FnExactOutOpen.f spec_OutOpen.f impl_OutOpen.f laws_eqOutOut.f
  simp only [l1In_eq, Option.bind_some]
  by_cases h1 : a < 1
  · simp [h1, show ¬ 1 ≤ a by omega]
  · by_cases h2 : a > 60000
    · simp [h1, h2, show ¬ a ≤ 60000 by omega]
    · simp [h1, h2, show 1 ≤ a by omega, show a ≤ 60000 by omega]

end Go.Proofs.Ytpmonfobdlhooaa.Pure
