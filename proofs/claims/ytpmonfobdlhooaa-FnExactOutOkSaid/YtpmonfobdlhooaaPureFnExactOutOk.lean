/- The pure statement of FnExactOutOk: the program's OutOk and the reference's tell the same. Conditions: the arguments are whole numbers of 64 bits. -/
import Derived.Test.YtpmonfobdlhooaaPFnExactOutOkx1
import Derived.Test.YtpmonfobdlhooaaPl
namespace Go.Proofs.Ytpmonfobdlhooaa.Pure
open Go.RowKit Go.Proofs.Ytpmonfobdlhooaa.PFnExactOutOk Go.Proofs.YtpmonfobdlhooaaW.PrintWords Go.Proofs.YtpmonfobdlhooaaW.PrintLast Go.Proofs.YtpmonfobdlhooaaW.PrintMore Go.Proofs.YtpmonfobdlhooaaPl

namespace FnExactOutOk_
theorem l1In_eq (a b c : Int) : spec_l1In.f a b c = some (decide (b ≤ a ∧ a ≤ c)) := by
  unfold spec_l1In.f
  by_cases h1 : b ≤ a
  · rw [if_pos h1]
    simp [h1]
  · rw [if_neg h1]
    simp [h1]
end FnExactOutOk_
open FnExactOutOk_
theorem FnExactOutOk : laws_FnExactOutOk.Pure := by
  intro a b c d _ _ _ _
  unfold laws_FnExactOutOk.f laws_toOutOut.f spec_OutOk.f impl_OutOk.f
  simp only [Option.bind_some, l1In_eq]
  by_cases h1 : 1 ≤ a <;> by_cases h2 : a ≤ 60000 <;> by_cases h3 : 0 ≤ b <;> by_cases h4 : b ≤ 60000 <;> simp [h1, h2, h3, h4]
  by_cases h5 : 0 ≤ c <;> by_cases h6 : c ≤ 200 <;> by_cases h7 : 0 ≤ d <;> simp [h5, h6, h7]

end Go.Proofs.Ytpmonfobdlhooaa.Pure
