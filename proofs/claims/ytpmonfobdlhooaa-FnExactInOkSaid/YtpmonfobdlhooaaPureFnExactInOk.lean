/- The pure statement of FnExactInOk: the program's InOk and the reference's tell the same. Conditions: the arguments are whole numbers of 64 bits. -/
import Derived.Test.YtpmonfobdlhooaaPFnExactInOkx1
import Derived.Test.YtpmonfobdlhooaaPl
namespace Go.Proofs.Ytpmonfobdlhooaa.Pure
open Go.RowKit Go.Proofs.Ytpmonfobdlhooaa.PFnExactInOk Go.Proofs.YtpmonfobdlhooaaW.PrintWords Go.Proofs.YtpmonfobdlhooaaW.PrintLast Go.Proofs.YtpmonfobdlhooaaW.PrintMore Go.Proofs.YtpmonfobdlhooaaPl

namespace FnExactInOk_
theorem l1In_eq (a b c : Int) : spec_l1In.f a b c = some (decide (b ≤ a ∧ a ≤ c)) := by
  unfold spec_l1In.f
  by_cases h1 : b ≤ a
  · rw [if_pos h1]
    simp [h1]
  · rw [if_neg h1]
    simp [h1]
end FnExactInOk_
open FnExactInOk_
theorem FnExactInOk : laws_FnExactInOk.Pure := by
  intro a b c _ _ _
  unfold laws_FnExactInOk.f laws_toInIn.f spec_InOk.f impl_InOk.f
  simp only [Option.bind_some, l1In_eq]
  by_cases h1 : 0 ≤ a <;> by_cases h2 : a ≤ 60000 <;> by_cases h3 : 0 ≤ b <;> by_cases h4 : b ≤ 200 <;> simp [h1, h2, h3, h4]
  by_cases h5 : 0 ≤ c <;> simp [h5]

end Go.Proofs.Ytpmonfobdlhooaa.Pure
