/- The pure statement of FnExactGrdRuleOk: the program's GrdRuleOk and the reference's tell the same. Conditions: the arguments are whole numbers of 64 bits. -/
import Derived.Test.YtpmonfobdlhooaaPFnExactGrdRuleOkx1
import Derived.Test.YtpmonfobdlhooaaPl
namespace Go.Proofs.Ytpmonfobdlhooaa.Pure
open Go.RowKit Go.Proofs.Ytpmonfobdlhooaa.PFnExactGrdRuleOk Go.Proofs.YtpmonfobdlhooaaW.PrintWords Go.Proofs.YtpmonfobdlhooaaW.PrintLast Go.Proofs.YtpmonfobdlhooaaW.PrintMore Go.Proofs.YtpmonfobdlhooaaPl

namespace FnExactGrdRuleOk_
theorem l1In_eq (a b c : Int) : spec_l1In.f a b c = some (decide (b ≤ a ∧ a ≤ c)) := by
  unfold spec_l1In.f
  by_cases h1 : b ≤ a
  · rw [if_pos h1]
    simp [h1]
  · rw [if_neg h1]
    simp [h1]
def ruleB (a b c d e f g : Int) : Bool := decide ((0 ≤ a ∧ a ≤ 8) ∧ (a ≤ b ∧ b ≤ 8) ∧ (-1 ≤ c ∧ c ≤ 7) ∧ (0 ≤ d ∧ d ≤ 255) ∧ (d ≤ e ∧ e ≤ 255) ∧ (-1 ≤ f ∧ f ≤ 7) ∧ (0 ≤ g ∧ g ≤ 8))
theorem and_step {p q : Prop} [Decidable p] [Decidable q] {x : Option Bool} (h : x = some (decide q)) : (if decide p = true then x else some false) = some (decide (p ∧ q)) := by
  by_cases hp : p <;> simp [hp, h]
theorem specRule_eq (a b c d e f g : Int) : spec_GrdRuleOk.f a b c d e f g = some (ruleB a b c d e f g) := by
  unfold spec_GrdRuleOk.f ruleB
  simp only [Option.bind_some, l1In_eq]
  exact and_step (and_step (and_step (and_step (and_step (and_step rfl)))))
theorem if_step {p q : Prop} [Decidable p] [Decidable q] {x : Option Bool} (h : p → x = some (decide q)) (hq : ¬ p → ¬ q) : (if p then x else some false) = some (decide q) := by
  by_cases hp : p
  · rw [if_pos hp, h hp]
  · rw [if_neg hp]
    simp [hq hp]
theorem implRule_eq (a b c d e f g : Int) : impl_GrdRuleOk.f a b c d e f g = some (ruleB a b c d e f g) := by
  unfold impl_GrdRuleOk.f ruleB
  repeat' (refine if_step (fun _ => ?_) (by omega))
  congr 1
  rw [decide_eq_decide]
  omega
end FnExactGrdRuleOk_
open FnExactGrdRuleOk_
theorem FnExactGrdRuleOk : laws_FnExactGrdRuleOk.Pure := by
  intro a b c d e f g _ _ _ _ _ _ _
  unfold laws_FnExactGrdRuleOk.f laws_toGrdRule.f
  simp [specRule_eq, implRule_eq]

end Go.Proofs.Ytpmonfobdlhooaa.Pure
