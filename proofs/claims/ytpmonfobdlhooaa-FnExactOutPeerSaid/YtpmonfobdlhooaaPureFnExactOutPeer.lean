/- The pure statement of FnExactOutPeer: the program's OutPeer and the reference's tell the same. Conditions: the arguments are whole numbers of 64 bits. -/
import Derived.Test.YtpmonfobdlhooaaPFnExactOutPeerx1
import Derived.Test.YtpmonfobdlhooaaPl
namespace Go.Proofs.Ytpmonfobdlhooaa.Pure
open Go.RowKit Go.Proofs.Ytpmonfobdlhooaa.PFnExactOutPeer Go.Proofs.YtpmonfobdlhooaaW.PrintWords Go.Proofs.YtpmonfobdlhooaaW.PrintLast Go.Proofs.YtpmonfobdlhooaaW.PrintMore Go.Proofs.YtpmonfobdlhooaaPl

namespace FnExactOutPeer_
theorem l1In_eq (a b c : Int) : spec_l1In.f a b c = some (decide (b ≤ a ∧ a ≤ c)) := by
  unfold spec_l1In.f
  by_cases h1 : b ≤ a
  · rw [if_pos h1]
    simp [h1]
  · rw [if_neg h1]
    simp [h1]
def outB (a b c d : Int) : Bool := decide ((1 ≤ a ∧ a ≤ 60000) ∧ (0 ≤ b ∧ b ≤ 60000) ∧ (0 ≤ c ∧ c ≤ 200) ∧ (0 ≤ d ∧ d ≤ 15))
theorem specOut_eq (a b c d : Int) : spec_OutOk.f a b c d = some (outB a b c d) := by
  unfold spec_OutOk.f outB
  simp only [Option.bind_some, l1In_eq]
  by_cases h1 : 1 ≤ a ∧ a ≤ 60000 <;> by_cases h2 : 0 ≤ b ∧ b ≤ 60000 <;> by_cases h3 : 0 ≤ c ∧ c ≤ 200 <;> simp [h1, h2, h3]
theorem implOut_eq (a b c d : Int) : impl_OutOk.f a b c d = some (outB a b c d) := by
  unfold impl_OutOk.f outB
  by_cases h1 : 1 ≤ a <;> by_cases h2 : a ≤ 60000 <;> by_cases h3 : 0 ≤ b <;> by_cases h4 : b ≤ 60000 <;> by_cases h5 : 0 ≤ c <;> by_cases h6 : c ≤ 200 <;> by_cases h7 : 0 ≤ d <;> simp [h1, h2, h3, h4, h5, h6, h7]
end FnExactOutPeer_
open FnExactOutPeer_
theorem FnExactOutPeer : laws_FnExactOutPeer.Pure := by
  intro a b c d p _ _ _ _ _
  refine ⟨1, ?_⟩
  unfold laws_FnExactOutPeer.f laws_toOutOut.f spec_OutPeer.f impl_OutPeer.f laws_eqOutOut.f
  simp only [Option.bind_some, specOut_eq, implOut_eq, l1In_eq, spec_OutPeer.j0]
  by_cases h : outB a b c d = true
  · simp only [h, if_true]
    by_cases h1 : p < 0
    · simp [h1, show ¬ 0 ≤ p by omega]
    · by_cases h2 : p > 60000
      · simp [h1, h2, show ¬ p ≤ 60000 by omega]
      · by_cases h3 : p > b
        · simp [h1, h2, h3, show 0 ≤ p by omega, show p ≤ 60000 by omega, mx_eq, show max b p = p by omega]
        · simp [h1, h2, h3, show 0 ≤ p by omega, show p ≤ 60000 by omega, mx_eq, show max b p = b by omega]
  · simp [h]

end Go.Proofs.Ytpmonfobdlhooaa.Pure
