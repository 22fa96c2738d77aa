/- The pure statement of FnExactBoxNew: the program's BoxNew and the reference's tell the same, an empty box. Conditions: the argument is a whole number of 64 bits. -/
import Derived.Test.YtpmonfobdlhooaaPFnExactBoxNewx2
import Derived.Test.YtpmonfobdlhooaaPl
namespace Go.Proofs.Ytpmonfobdlhooaa.Pure
open Go.RowKit Go.Proofs.Ytpmonfobdlhooaa.PFnExactBoxNew Go.Proofs.YtpmonfobdlhooaaW.PrintWords Go.Proofs.YtpmonfobdlhooaaW.PrintLast Go.Proofs.YtpmonfobdlhooaaW.PrintMore Go.Proofs.YtpmonfobdlhooaaPl

namespace FnExactBoxNew_
theorem l1In_eq (a b c : Int) : spec_l1In.f a b c = some (decide (b ≤ a ∧ a ≤ c)) := by
  unfold spec_l1In.f
  by_cases h1 : b ≤ a
  · rw [if_pos h1]
    simp [h1]
  · rw [if_neg h1]
    simp [h1]
theorem box_same (d : Int) : laws_eqBoxBox.f 2 d [] d [] = some true := by
  simp [laws_eqBoxBox.f, laws_eqByteSS.f, laws_eqByteSS.l0]
theorem box_held (d : Int) : laws_heldBoxBox.f 2 d [] 1 = some 1 := by
  simp [laws_heldBoxBox.f, laws_heldByteSS.f, laws_heldByteSS.l0]
theorem box_mark (d : Int) : laws_markBoxBox.f d [] 1 = some 1 := rfl
theorem specNew_eq (a : Int) : spec_BoxNew.f a = some (if 1 ≤ a ∧ a ≤ 4 then a else 0, []) := by
  unfold spec_BoxNew.f
  rw [l1In_eq, Option.bind_some]
  by_cases h : 1 ≤ a ∧ a ≤ 4
  · simp [h]
  · simp [h]
theorem implNew_eq (a : Int) : impl_BoxNew.f a = some (if 1 ≤ a ∧ a ≤ 4 then a else 0, []) := by
  unfold impl_BoxNew.f
  by_cases h1 : a < 1
  · rw [if_pos h1, if_neg (by omega)]
  · by_cases h2 : a > 4
    · rw [if_neg h1, if_pos h2, if_neg (by omega)]
    · rw [if_neg h1, if_neg h2, if_pos (by omega)]
end FnExactBoxNew_
open FnExactBoxNew_
theorem FnExactBoxNew : laws_FnExactBoxNew.Pure := by
  intro a _
  refine ⟨2, ?_⟩
  unfold laws_FnExactBoxNew.f
  rw [specNew_eq, implNew_eq]
  simp only [Option.bind_some, box_same, box_held, box_mark, if_true]
  simp

end Go.Proofs.Ytpmonfobdlhooaa.Pure
