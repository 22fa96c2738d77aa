/- The pure statement of FnExactInHear: the program's InHear and the reference's tell the same. Conditions: whole numbers of 64 bits. -/
import Derived.Test.YtaohaebgpbagmaaPFnExactInHearx1
import Derived.Test.YtaohaebgpbagmaaPl
namespace Go.Proofs.Ytaohaebgpbagmaa.Pure
open Go.RowKit Go.Proofs.Ytaohaebgpbagmaa.PFnExactInHear Go.Proofs.YtaohaebgpbagmaaW.PrintWords Go.Proofs.YtaohaebgpbagmaaW.PrintLast Go.Proofs.YtaohaebgpbagmaaW.PrintMore Go.Proofs.YtaohaebgpbagmaaPl

namespace FnExactInHear_
theorem l1In_eq (a b c : Int) : spec_l1In.f a b c = some (decide (b ≤ a ∧ a ≤ c)) := by
  unfold spec_l1In.f
  by_cases h1 : b ≤ a
  · rw [if_pos h1]
    simp [h1]
  · rw [if_neg h1]
    simp [h1]
open Go.Proofs.YtaohaebgpbagmaaInFresh
theorem specIn_eq (a b c : Int) : spec_InOk.f a b c = some (inB a b c) := by
  unfold spec_InOk.f inB
  simp only [Option.bind_some, l1In_eq]
  by_cases h1 : 0 ≤ a ∧ a ≤ 60000 <;> by_cases h2 : 0 ≤ b ∧ b ≤ 200 <;> simp [h1, h2]
theorem less_eq (a b c d e f : Int) : spec_l12Less.f a b c d e f = some (decide (lex3 a b c d e f < 0)) := by
  unfold spec_l12Less.f lex3 cmp3
  by_cases h1 : a < d
  · simp [h1, show ¬ a = d by omega]
  · by_cases h2 : d < a
    · simp [h1, h2, show ¬ a = d by omega]
    · obtain rfl : a = d := by omega
      by_cases h3 : b < e
      · simp [h3, show ¬ b = e by omega]
      · by_cases h4 : e < b
        · simp [h3, h4, show ¬ b = e by omega]
        · obtain rfl : b = e := by omega
          by_cases h5 : c < f
          · simp [h5]
          · by_cases h6 : f < c
            · simp [h5, h6]
            · simp [h5, h6]
theorem specFresh_eq (i0 i1 i2 b e s : Int) : spec_InFresh.f i0 i1 i2 b e s = some (freshB i0 i1 i2 b e s) := by
  unfold spec_InFresh.f freshB mayB
  rw [specIn_eq]
  simp only [Option.bind_some, l1In_eq, less_eq]
  by_cases h0 : inB i0 i1 i2 = true
  · by_cases h1 : 1 ≤ b ∧ b ≤ 60000 <;> by_cases h2 : 0 ≤ e ∧ e ≤ 200 <;> by_cases h3 : 0 ≤ s ∧ s ≤ 15 <;> simp [h0, h1, h2, h3]
  · simp [h0]
theorem implFresh_eq (i0 i1 i2 b e s : Int) : impl_InFresh.f i0 i1 i2 b e s = some (freshB i0 i1 i2 b e s) := rfl
theorem implIn_eq (a b c : Int) : impl_InOk.f a b c = some (inB a b c) := by
  unfold impl_InOk.f inB
  by_cases h1 : 0 ≤ a <;> by_cases h2 : a ≤ 60000 <;> by_cases h3 : 0 ≤ b <;> by_cases h4 : b ≤ 200 <;> by_cases h5 : 0 ≤ c <;> simp [h1, h2, h3, h4, h5]
def hear (i0 i1 i2 b e s : Int) : Int × Int × Int := if inB i0 i1 i2 = true then (if freshB i0 i1 i2 b e s = true then (b, e, wrap64 (s + 1)) else (i0, i1, i2)) else (0, 0, 0)
theorem specHear_eq (i0 i1 i2 b e s : Int) : spec_InHear.f i0 i1 i2 b e s = some (hear i0 i1 i2 b e s) := by
  unfold spec_InHear.f hear
  rw [specIn_eq, specFresh_eq]
  simp only [Option.bind_some]
  by_cases h0 : inB i0 i1 i2 = true <;> by_cases h1 : freshB i0 i1 i2 b e s = true <;> simp [h0, h1]
theorem implHear_eq (i0 i1 i2 b e s : Int) : impl_InHear.f i0 i1 i2 b e s = some (hear i0 i1 i2 b e s) := by
  unfold impl_InHear.f hear
  rw [implIn_eq, implFresh_eq]
  simp only [Option.bind_some]
  by_cases h0 : inB i0 i1 i2 = true <;> by_cases h1 : freshB i0 i1 i2 b e s = true <;> simp [h0, h1]
end FnExactInHear_
open FnExactInHear_
theorem FnExactInHear : laws_FnExactInHear.Pure := by
  intro i0 i1 i2 b e s _ _ _ _ _ _
  unfold laws_FnExactInHear.f laws_toInIn.f laws_eqInIn.f
  simp [specHear_eq, implHear_eq]

end Go.Proofs.Ytaohaebgpbagmaa.Pure
