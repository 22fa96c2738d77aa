/- The pure statement of FnExactGrdFits: the program's GrdFits and the reference's tell the same, and the argument stays. Conditions: whole numbers of 64 bits, bytes. -/
import Derived.Test.YtpmonfobdlhooaaPFnExactGrdFitsx2
import Derived.Test.YtpmonfobdlhooaaPl
namespace Go.Proofs.Ytpmonfobdlhooaa.Pure
open Go.RowKit Go.Proofs.Ytpmonfobdlhooaa.PFnExactGrdFits Go.Proofs.YtpmonfobdlhooaaW.PrintWords Go.Proofs.YtpmonfobdlhooaaW.PrintLast Go.Proofs.YtpmonfobdlhooaaW.PrintMore Go.Proofs.YtpmonfobdlhooaaPl

namespace FnExactGrdFits_
theorem l1In_eq (a b c : Int) : spec_l1In.f a b c = some (decide (b ≤ a ∧ a ≤ c)) := by
  unfold spec_l1In.f
  by_cases h1 : b ≤ a
  · rw [if_pos h1]
    simp [h1]
  · rw [if_neg h1]
    simp [h1]
theorem toByteS_eq (l : List Int) (hl : l.length ≤ 1048576) (k : Nat) (hk : l.length < k) : laws_toByteS.f k l = some l := by
  unfold laws_toByteS.f
  rw [if_pos (by omega), if_pos (by omega)]
  have h := map_loop (fun k y i => laws_toByteS.l0 k l y i) l id (fun k y i hi hy => by
    simp only [laws_toByteS.l0]
    rw [if_pos (by omega), if_pos (by omega), if_pos (by omega), wrap_nat (by omega), rd_nat l i hi]
    rfl) (fun k y hy => by
    simp only [laws_toByteS.l0]
    rw [if_neg (by omega)]) k (List.replicate ((l.length : Int) : Int).toNat 0) (by simp) hk
  simpa using h
theorem eqByteS_self (l : List Int) (hl : l.length ≤ 1048576) (k : Nat) (hk : l.length < k) : laws_eqByteS.f k l l = some true := by
  unfold laws_eqByteS.f
  rw [if_pos rfl]
  exact all_loop_true (fun k i => laws_eqByteS.l0 k l l i) l.length (fun k i hi => by
    simp only [laws_eqByteS.l0]
    rw [if_pos (by omega), if_pos (by omega), if_pos (by omega), if_pos trivial, wrap_nat (by omega)]) (fun k => by
    simp only [laws_eqByteS.l0]
    rw [if_neg (by omega)]) k hk
def ruleB (a b c d e f g : Int) : Bool := decide ((0 ≤ a ∧ a ≤ 8) ∧ (a ≤ b ∧ b ≤ 8) ∧ (-1 ≤ c ∧ c ≤ 7) ∧ (0 ≤ d ∧ d ≤ 255) ∧ (d ≤ e ∧ e ≤ 255) ∧ (-1 ≤ f ∧ f ≤ 7) ∧ (0 ≤ g ∧ g ≤ 8))
theorem and_step {p q : Prop} [Decidable p] [Decidable q] {x : Option Bool} (h : x = some (decide q)) : (if decide p = true then x else some false) = some (decide (p ∧ q)) := by
  by_cases hp : p <;> simp [hp, h]
theorem specRule_eq (a b c d e f g : Int) : spec_GrdRuleOk.f a b c d e f g = some (ruleB a b c d e f g) := by
  unfold spec_GrdRuleOk.f ruleB
  simp only [Option.bind_some, l1In_eq]
  exact and_step (and_step (and_step (and_step (and_step (and_step rfl)))))
theorem if_step {p q : Prop} [Decidable p] [Decidable q] {x : Option Bool} (h : p → x = some (decide q)) (hq : ¬ p → ¬ q) : (if p then x else some false) = some (decide q) := by
  by_cases hp : p
  · rw [if_pos hp, h hp]
  · rw [if_neg hp]
    simp [hq hp]
theorem implRule_eq (a b c d e f g : Int) : impl_GrdRuleOk.f a b c d e f g = some (ruleB a b c d e f g) := by
  unfold impl_GrdRuleOk.f ruleB
  repeat' (refine if_step (fun _ => ?_) (by omega))
  congr 1
  rw [decide_eq_decide]
  omega
theorem rd_range {l : List Int} (hl : ∀ x ∈ l, (Lit.int .u8 x).wf = true) (i : Int) : 0 ≤ rd l i ∧ rd l i ≤ 255 := by
  unfold rd
  rw [List.getD_eq_getElem?_getD]
  by_cases h : i.toNat < l.length
  · rw [List.getElem?_eq_getElem h]
    exact wf_u8 (hl _ (List.getElem_mem h))
  · rw [List.getElem?_eq_none (by omega)]
    simp
def fitsB (a b c d e f g : Int) (l : List Int) : Bool := ruleB a b c d e f g && (decide ((l.length : Int) ≤ 8) && (decide (a ≤ (l.length : Int) ∧ (l.length : Int) ≤ b) && (decide (c = -1) || (decide (c < (l.length : Int)) && decide (d ≤ rd l c ∧ rd l c ≤ e)))))
theorem rule_at {a b c d e f g : Int} (h : ruleB a b c d e f g = true) : -1 ≤ c := by
  unfold ruleB at h
  rw [decide_eq_true_eq] at h
  omega
theorem specFits_eq (a b c d e f g : Int) (l : List Int) (hl : ∀ x ∈ l, (Lit.int .u8 x).wf = true) : spec_GrdFits.f a b c d e f g l = some (fitsB a b c d e f g l) := by
  have hr := rd_range hl c
  unfold spec_GrdFits.f spec_BytMessage.f fitsB
  rw [specRule_eq]
  simp only [Option.bind_some, l1In_eq]
  rw [wrap_in (by omega) (by omega)]
  by_cases h1 : ruleB a b c d e f g = true
  · have hc := rule_at h1
    rw [if_pos h1, h1]
    by_cases h2 : (l.length : Int) ≤ 8
    · by_cases h3 : a ≤ (l.length : Int) ∧ (l.length : Int) ≤ b
      · by_cases h4 : c < 0
        · obtain rfl : c = -1 := by omega
          simp [h2, h3]
        · by_cases h5 : c < (l.length : Int)
          · simp [h2, h3, h4, h5, show ¬ c = -1 by omega, show 0 ≤ c by omega]
          · simp [h2, h3, h4, h5, show ¬ c = -1 by omega]
      · simp [h2, h3]
    · simp [h2]
  · rw [if_neg h1]
    simp [h1]
theorem implFits_eq (a b c d e f g : Int) (l : List Int) (hl : ∀ x ∈ l, (Lit.int .u8 x).wf = true) (k : Nat) : impl_GrdFits.f (k + 1) a b c d e f g l = some (fitsB a b c d e f g l) := by
  have hr := rd_range hl c
  unfold impl_GrdFits.f impl_BytMessage.f fitsB
  rw [implRule_eq]
  simp only [Option.bind_some, impl_GrdFits.j0]
  rw [wrap_in (by omega) (by omega)]
  by_cases h1 : ruleB a b c d e f g = true
  · have hc := rule_at h1
    rw [if_pos h1, h1]
    by_cases h2 : (l.length : Int) ≤ 8
    · by_cases h3 : (l.length : Int) < a
      · simp [h2, h3, show ¬ a ≤ (l.length : Int) by omega]
      · by_cases h6 : (l.length : Int) > b
        · simp [h2, h3, h6, show ¬ (l.length : Int) ≤ b by omega]
        · by_cases h4 : c = -1
          · simp [h2, h3, h4, h6, show a ≤ (l.length : Int) by omega, show (l.length : Int) ≤ b by omega]
          · by_cases h5 : c < (l.length : Int)
            · by_cases h7 : d ≤ rd l c
              · simp [h2, h3, h4, h5, h6, h7, show 0 ≤ c by omega, show a ≤ (l.length : Int) by omega, show (l.length : Int) ≤ b by omega]
              · simp [h2, h3, h4, h5, h6, h7, show 0 ≤ c by omega, show a ≤ (l.length : Int) by omega, show (l.length : Int) ≤ b by omega]
            · simp [h2, h3, h4, h5, h6, show a ≤ (l.length : Int) by omega, show (l.length : Int) ≤ b by omega]
    · simp [h2]
  · rw [if_neg h1]
    simp [h1]
end FnExactGrdFits_
open FnExactGrdFits_
theorem FnExactGrdFits : laws_FnExactGrdFits.Pure := by
  intro a b c d e f g l _ _ _ _ _ _ _ hm hw
  refine ⟨1048577 + 1, ?_⟩
  unfold laws_FnExactGrdFits.f laws_toGrdRule.f
  by_cases hb : (l.length : Int) > 1048576
  · rw [if_pos hb]
  · rw [if_neg hb, toByteS_eq l (by omega) _ (by omega)]
    simp only [Option.bind_some]
    rw [specFits_eq _ _ _ _ _ _ _ _ hw, implFits_eq _ _ _ _ _ _ _ _ hw, eqByteS_self l (by omega) _ (by omega)]
    simp

end Go.Proofs.Ytpmonfobdlhooaa.Pure
