/- The pure statement of FnExactGrdOk: the program's GrdOk and the reference's tell the same, and the argument stays. Conditions: whole numbers of 64 bits. -/
import Derived.Test.YtpmonfobdlhooaaPFnExactGrdOkx2
import Derived.Test.YtpmonfobdlhooaaPl
namespace Go.Proofs.Ytpmonfobdlhooaa.Pure
open Go.RowKit Go.Proofs.Ytpmonfobdlhooaa.PFnExactGrdOk Go.Proofs.YtpmonfobdlhooaaW.PrintWords Go.Proofs.YtpmonfobdlhooaaW.PrintLast Go.Proofs.YtpmonfobdlhooaaW.PrintMore Go.Proofs.YtpmonfobdlhooaaPl

namespace FnExactGrdOk_
theorem l1In_eq (a b c : Int) : spec_l1In.f a b c = some (decide (b ≤ a ∧ a ≤ c)) := by
  unfold spec_l1In.f
  by_cases h1 : b ≤ a
  · rw [if_pos h1]
    simp [h1]
  · rw [if_neg h1]
    simp [h1]
def ruleB (a b c d e f g : Int) : Bool := decide ((0 ≤ a ∧ a ≤ 8) ∧ (a ≤ b ∧ b ≤ 8) ∧ (-1 ≤ c ∧ c ≤ 7) ∧ (0 ≤ d ∧ d ≤ 255) ∧ (d ≤ e ∧ e ≤ 255) ∧ (-1 ≤ f ∧ f ≤ 7) ∧ (0 ≤ g ∧ g ≤ 8))
theorem and_step {p q : Prop} [Decidable p] [Decidable q] {x : Option Bool} (h : x = some (decide q)) : (if decide p = true then x else some false) = some (decide (p ∧ q)) := by
  by_cases hp : p <;> simp [hp, h]
theorem specRule_eq (a b c d e f g : Int) : spec_GrdRuleOk.f a b c d e f g = some (ruleB a b c d e f g) := by
  unfold spec_GrdRuleOk.f ruleB
  simp only [Option.bind_some, l1In_eq]
  exact and_step (and_step (and_step (and_step (and_step (and_step rfl)))))
theorem if_step {p q : Prop} [Decidable p] [Decidable q] {x : Option Bool} (h : p → x = some (decide q)) (hq : ¬ p → ¬ q) : (if p then x else some false) = some (decide q) := by
  by_cases hp : p
  · rw [if_pos hp, h hp]
  · rw [if_neg hp]
    simp [hq hp]
theorem implRule_eq (a b c d e f g : Int) : impl_GrdRuleOk.f a b c d e f g = some (ruleB a b c d e f g) := by
  unfold impl_GrdRuleOk.f ruleB
  repeat' (refine if_step (fun _ => ?_) (by omega))
  congr 1
  rw [decide_eq_decide]
  omega
def conv (x : S36) : S38 := ⟨x.f0, x.f1, x.f2, x.f3, x.f4, x.f5, x.f6⟩
theorem szRules_eq (l : List S36) (a : Int) (h : l.length ≤ maxLen) (h0 : 0 ≤ a) (h1 : a ≤ 1048576) : laws_szGrdRuleS.f l a = some (if a < (l.length : Int) then -1 else a - (l.length : Int)) := by
  unfold laws_szGrdRuleS.f
  have hm : maxLen = 9223372036854775807 := rfl
  rw [wrap_in (by omega) (by omega)]
  by_cases hl : a < (l.length : Int)
  · rw [if_pos (by omega), if_pos hl]
  · rw [if_neg (by omega), if_neg hl]
theorem rdA_nat (l : List S36) (i : Nat) (h : i < l.length) : rd_T36 l (i : Int) = l[i] := by
  simp [rd_T36, h]
theorem rdB_nat (l : List S38) (i : Nat) (h : i < l.length) : rd_T38 l (i : Int) = l[i] := by
  simp [rd_T38, h]
theorem toRules_eq (l : List S36) (hl : l.length ≤ 1048576) (k : Nat) (hk : l.length < k) : laws_toGrdRuleS.f k l = some (l.map conv) := by
  unfold laws_toGrdRuleS.f
  rw [if_pos (by omega), if_pos (by omega)]
  exact map_loop (fun k y i => laws_toGrdRuleS.l0 k l y i) l conv (fun k y i hi hy => by
    simp only [laws_toGrdRuleS.l0, laws_toGrdRule.f, Option.bind_some]
    rw [if_pos (by omega), if_pos (by omega), if_pos (by omega), wrap_nat (by omega), rdA_nat l i hi]
    rfl) (fun k y hy => by
    simp only [laws_toGrdRuleS.l0]
    rw [if_neg (by omega)]) k (List.replicate ((l.length : Int) : Int).toNat z38) (by simp) hk
theorem eqRule_self (a b c d e f g : Int) : laws_eqGrdRule.f a b c d e f g a b c d e f g = some true := by
  simp [laws_eqGrdRule.f]
theorem eqRules_self (l : List S38) (hl : l.length ≤ 1048576) (k : Nat) (hk : l.length < k) : laws_eqGrdRuleS.f k l l = some true := by
  unfold laws_eqGrdRuleS.f
  rw [if_pos rfl]
  exact all_loop_true (fun k i => laws_eqGrdRuleS.l0 k l l i) l.length (fun k i hi => by
    simp only [laws_eqGrdRuleS.l0]
    rw [if_pos (by omega), if_pos (by omega), if_pos (by omega), eqRule_self, Option.bind_some, if_pos rfl, wrap_nat (by omega)]) (fun k => by
    simp only [laws_eqGrdRuleS.l0]
    rw [if_neg (by omega)]) k hk
def ruleOf (x : S38) : Bool := ruleB x.f0 x.f1 x.f2 x.f3 x.f4 x.f5 x.f6
def rulesB (l : List S38) : Bool := decide (l.length ≤ 4) && l.all ruleOf
theorem range_all (l : List S38) : ((List.range l.length).all fun i => ruleOf (rd_T38 l i)) = l.all ruleOf := by
  rw [Bool.eq_iff_iff, List.all_eq_true, List.all_eq_true]
  constructor
  · intro h x hx
    obtain ⟨i, hi, rfl⟩ := List.getElem_of_mem hx
    have := h i (by simpa using hi)
    rwa [rdB_nat l i hi] at this
  · intro h i hi
    have hi' : i < l.length := by simpa using hi
    rw [rdB_nat l i hi']
    exact h _ (List.getElem_mem hi')
theorem specRules_eq (l : List S38) (k : Nat) (hk : 6 ≤ k) : spec_GrdOk.f k l = some (rulesB l) := by
  unfold spec_GrdOk.f rulesB
  by_cases h : (l.length : Int) > 4
  · rw [if_pos h]
    simp [show ¬ l.length ≤ 4 by omega]
  · rw [if_neg h]
    have h1 := all_loop (fun k i => spec_GrdOk.l0 k l i) l.length (fun i => ruleOf (rd_T38 l i)) (fun k i hi => by
      simp only [spec_GrdOk.l0, specRule_eq, Option.bind_some]
      rw [if_pos (by omega), if_pos (by omega), wrap_nat (by omega)]
      rfl) (fun k => by
      simp only [spec_GrdOk.l0]
      rw [if_neg (by omega)]) k (by omega)
    rw [range_all] at h1
    rw [h1]
    simp [show l.length ≤ 4 by omega]
theorem implRules_eq (l : List S38) (k : Nat) (hk : 6 ≤ k) : impl_GrdOk.f k l = some (rulesB l) := by
  unfold impl_GrdOk.f rulesB
  by_cases h : (l.length : Int) > 4
  · rw [if_pos h]
    simp [show ¬ l.length ≤ 4 by omega]
  · rw [if_neg h]
    have h1 := all_loop (fun k i => impl_GrdOk.l0 k l (l.length : Int) i) l.length (fun i => ruleOf (rd_T38 l i)) (fun k i hi => by
      simp only [impl_GrdOk.l0, implRule_eq, Option.bind_some]
      rw [if_pos (by omega), if_pos (by omega), if_pos (by omega), wrap_nat (by omega)]
      rfl) (fun k => by
      simp only [impl_GrdOk.l0]
      rw [if_neg (by omega)]) k (by omega)
    rw [range_all] at h1
    rw [h1]
    simp [show l.length ≤ 4 by omega]
end FnExactGrdOk_
open FnExactGrdOk_
theorem FnExactGrdOk : laws_FnExactGrdOk.Pure := by
  intro l hm _
  refine ⟨1048577, ?_⟩
  unfold laws_FnExactGrdOk.f
  rw [szRules_eq l _ hm (by omega) (by omega), Option.bind_some]
  by_cases h : (1048576 : Int) < (l.length : Int)
  · rw [if_pos h, if_pos (by omega)]
  · rw [if_neg h, if_neg (by omega), toRules_eq l (by omega) _ (by omega)]
    simp only [Option.bind_some]
    rw [specRules_eq _ _ (by omega), implRules_eq _ _ (by omega), eqRules_self _ (by rw [List.length_map]; omega) _ (by rw [List.length_map]; omega)]
    simp

end Go.Proofs.Ytpmonfobdlhooaa.Pure
