/- The pure statement of FnExactCelSightOk: the program's CelSightOk and the reference's answer alike, and the argument stays. Conditions: numbers of 64 bits, bytes. -/
import Derived.Test.YtcnipdbommmkmaaPFnExactCelSightOkx2
import Derived.Test.YtcnipdbommmkmaaPl
set_option linter.unusedSimpArgs false
set_option linter.unusedVariables false
namespace Go.Proofs.Ytcnipdbommmkmaa.Pure
open Go.RowKit Go.Proofs.Ytcnipdbommmkmaa.PFnExactCelSightOk Go.Proofs.YtcnipdbommmkmaaW.PrintWords Go.Proofs.YtcnipdbommmkmaaW.PrintLast Go.Proofs.YtcnipdbommmkmaaW.PrintMore Go.Proofs.YtcnipdbommmkmaaPl

namespace FnExactCelSightOk_
theorem l1In_eq (a b c : Int) : spec_l1In.f a b c = some (decide (b ≤ a ∧ a ≤ c)) := by
  unfold spec_l1In.f
  by_cases h1 : b ≤ a
  · rw [if_pos h1]
    simp [h1]
  · rw [if_neg h1]
    simp [h1]
theorem toByteS_eq (l : List Int) (hl : l.length ≤ 1048576) (k : Nat) (hk : l.length < k) : laws_toByteS.f k l = some l := by
  unfold laws_toByteS.f
  rw [if_pos (by omega), if_pos (by omega)]
  have h := map_loop (fun k y i => laws_toByteS.l0 k l y i) l id (fun k y i hi hy => by
    simp only [laws_toByteS.l0]
    rw [if_pos (by omega), if_pos (by omega), if_pos (by omega), wrap_nat (by omega), rd_nat l i hi]
    rfl) (fun k y hy => by
    simp only [laws_toByteS.l0]
    rw [if_neg (by omega)]) k (List.replicate ((l.length : Int) : Int).toNat 0) (by simp) hk
  simpa using h
theorem eqByteS_self (l : List Int) (hl : l.length ≤ 1048576) (k : Nat) (hk : l.length < k) : laws_eqByteS.f k l l = some true := by
  unfold laws_eqByteS.f
  rw [if_pos rfl]
  exact all_loop_true (fun k i => laws_eqByteS.l0 k l l i) l.length (fun k i hi => by
    simp only [laws_eqByteS.l0]
    rw [if_pos (by omega), if_pos (by omega), if_pos (by omega), if_pos trivial, wrap_nat (by omega)]) (fun k => by
    simp only [laws_eqByteS.l0]
    rw [if_neg (by omega)]) k hk
open Go.Proofs.YtcnipdbommmkmaaCelSight
theorem szByteS_eq (x : List Int) (b : Int) (hx : x.length ≤ maxLen) (hb0 : 0 ≤ b) (hb1 : b ≤ 1048576) : laws_szByteS.f x b = some (if (x.length : Int) ≤ b then b - (x.length : Int) else -1) := by
  unfold laws_szByteS.f
  have : maxLen = 9223372036854775807 := rfl
  rw [wrap_in (by omega) (by omega)]
  by_cases h : (x.length : Int) ≤ b
  · rw [if_neg (by omega), if_pos h]
  · rw [if_pos (by omega), if_neg h]
theorem specSight_eq (k way : Int) (l : List Int) : spec_CelSightOk.f k way l = some (sightB k way l.length) := by
  unfold spec_CelSightOk.f sightB spec_BytMessage.f
  rw [l1In_eq, Option.bind_some, l1In_eq]
  simp only [Option.bind_some]
  by_cases h1 : 1 ≤ k ∧ k ≤ 4
  · rw [if_pos (by simp; omega), if_pos h1, if_pos (show k ≤ 4 by omega)]
    by_cases h2 : 0 ≤ way ∧ way ≤ 9 <;> by_cases h3 : l.length ≤ 8
    · rw [if_pos (by simpa using h2), if_pos (by simp; omega), decide_eq_true h2, decide_eq_true h3]
      rfl
    · rw [if_pos (by simpa using h2), if_neg (by simp; omega), decide_eq_false h3]
      rfl
    · rw [if_neg (by simpa using h2), decide_eq_false h2, decide_eq_true h3]
      rfl
    · rw [if_neg (by simpa using h2), decide_eq_false h3]
      rfl
  · rw [if_neg h1]
    by_cases h5 : 5 ≤ k ∧ k ≤ 10
    · rw [if_pos (by simp; omega), if_pos h5, if_neg (show ¬ k ≤ 4 by omega)]
      by_cases h2 : 0 ≤ way ∧ way ≤ 9 <;> by_cases h3 : l.length ≤ 8
      · rw [if_pos (by simpa using h2), if_pos (by simp; omega), decide_eq_true h3]
        rfl
      · rw [if_pos (by simpa using h2), if_neg (by simp; omega), decide_eq_false h3]
        rfl
      · rw [if_neg (by simpa using h2), decide_eq_true h3, show (way == 0) = false by rw [beq_eq_false_iff_ne]; omega]
        rfl
      · rw [if_neg (by simpa using h2), decide_eq_false h3]
        rfl
    · rw [if_neg (by simp; omega), if_neg h5]
end FnExactCelSightOk_
open FnExactCelSightOk_
open Go.Proofs.YtcnipdbommmkmaaCelSight
theorem FnExactCelSightOk : laws_FnExactCelSightOk.Pure := by
  intro k way l _ _ hm _
  obtain ⟨K, hK⟩ : ∃ K : Nat, 1048600 ≤ K := ⟨1048600, Nat.le_refl _⟩
  refine ⟨K, ?_⟩
  unfold laws_FnExactCelSightOk.f laws_szCelSight.f laws_toCelSight.f
  rw [szByteS_eq _ _ hm (by omega) (by omega)]
  simp only [Option.bind_some]
  by_cases c : (l.length : Int) ≤ 1048576
  · rw [if_pos c, if_neg (by omega)]
    simp only [Option.bind_some]
    rw [if_neg (by omega), toByteS_eq l (by omega) K (by omega)]
    simp only [Option.bind_some]
    rw [specSight_eq]
    simp only [Option.bind_some, show impl_CelSightOk.f k way l = some (sightB k way l.length) from rfl, bne_self_eq_false, Bool.false_eq_true, if_false]
    unfold laws_eqCelSight.f
    simp only [if_true]
    rw [eqByteS_self l (by omega) K (by omega)]
    rfl
  · rw [if_neg c]
    rfl

end Go.Proofs.Ytcnipdbommmkmaa.Pure
