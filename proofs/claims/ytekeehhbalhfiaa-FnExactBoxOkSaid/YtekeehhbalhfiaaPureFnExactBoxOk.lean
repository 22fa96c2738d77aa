/- The pure statement of FnExactBoxOk: the program's BoxOk and the reference's answer alike, and the argument stays. Conditions: bytes. -/
import Derived.Test.YtekeehhbalhfiaaPFnExactBoxOkx3
import Derived.Test.YtekeehhbalhfiaaPl
set_option linter.unusedSimpArgs false
set_option linter.unusedVariables false
namespace Go.Proofs.Ytekeehhbalhfiaa.Pure
open Go.RowKit Go.Proofs.Ytekeehhbalhfiaa.PFnExactBoxOk Go.Proofs.YtekeehhbalhfiaaW.PrintWords Go.Proofs.YtekeehhbalhfiaaW.PrintLast Go.Proofs.YtekeehhbalhfiaaW.PrintMore Go.Proofs.YtekeehhbalhfiaaPl

namespace FnExactBoxOk_
theorem toByteS_eq (l : List Int) (hl : l.length ≤ 1048576) (k : Nat) (hk : l.length < k) : laws_toByteS.f k l = some l := by
  unfold laws_toByteS.f
  rw [if_pos (by omega), if_pos (by omega)]
  have h := map_loop (fun k y i => laws_toByteS.l0 k l y i) l id (fun k y i hi hy => by
    simp only [laws_toByteS.l0]
    rw [if_pos (by omega), if_pos (by omega), if_pos (by omega), wrap_nat (by omega), rd_nat l i hi]
    rfl) (fun k y hy => by
    simp only [laws_toByteS.l0]
    rw [if_neg (by omega)]) k (List.replicate ((l.length : Int) : Int).toNat 0) (by simp) hk
  simpa using h
theorem eqByteS_self (l : List Int) (hl : l.length ≤ 1048576) (k : Nat) (hk : l.length < k) : laws_eqByteS.f k l l = some true := by
  unfold laws_eqByteS.f
  rw [if_pos rfl]
  exact all_loop_true (fun k i => laws_eqByteS.l0 k l l i) l.length (fun k i hi => by
    simp only [laws_eqByteS.l0]
    rw [if_pos (by omega), if_pos (by omega), if_pos (by omega), if_pos trivial, wrap_nat (by omega)]) (fun k => by
    simp only [laws_eqByteS.l0]
    rw [if_neg (by omega)]) k hk
theorem l1In_eq (a b c : Int) : spec_l1In.f a b c = some (decide (b ≤ a ∧ a ≤ c)) := by
  unfold spec_l1In.f
  by_cases h1 : b ≤ a
  · rw [if_pos h1]
    simp [h1]
  · rw [if_neg h1]
    simp [h1]
def Small (l : List (List Int)) : Prop := ∀ x ∈ l, x.length ≤ 1048576
theorem rdL_nat (l : List (List Int)) (i : Nat) (h : i < l.length) : rd_L1 l (i : Int) = l[i] := by
  simp [rd_L1, h]
theorem szByteS_eq (x : List Int) (b : Int) (hx : x.length ≤ maxLen) (hb0 : 0 ≤ b) (hb1 : b ≤ 1048576) : laws_szByteS.f x b = some (if (x.length : Int) ≤ b then b - (x.length : Int) else -1) := by
  unfold laws_szByteS.f
  have : maxLen = 9223372036854775807 := rfl
  rw [wrap_in (by omega) (by omega)]
  by_cases h : (x.length : Int) ≤ b
  · rw [if_neg (by omega), if_pos h]
  · rw [if_pos (by omega), if_neg h]
theorem szByteSS_loop (l : List (List Int)) (hl : ∀ x ∈ l, x.length ≤ maxLen) (hL : l.length ≤ 1048576) : ∀ (d k i : Nat) (b : Int), i + d = l.length → d < k → 0 ≤ b → b ≤ 1048576 →
    ∃ r, laws_szByteSS.l0 k l b (i : Int) = some r ∧ r ≤ 1048576 ∧ (r < 0 ∨ Small (l.drop i)) := by
  intro d
  induction d with
  | zero =>
    intro k i b hi hk hb0 hb1
    obtain ⟨k, rfl⟩ : ∃ m, k = m + 1 := ⟨k - 1, by omega⟩
    simp only [laws_szByteSS.l0]
    have e0 : l.drop i = [] := List.drop_eq_nil_of_le (by omega)
    rw [if_neg (by omega), e0]
    exact ⟨_, rfl, by omega, Or.inr (fun x hx => absurd hx (by simp))⟩
  | succ d ih =>
    intro k i b hi hk hb0 hb1
    obtain ⟨k, rfl⟩ : ∃ m, k = m + 1 := ⟨k - 1, by omega⟩
    simp only [laws_szByteSS.l0]
    have e0 : l.drop i = l[i] :: l.drop (i + 1) := List.drop_eq_getElem_cons (by omega)
    rw [if_pos (by omega), if_pos (by omega), rdL_nat l i (by omega), szByteS_eq _ _ (hl _ (List.getElem_mem _)) hb0 hb1, e0]
    simp only [Option.bind_some]
    by_cases h : ((l[i]).length : Int) ≤ b
    · rw [if_pos h, if_neg (by omega), wrap_nat (by omega)]
      obtain ⟨r, e, h1, h2⟩ := ih k (i + 1) (b - ((l[i]).length : Int)) (by omega) (by omega) (by omega) (by omega)
      refine ⟨r, e, h1, h2.imp id fun h2 x hx => ?_⟩
      rcases List.mem_cons.mp hx with hx | hx
      · rw [hx]
        omega
      · exact h2 x hx
    · rw [if_neg h, if_pos (by omega)]
      exact ⟨_, rfl, by omega, Or.inl (by omega)⟩
theorem szByteSS_eq (l : List (List Int)) (hl : ∀ x ∈ l, x.length ≤ maxLen) (hm : l.length ≤ maxLen) (b : Int) (hb0 : 0 ≤ b) (hb1 : b ≤ 1048576) (k : Nat) (hk : l.length < k) :
    ∃ r, laws_szByteSS.f k l b = some r ∧ r ≤ 1048576 ∧ (r < 0 ∨ (Small l ∧ l.length ≤ 1048576)) := by
  unfold laws_szByteSS.f
  have : maxLen = 9223372036854775807 := rfl
  rw [wrap_in (by omega) (by omega)]
  by_cases h : b - (l.length : Int) < 0
  · rw [if_pos h]
    exact ⟨_, rfl, by omega, Or.inl (by omega)⟩
  · rw [if_neg h]
    obtain ⟨r, e, h1, h2⟩ := szByteSS_loop l hl (by omega) l.length k 0 (b - (l.length : Int)) (by omega) hk (by omega) (by omega)
    exact ⟨r, e, h1, h2.imp id fun h2 => ⟨by simpa using h2, by omega⟩⟩
theorem toByteSS_eq (l : List (List Int)) (hs : Small l) (hl : l.length ≤ 1048576) (k : Nat) (hk : l.length + 1048577 < k) : laws_toByteSS.f k l = some l := by
  have gen : ∀ (d k i : Nat) (y : List (List Int)), i + d = l.length → y.length = l.length → d + 1048577 < k → laws_toByteSS.l0 k l y (i : Int) = some (y.take i ++ l.drop i) := by
    intro d
    induction d with
    | zero =>
      intro k i y hi hy hk
      obtain ⟨k, rfl⟩ : ∃ m, k = m + 1 := ⟨k - 1, by omega⟩
      have e0 : l.drop i = [] := List.drop_eq_nil_of_le (by omega)
      simp only [laws_toByteSS.l0]
      rw [if_neg (by omega), e0, List.append_nil, List.take_of_length_le (by omega)]
    | succ d ih =>
      intro k i y hi hy hk
      obtain ⟨k, rfl⟩ : ∃ m, k = m + 1 := ⟨k - 1, by omega⟩
      have e0 : l.drop i = l[i] :: l.drop (i + 1) := List.drop_eq_getElem_cons (by omega)
      have hx := hs _ (List.getElem_mem (show i < l.length by omega))
      simp only [laws_toByteSS.l0]
      rw [if_pos (by omega), if_pos (by omega), rdL_nat l i (by omega), toByteS_eq _ hx k (by omega)]
      simp only [Option.bind_some]
      rw [if_pos (by omega), wrap_nat (by omega), Int.toNat_natCast, ih k (i + 1) _ (by omega) (by rw [List.length_set]; exact hy) (by omega), e0]
      congr 1
      rw [List.take_succ_eq_append_getElem (by rw [List.length_set]; omega), List.getElem_set_self, List.take_set_of_le (Nat.le_refl i), List.append_assoc]
      rfl
  unfold laws_toByteSS.f
  rw [if_pos (by omega), if_pos (by omega)]
  have h := gen l.length k 0 (List.replicate ((l.length : Int) : Int).toNat []) (by omega) (by simp) (by omega)
  simpa using h
theorem eqByteSS_self (l : List (List Int)) (hs : Small l) (hl : l.length ≤ 1048576) (k : Nat) (hk : l.length + 1048577 < k) : laws_eqByteSS.f k l l = some true := by
  have gen : ∀ (d k i : Nat), i + d = l.length → d + 1048577 < k → laws_eqByteSS.l0 k l l (i : Int) = some true := by
    intro d
    induction d with
    | zero =>
      intro k i hi hk
      obtain ⟨k, rfl⟩ : ∃ m, k = m + 1 := ⟨k - 1, by omega⟩
      simp only [laws_eqByteSS.l0]
      rw [if_neg (by omega)]
    | succ d ih =>
      intro k i hi hk
      obtain ⟨k, rfl⟩ : ∃ m, k = m + 1 := ⟨k - 1, by omega⟩
      have hx := hs _ (List.getElem_mem (show i < l.length by omega))
      simp only [laws_eqByteSS.l0]
      rw [if_pos (by omega), if_pos (by omega), if_pos (by omega), rdL_nat l i (by omega), eqByteS_self _ hx k (by omega)]
      simp only [Option.bind_some, if_true]
      rw [wrap_nat (by omega)]
      exact ih k (i + 1) (by omega) (by omega)
  unfold laws_eqByteSS.f
  rw [if_pos rfl]
  exact gen l.length k 0 (by omega) (by omega)
def boxOkB (d : Int) (l : List (List Int)) : Bool := decide (1 ≤ d ∧ d ≤ 4) && (decide ((l.length : Int) ≤ d) && (List.range l.length).all fun j => decide ((rd_L1 l (j : Int)).length ≤ 8))
theorem implBoxOk_eq (d : Int) (l : List (List Int)) (hl : l.length ≤ 1048576) (k : Nat) (hk : l.length + 1 < k) : impl_BoxOk.f k d l = some (boxOkB d l) := by
  obtain ⟨k, rfl⟩ : ∃ m, k = m + 1 := ⟨k - 1, by omega⟩
  unfold impl_BoxOk.f boxOkB
  simp only [impl_BoxOk.j0]
  by_cases h1 : d < 1
  · rw [if_pos h1, if_pos trivial]
    simp [show ¬ 1 ≤ d by omega]
  · rw [if_neg h1]
    by_cases h2 : d > 4
    · rw [if_pos h2, if_pos trivial]
      simp [show ¬ d ≤ 4 by omega]
    · rw [if_neg h2, decide_eq_true (show 1 ≤ d ∧ d ≤ 4 by omega), Bool.true_and]
      by_cases h3 : (l.length : Int) > d
      · rw [decide_eq_true h3, if_pos rfl, decide_eq_false (by omega), Bool.false_and]
      · rw [decide_eq_false h3, if_neg (by simp), decide_eq_true (show (l.length : Int) ≤ d by omega), Bool.true_and]
        exact all_loop (fun k i => impl_BoxOk.l0 k l (l.length : Int) i) l.length (fun j => decide ((rd_L1 l (j : Int)).length ≤ 8)) (fun k i hi => by
          simp only [impl_BoxOk.l0, impl_BytMessage.f]
          rw [if_pos (by omega), if_pos (by omega), if_pos (by omega), wrap_nat (by omega)]
          simp only [Option.bind_some]
          by_cases c : (rd_L1 l (i : Int)).length ≤ 8
          · rw [decide_eq_true (show ((rd_L1 l (i : Int)).length : Int) ≤ 8 by omega), decide_eq_true c]
          · rw [decide_eq_false (show ¬ ((rd_L1 l (i : Int)).length : Int) ≤ 8 by omega), decide_eq_false c]) (fun k => by
          simp only [impl_BoxOk.l0]
          rw [if_neg (by omega)]) k (by omega)
theorem specBoxOk_eq (d : Int) (l : List (List Int)) (hl : l.length ≤ 1048576) (k : Nat) (hk : l.length + 1 < k) : spec_BoxOk.f k d l = some (boxOkB d l) := by
  obtain ⟨k, rfl⟩ : ∃ m, k = m + 1 := ⟨k - 1, by omega⟩
  unfold spec_BoxOk.f boxOkB
  rw [l1In_eq]
  simp only [Option.bind_some, spec_BoxOk.j0]
  by_cases h1 : 1 ≤ d ∧ d ≤ 4
  · rw [decide_eq_true h1, if_pos rfl, Bool.true_and]
    by_cases h3 : (l.length : Int) > d
    · rw [decide_eq_true h3, if_pos rfl, decide_eq_false (by omega), Bool.false_and]
    · rw [decide_eq_false h3, if_neg (by simp), decide_eq_true (show (l.length : Int) ≤ d by omega), Bool.true_and]
      exact all_loop (fun k i => spec_BoxOk.l0 k i d l) l.length (fun j => decide ((rd_L1 l (j : Int)).length ≤ 8)) (fun k i hi => by
        simp only [spec_BoxOk.l0, spec_BytMessage.f]
        rw [if_pos (by omega), if_pos (by omega), wrap_nat (by omega)]
        simp only [Option.bind_some]
        by_cases c : (rd_L1 l (i : Int)).length ≤ 8
        · rw [decide_eq_true (show ((rd_L1 l (i : Int)).length : Int) ≤ 8 by omega), decide_eq_true c]
        · rw [decide_eq_false (show ¬ ((rd_L1 l (i : Int)).length : Int) ≤ 8 by omega), decide_eq_false c]) (fun k => by
        simp only [spec_BoxOk.l0]
        rw [if_neg (by omega)]) k (by omega)
  · rw [decide_eq_false h1, if_neg (by simp), if_pos trivial, Bool.false_and]
end FnExactBoxOk_
open FnExactBoxOk_
theorem FnExactBoxOk : laws_FnExactBoxOk.Pure := by
  intro d l hd hm hl
  obtain ⟨K, hK⟩ : ∃ K : Nat, l.length + 1048600 ≤ K := ⟨_, Nat.le_refl _⟩
  refine ⟨K, ?_⟩
  unfold laws_FnExactBoxOk.f laws_szBoxBox.f
  obtain ⟨r, er, h1, h2⟩ := szByteSS_eq l (fun x hx => (hl x hx).1) hm 1048576 (by omega) (by omega) K (by omega)
  rw [er]
  simp only [Option.bind_some]
  by_cases hr : r < 0
  · rw [if_pos hr]
    simp only [Option.bind_some]
    rw [if_pos (by omega)]
  · rw [if_neg hr]
    simp only [Option.bind_some]
    obtain ⟨hs, hL⟩ := h2.resolve_left hr
    have T : laws_toBoxBox.f K d l = some (d, l) := by
      unfold laws_toBoxBox.f
      rw [toByteSS_eq l hs hL K (by omega)]
      rfl
    have E : laws_eqBoxBox.f K d l d l = some true := by
      unfold laws_eqBoxBox.f
      rw [if_pos rfl, eqByteSS_self l hs hL K (by omega)]
      rfl
    rw [if_neg hr, T]
    simp only [Option.bind_some]
    rw [specBoxOk_eq d l hL K (by omega)]
    simp only [Option.bind_some]
    rw [implBoxOk_eq d l hL K (by omega)]
    simp only [Option.bind_some, bne_self_eq_false, Bool.false_eq_true, if_false]
    rw [E]
    rfl

end Go.Proofs.Ytekeehhbalhfiaa.Pure
