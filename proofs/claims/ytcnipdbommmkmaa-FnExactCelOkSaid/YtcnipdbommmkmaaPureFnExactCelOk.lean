/- The pure statement of FnExactCelOk: the program's CelOk and the reference's answer alike, and the argument stays. Conditions: numbers of 64 bits, bytes. -/
import Derived.Test.YtcnipdbommmkmaaPFnExactCelOkx3
import Derived.Test.YtcnipdbommmkmaaPl
set_option linter.unusedSimpArgs false
set_option linter.unusedVariables false
namespace Go.Proofs.Ytcnipdbommmkmaa.Pure
open Go.RowKit Go.Proofs.Ytcnipdbommmkmaa.PFnExactCelOk Go.Proofs.YtcnipdbommmkmaaW.PrintWords Go.Proofs.YtcnipdbommmkmaaW.PrintLast Go.Proofs.YtcnipdbommmkmaaW.PrintMore Go.Proofs.YtcnipdbommmkmaaPl

namespace FnExactCelOk_
theorem l1In_eq (a b c : Int) : spec_l1In.f a b c = some (decide (b ≤ a ∧ a ≤ c)) := by
  unfold spec_l1In.f
  by_cases h1 : b ≤ a
  · rw [if_pos h1]
    simp [h1]
  · rw [if_neg h1]
    simp [h1]
theorem toIntS_eq (l : List Int) (hl : l.length ≤ 1048576) (k : Nat) (hk : l.length < k) : laws_toIntS.f k l = some l := by
  unfold laws_toIntS.f
  rw [if_pos (by omega), if_pos (by omega)]
  have h := map_loop (fun k y i => laws_toIntS.l0 k l y i) l id (fun k y i hi hy => by
    simp only [laws_toIntS.l0]
    rw [if_pos (by omega), if_pos (by omega), if_pos (by omega), wrap_nat (by omega), rd_nat l i hi]
    rfl) (fun k y hy => by
    simp only [laws_toIntS.l0]
    rw [if_neg (by omega)]) k (List.replicate ((l.length : Int) : Int).toNat 0) (by simp) hk
  simpa using h
theorem eqIntS_self (l : List Int) (hl : l.length ≤ 1048576) (k : Nat) (hk : l.length < k) : laws_eqIntS.f k l l = some true := by
  unfold laws_eqIntS.f
  rw [if_pos rfl]
  exact all_loop_true (fun k i => laws_eqIntS.l0 k l l i) l.length (fun k i hi => by
    simp only [laws_eqIntS.l0]
    rw [if_pos (by omega), if_pos (by omega), if_pos (by omega), if_pos trivial, wrap_nat (by omega)]) (fun k => by
    simp only [laws_eqIntS.l0]
    rw [if_neg (by omega)]) k hk
theorem toByteS_eq (l : List Int) (hl : l.length ≤ 1048576) (k : Nat) (hk : l.length < k) : laws_toByteS.f k l = some l := by
  unfold laws_toByteS.f
  rw [if_pos (by omega), if_pos (by omega)]
  have h := map_loop (fun k y i => laws_toByteS.l0 k l y i) l id (fun k y i hi hy => by
    simp only [laws_toByteS.l0]
    rw [if_pos (by omega), if_pos (by omega), if_pos (by omega), wrap_nat (by omega), rd_nat l i hi]
    rfl) (fun k y hy => by
    simp only [laws_toByteS.l0]
    rw [if_neg (by omega)]) k (List.replicate ((l.length : Int) : Int).toNat 0) (by simp) hk
  simpa using h
theorem eqByteS_self (l : List Int) (hl : l.length ≤ 1048576) (k : Nat) (hk : l.length < k) : laws_eqByteS.f k l l = some true := by
  unfold laws_eqByteS.f
  rw [if_pos rfl]
  exact all_loop_true (fun k i => laws_eqByteS.l0 k l l i) l.length (fun k i hi => by
    simp only [laws_eqByteS.l0]
    rw [if_pos (by omega), if_pos (by omega), if_pos (by omega), if_pos trivial, wrap_nat (by omega)]) (fun k => by
    simp only [laws_eqByteS.l0]
    rw [if_neg (by omega)]) k hk
open Go.Proofs.YtcnipdbommmkmaaVmOk
theorem szIntS_eq (x : List Int) (b : Int) (hx : x.length ≤ maxLen) (hb0 : 0 ≤ b) (hb1 : b ≤ 1048576) : laws_szIntS.f x b = some (if (x.length : Int) ≤ b then b - (x.length : Int) else -1) := by
  unfold laws_szIntS.f
  have : maxLen = 9223372036854775807 := rfl
  rw [wrap_in (by omega) (by omega)]
  by_cases h : (x.length : Int) ≤ b
  · rw [if_neg (by omega), if_pos h]
  · rw [if_pos (by omega), if_neg h]
theorem szVm_eq (pc h : Int) (l1 l2 : List Int) (h1 : l1.length ≤ maxLen) (h2 : l2.length ≤ maxLen) (b : Int) (hb0 : 0 ≤ b) (hb1 : b ≤ 1048576) :
    ∃ r, laws_szVmState.f pc l1 l2 h b = some r ∧ r ≤ 1048576 ∧ (r < 0 ∨ (l1.length ≤ 1048576 ∧ l2.length ≤ 1048576)) := by
  unfold laws_szVmState.f
  rw [szIntS_eq _ _ h1 hb0 hb1]
  simp only [Option.bind_some]
  by_cases c : (l1.length : Int) ≤ b
  · rw [if_pos c, if_neg (by omega), szIntS_eq _ _ h2 (by omega) (by omega)]
    simp only [Option.bind_some]
    by_cases c2 : (l2.length : Int) ≤ b - (l1.length : Int)
    · rw [if_pos c2, if_neg (by omega)]
      exact ⟨_, rfl, by omega, Or.inr (by omega)⟩
    · rw [if_neg c2, if_pos (by omega)]
      exact ⟨_, rfl, by omega, Or.inl (by omega)⟩
  · rw [if_neg c, if_pos (by omega)]
    exact ⟨_, rfl, by omega, Or.inl (by omega)⟩
theorem toVm_eq (pc h : Int) (l1 l2 : List Int) (h1 : l1.length ≤ 1048576) (h2 : l2.length ≤ 1048576) (k : Nat) (hk : 1048577 ≤ k) : laws_toVmState.f k pc l1 l2 h = some (pc, l1, l2, h) := by
  unfold laws_toVmState.f
  rw [toIntS_eq _ h1 k (by omega), Option.bind_some, toIntS_eq _ h2 k (by omega), Option.bind_some]
theorem eqVm_self (pc h : Int) (l1 l2 : List Int) (h1 : l1.length ≤ 1048576) (h2 : l2.length ≤ 1048576) (k : Nat) (hk : 1048577 ≤ k) : laws_eqVmState.f k pc l1 l2 h pc l1 l2 h = some true := by
  unfold laws_eqVmState.f
  rw [if_pos rfl, eqIntS_self _ h1 k (by omega), Option.bind_some, if_pos rfl, eqIntS_self _ h2 k (by omega), Option.bind_some, if_pos rfl, if_pos rfl]
theorem all_range (l : List Int) (f : Int → Bool) : ((List.range l.length).all fun j => f (rd l (j : Int))) = l.all f := by
  rw [Bool.eq_iff_iff, List.all_eq_true, List.all_eq_true]
  constructor
  · intro h x hx
    obtain ⟨i, hi, rfl⟩ := List.mem_iff_getElem.mp hx
    have := h i (List.mem_range.mpr hi)
    rwa [rd_nat l i hi] at this
  · intro h i hi
    have hi := List.mem_range.mp hi
    rw [rd_nat l i hi]
    exact h _ (List.getElem_mem hi)
theorem bytes_eq (l : List Int) (n : Nat) (hn : n ≤ 100) (k : Nat) (hk : 101 ≤ k) : spec_l6Bytes.f k l (n : Int) = some (decide (l.length = n) && l.all byteB) := by
  unfold spec_l6Bytes.f
  by_cases h : l.length = n
  · rw [if_pos (by omega), decide_eq_true h, Bool.true_and, ← all_range l byteB]
    exact all_loop (fun k i => spec_l6Bytes.l0 k l i) l.length (fun j => byteB (rd l (j : Int))) (fun k i hi => by
      simp only [spec_l6Bytes.l0]
      rw [if_pos (by omega), if_pos (by omega), l1In_eq, wrap_nat (by omega)]
      rfl) (fun k => by
      simp only [spec_l6Bytes.l0]
      rw [if_neg (by omega)]) k (by omega)
  · rw [if_neg (by omega), decide_eq_false h, Bool.false_and]
theorem specVmOk_eq (pc h : Int) (l1 l2 : List Int) (k : Nat) (hk : 101 ≤ k) : spec_VmOk.f k pc l1 l2 h = some (okB pc l1 l2 h) := by
  have e1 := bytes_eq l1 4 (by omega) k hk
  have e2 := bytes_eq l2 8 (by omega) k hk
  have eh : (h == 0 || (h == 1 || h == 2)) = decide (0 ≤ h ∧ h ≤ 2) := by
    rw [Bool.eq_iff_iff]
    simp
    omega
  unfold spec_VmOk.f okB
  rw [l1In_eq]
  simp only [Option.bind_some]
  rw [show ((4 : Nat) : Int) = 4 from rfl] at e1
  rw [show ((8 : Nat) : Int) = 8 from rfl] at e2
  rw [e1]
  simp only [Option.bind_some]
  rw [e2]
  simp only [Option.bind_some, l1In_eq, eh]
  cases decide (0 ≤ pc ∧ pc ≤ 24) <;> cases decide (l1.length = 4) <;> cases decide (l2.length = 8) <;> cases l1.all byteB <;> cases l2.all byteB <;> rfl
theorem implVmOk_eq (pc h : Int) (l1 l2 : List Int) : impl_VmOk.f pc l1 l2 h = some (okB pc l1 l2 h) := rfl
theorem szByteS_eq (x : List Int) (b : Int) (hx : x.length ≤ maxLen) (hb0 : 0 ≤ b) (hb1 : b ≤ 1048576) : laws_szByteS.f x b = some (if (x.length : Int) ≤ b then b - (x.length : Int) else -1) := by
  unfold laws_szByteS.f
  have : maxLen = 9223372036854775807 := rfl
  rw [wrap_in (by omega) (by omega)]
  by_cases h : (x.length : Int) ≤ b
  · rw [if_neg (by omega), if_pos h]
  · rw [if_pos (by omega), if_neg h]
theorem szCel_eq (pc h : Int) (l1 l2 l3 : List Int) (h1 : l1.length ≤ maxLen) (h2 : l2.length ≤ maxLen) (h3 : l3.length ≤ maxLen) (b : Int) (hb0 : 0 ≤ b) (hb1 : b ≤ 1048576) :
    ∃ r, laws_szCelCell.f pc l1 l2 h l3 b = some r ∧ (r < 0 ∨ (l1.length ≤ 1048576 ∧ l2.length ≤ 1048576 ∧ l3.length ≤ 1048576)) := by
  unfold laws_szCelCell.f
  obtain ⟨r, er, hr1, hr2⟩ := szVm_eq pc h l1 l2 h1 h2 b hb0 hb1
  rw [er]
  simp only [Option.bind_some]
  by_cases c : r < 0
  · rw [if_pos c]
    exact ⟨_, rfl, Or.inl (by omega)⟩
  · obtain ⟨a1, a2⟩ := hr2.resolve_left c
    rw [if_neg c, szByteS_eq _ _ h3 (by omega) hr1]
    simp only [Option.bind_some]
    by_cases c2 : (l3.length : Int) ≤ r
    · rw [if_pos c2, if_neg (by omega)]
      exact ⟨_, rfl, Or.inr (by omega)⟩
    · rw [if_neg c2, if_pos (by omega)]
      exact ⟨_, rfl, Or.inl (by omega)⟩
theorem toCel_eq (pc h : Int) (l1 l2 l3 : List Int) (h1 : l1.length ≤ 1048576) (h2 : l2.length ≤ 1048576) (h3 : l3.length ≤ 1048576) (k : Nat) (hk : 1048577 ≤ k) : laws_toCelCell.f k pc l1 l2 h l3 = some (pc, l1, l2, h, l3) := by
  unfold laws_toCelCell.f
  rw [toVm_eq _ _ _ _ h1 h2 k hk, Option.bind_some, toByteS_eq _ h3 k (by omega), Option.bind_some]
theorem eqCel_self (pc h : Int) (l1 l2 l3 : List Int) (h1 : l1.length ≤ 1048576) (h2 : l2.length ≤ 1048576) (h3 : l3.length ≤ 1048576) (k : Nat) (hk : 1048577 ≤ k) : laws_eqCelCell.f k pc l1 l2 h l3 pc l1 l2 h l3 = some true := by
  unfold laws_eqCelCell.f
  rw [eqVm_self _ _ _ _ h1 h2 k hk, Option.bind_some, if_pos rfl, eqByteS_self _ h3 k (by omega), Option.bind_some, if_pos rfl]
def celB (pc : Int) (l1 l2 : List Int) (h : Int) (l3 : List Int) : Bool := if okB pc l1 l2 h = true then decide ((l3.length : Int) ≤ 6) else false
theorem specCelOk_eq (pc h : Int) (l1 l2 l3 : List Int) (k : Nat) (hk : 101 ≤ k) : spec_CelOk.f k pc l1 l2 h l3 = some (celB pc l1 l2 h l3) := by
  unfold spec_CelOk.f celB
  rw [specVmOk_eq _ _ _ _ k hk, Option.bind_some]
  cases okB pc l1 l2 h <;> rfl
theorem implCelOk_eq (pc h : Int) (l1 l2 l3 : List Int) : impl_CelOk.f pc l1 l2 h l3 = some (celB pc l1 l2 h l3) := by
  unfold impl_CelOk.f celB
  rw [implVmOk_eq, Option.bind_some]
  cases okB pc l1 l2 h <;> rfl
end FnExactCelOk_
open FnExactCelOk_
open Go.Proofs.YtcnipdbommmkmaaVmOk
theorem FnExactCelOk : laws_FnExactCelOk.Pure := by
  intro pc l1 l2 h l3 _ h1 _ h2 _ _ h3 _
  obtain ⟨K, hK⟩ : ∃ K : Nat, 1048600 ≤ K := ⟨1048600, Nat.le_refl _⟩
  refine ⟨K, ?_⟩
  unfold laws_FnExactCelOk.f
  obtain ⟨r, er, hr2⟩ := szCel_eq pc h l1 l2 l3 h1 h2 h3 1048576 (by omega) (by omega)
  rw [er]
  simp only [Option.bind_some]
  by_cases c : r < 0
  · rw [if_pos c]
  · obtain ⟨a1, a2, a3⟩ := hr2.resolve_left c
    rw [if_neg c, toCel_eq _ _ _ _ _ a1 a2 a3 K (by omega)]
    simp only [Option.bind_some]
    rw [specCelOk_eq _ _ _ _ _ K (by omega)]
    simp only [Option.bind_some, implCelOk_eq, bne_self_eq_false, Bool.false_eq_true, if_false]
    rw [eqCel_self _ _ _ _ _ a1 a2 a3 K (by omega)]
    rfl

end Go.Proofs.Ytcnipdbommmkmaa.Pure
