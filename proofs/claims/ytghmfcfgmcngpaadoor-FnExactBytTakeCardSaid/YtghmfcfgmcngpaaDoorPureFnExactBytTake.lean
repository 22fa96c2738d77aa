/- The pure statement of FnExactBytTake: the program's BytTake and the reference's tell the same, and the argument stays. Conditions: bytes, whole numbers of 64 bits. -/
import Derived.Test.YtghmfcfgmcngpaaDoorPFnExactBytTakex1
import Derived.Test.YtghmfcfgmcngpaaDoorPl
import Derived.Test.YtghmfcfgmcngpaaDoorBytTake
set_option linter.unusedSimpArgs false
set_option linter.unusedVariables false
namespace Go.Proofs.YtghmfcfgmcngpaaDoor.Pure
open Go.RowKit Go.Proofs.YtghmfcfgmcngpaaDoor.PFnExactBytTake Go.Proofs.YtghmfcfgmcngpaaDoorW.PrintWords Go.Proofs.YtghmfcfgmcngpaaDoorW.PrintLast Go.Proofs.YtghmfcfgmcngpaaDoorW.PrintMore Go.Proofs.YtghmfcfgmcngpaaDoorPl

namespace FnExactBytTake_
open Go.Proofs.YtghmfcfgmcngpaaDoorSealTag Go.Proofs.YtghmfcfgmcngpaaDoorBytRead Go.Proofs.YtghmfcfgmcngpaaDoorBytTake
theorem l1In_eq (a b c : Int) : spec_l1In.f a b c = some (decide (b ≤ a ∧ a ≤ c)) := by
  unfold spec_l1In.f
  by_cases h1 : b ≤ a
  · rw [if_pos h1]
    simp [h1]
  · rw [if_neg h1]
    simp [h1]
theorem toByteS_eq (l : List Int) (hl : l.length ≤ 1048576) (k : Nat) (hk : l.length < k) : laws_toByteS.f k l = some l := by
  unfold laws_toByteS.f
  rw [if_pos (by omega), if_pos (by omega)]
  have h := map_loop (fun k y i => laws_toByteS.l0 k l y i) l id (fun k y i hi hy => by
    simp only [laws_toByteS.l0]
    rw [if_pos (by omega), if_pos (by omega), if_pos (by omega), wrap_nat (by omega), rd_nat l i hi]
    rfl) (fun k y hy => by
    simp only [laws_toByteS.l0]
    rw [if_neg (by omega)]) k (List.replicate ((l.length : Int) : Int).toNat 0) (by simp) hk
  simpa using h
theorem eqByteS_self (l : List Int) (hl : l.length ≤ 1048576) (k : Nat) (hk : l.length < k) : laws_eqByteS.f k l l = some true := by
  unfold laws_eqByteS.f
  rw [if_pos rfl]
  exact all_loop_true (fun k i => laws_eqByteS.l0 k l l i) l.length (fun k i hi => by
    simp only [laws_eqByteS.l0]
    rw [if_pos (by omega), if_pos (by omega), if_pos (by omega), if_pos trivial, wrap_nat (by omega)]) (fun k => by
    simp only [laws_eqByteS.l0]
    rw [if_neg (by omega)]) k hk
theorem rd_getD (l : List Int) (k : Nat) : rd l (k : Int) = l.getD k 0 := by simp [rd]
theorem isBytes_of {l : List Int} (h : ∀ x ∈ l, (Lit.int .u8 x).wf = true) : isBytes l = true := List.all_eq_true.2 fun x hx => decide_eq_true (wf_u8 (h x hx))
theorem take_loop (l : List Int) (hb : isBytes l = true) (a s : Nat) (h : a + s ≤ l.length) (h4 : s ≤ 4) (hl : l.length ≤ 9000000000000000000) : ∀ (d k j : Nat), j + d = s → d < k →
    spec_BytTake.l0 k l (a : Int) (s : Int) (takeV (((l.take (a + s)).drop a).take j)) (j : Int) = some (takeV ((l.take (a + s)).drop a), true) := by
  have hLB : isBytes ((l.take (a + s)).drop a) = true := isBytes_drop (isBytes_take hb _) _
  have hLl : ((l.take (a + s)).drop a).length = s := by rw [List.length_drop, List.length_take]; omega
  intro d
  induction d with
  | zero =>
    intro k j hj hk
    obtain ⟨k, rfl⟩ : ∃ m, k = m + 1 := ⟨k - 1, by omega⟩
    obtain rfl : j = s := by omega
    simp only [spec_BytTake.l0]
    rw [if_neg (by omega), List.take_of_length_le (by omega)]
  | succ d ih =>
    intro k j hj hk
    obtain ⟨k, rfl⟩ : ∃ m, k = m + 1 := ⟨k - 1, by omega⟩
    have hv := takeV_in (((l.take (a + s)).drop a).take j) (isBytes_take hLB _)
    have hlk : (((l.take (a + s)).drop a).take j).length = j := by rw [List.length_take, hLl]; omega
    rw [hlk] at hv
    have hv2 : takeV (((l.take (a + s)).drop a).take j) ≤ 16777215 := by
      have : (256 : Int) ^ j ≤ 16777216 := by
        obtain rfl | rfl | rfl | rfl : j = 0 ∨ j = 1 ∨ j = 2 ∨ j = 3 := by omega
        all_goals decide
      omega
    have hx := isBytes_at hb (a + j)
    have hat : ((l.take (a + s)).drop a).getD j 0 = l.getD (a + j) 0 := by
      rw [List.getD_eq_getElem?_getD, List.getD_eq_getElem?_getD, List.getElem?_drop, List.getElem?_take, if_pos (by omega)]
    simp only [spec_BytTake.l0]
    rw [if_pos (by omega), wrap_in (x := (a : Int) + (j : Int)) (by omega) (by omega), show (a : Int) + (j : Int) = ((a + j : Nat) : Int) by omega, if_pos (by omega), if_pos (by omega), rd_getD, wrap_in (x := l.getD (a + j) 0) (by omega) (by omega), wrap_in (x := takeV (((l.take (a + s)).drop a).take j) * 256) (by omega) (by omega),
      wrap_in (x := takeV (((l.take (a + s)).drop a).take j) * 256 + l.getD (a + j) 0) (by omega) (by omega), wrap_nat (by omega), ← hat, ← takeV_snoc, ← take_snoc _ j (by omega)]
    exact ih k (j + 1) (by omega) (by omega)
theorem specTake_eq (l : List Int) (hb : isBytes l = true) (hl : l.length ≤ 9000000000000000000) (a s : Int) (ha : a ≤ 9223372036854775807) (k : Nat) (hk : 10 ≤ k) : spec_BytTake.f k l a s = some (takeR l a s) := by
  unfold spec_BytTake.f
  rw [l1In_eq, Option.bind_some]
  obtain ⟨k, rfl⟩ : ∃ m, k = m + 1 := ⟨k - 1, by omega⟩
  by_cases hs : 1 ≤ s ∧ s ≤ 4
  · rw [decide_eq_true hs, if_pos rfl]
    by_cases h0 : a < 0
    · rw [if_pos h0]
      simp only [spec_BytTake.j0]
      unfold takeR
      rw [if_pos trivial, if_neg (fun hh => by omega)]
    · rw [if_neg h0, wrap_in (x := (l.length : Int) - s) (by omega) (by omega)]
      simp only [spec_BytTake.j0]
      by_cases h1 : a > (l.length : Int) - s
      · unfold takeR
        rw [decide_eq_true h1, if_pos rfl, if_neg (fun hh => by omega)]
      · unfold takeR
        rw [decide_eq_false h1, if_neg (by decide), if_pos ⟨hs, by omega, by omega⟩]
        obtain ⟨m, rfl⟩ := Int.eq_ofNat_of_zero_le (show 0 ≤ a by omega)
        obtain ⟨t, rfl⟩ := Int.eq_ofNat_of_zero_le (show 0 ≤ s by omega)
        rw [Int.toNat_natCast, Int.toNat_natCast]
        exact take_loop l hb m t (by omega) (by omega) hl t k 0 (by omega) (by omega)
  · rw [decide_eq_false hs, if_neg (by decide)]
    simp only [spec_BytTake.j0]
    unfold takeR
    rw [if_pos trivial, if_neg (fun hh => hs hh.1)]
end FnExactBytTake_
open FnExactBytTake_
open Go.Proofs.YtghmfcfgmcngpaaDoorSealTag Go.Proofs.YtghmfcfgmcngpaaDoorBytRead Go.Proofs.YtghmfcfgmcngpaaDoorBytTake
theorem FnExactBytTake : laws_FnExactBytTake.Pure := by
  intro l a s _ h2 ha _
  obtain ⟨K, hK⟩ : ∃ K : Nat, 1048600 ≤ K := ⟨1048600, Nat.le_refl _⟩
  refine ⟨K + 1, ?_⟩
  have b2 := isBytes_of h2
  have haw := wf_i64 ha
  unfold laws_FnExactBytTake.f
  by_cases l2 : (l.length : Int) > 1048576
  · rw [if_pos l2]
  · rw [if_neg l2, toByteS_eq l (by omega) _ (by omega), Option.bind_some, specTake_eq l b2 (by omega) a s haw.2 _ (by omega), Option.bind_some, Option.bind_some]
    unfold impl_BytTake.f
    rw [if_pos b2, Option.bind_some, if_pos rfl]
    simp only [laws_FnExactBytTake.j0]
    simp only [bne_self_eq_false, Bool.false_eq_true, if_false]
    rw [toByteS_eq l (by omega) _ (by omega), Option.bind_some, eqByteS_self l (by omega) _ (by omega), Option.bind_some, if_pos rfl]

end Go.Proofs.YtghmfcfgmcngpaaDoor.Pure
