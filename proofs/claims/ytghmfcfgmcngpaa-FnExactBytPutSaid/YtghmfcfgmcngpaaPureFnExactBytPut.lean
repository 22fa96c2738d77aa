/- The pure statement of FnExactBytPut: the program's BytPut and the reference's tell the same, in memory of its own. Conditions: whole numbers of 64 bits. -/
import Derived.Test.YtghmfcfgmcngpaaPFnExactBytPutx1
import Derived.Test.YtghmfcfgmcngpaaPl
import Derived.Test.YtghmfcfgmcngpaaBytPut
set_option linter.unusedSimpArgs false
set_option linter.unusedVariables false
namespace Go.Proofs.Ytghmfcfgmcngpaa.Pure
open Go.RowKit Go.Proofs.Ytghmfcfgmcngpaa.PFnExactBytPut Go.Proofs.YtghmfcfgmcngpaaW.PrintWords Go.Proofs.YtghmfcfgmcngpaaW.PrintLast Go.Proofs.YtghmfcfgmcngpaaW.PrintMore Go.Proofs.YtghmfcfgmcngpaaPl

namespace FnExactBytPut_
open Go.Proofs.YtghmfcfgmcngpaaBytLay Go.Proofs.YtghmfcfgmcngpaaBytPut
theorem l1In_eq (a b c : Int) : spec_l1In.f a b c = some (decide (b ≤ a ∧ a ≤ c)) := by
  unfold spec_l1In.f
  by_cases h1 : b ≤ a
  · rw [if_pos h1]
    simp [h1]
  · rw [if_neg h1]
    simp [h1]
theorem eqByteS_self (l : List Int) (hl : l.length ≤ 1048576) (k : Nat) (hk : l.length < k) : laws_eqByteS.f k l l = some true := by
  unfold laws_eqByteS.f
  rw [if_pos rfl]
  exact all_loop_true (fun k i => laws_eqByteS.l0 k l l i) l.length (fun k i hi => by
    simp only [laws_eqByteS.l0]
    rw [if_pos (by omega), if_pos (by omega), if_pos (by omega), if_pos trivial, wrap_nat (by omega)]) (fun k => by
    simp only [laws_eqByteS.l0]
    rw [if_neg (by omega)]) k hk
/-- 'so many numbers, one behind the other'. -/
def from_ (a : Int) (n : Nat) : List Int := (List.range n).map fun (i : Nat) => (a + (i : Int)) % 256
theorem markByte_loop (l : List Int) (a : Int) (ha : 0 ≤ a) (hl : l.length ≤ 1048576) (ha1 : a ≤ 100000000) : ∀ (d k i : Nat) (y : List Int), i + d = l.length → y.length = l.length → d < k →
    laws_markByteS.l0 k y (a + (i : Int)) (i : Int) = some (a + (l.length : Int), y.take i ++ from_ (a + (i : Int)) d) := by
  intro d
  induction d with
  | zero =>
    intro k i y hi hy hk
    obtain ⟨k, rfl⟩ : ∃ m, k = m + 1 := ⟨k - 1, by omega⟩
    simp only [laws_markByteS.l0]
    rw [if_neg (by omega), List.take_of_length_le (by omega)]
    obtain rfl : i = l.length := by omega
    simp [from_]
  | succ d ih =>
    intro k i y hi hy hk
    obtain ⟨k, rfl⟩ : ∃ m, k = m + 1 := ⟨k - 1, by omega⟩
    simp only [laws_markByteS.l0]
    rw [if_pos (by omega), if_pos (by omega), wrap_nat (by omega), wrap_in (by omega) (by omega), show a + (i : Int) + 1 = a + ((i + 1 : Nat) : Int) by omega, ih k (i + 1) _ (by omega) (by rw [List.length_set]; exact hy) (by omega)]
    congr 2
    rw [List.take_succ_eq_append_getElem (by rw [List.length_set]; omega), List.append_assoc]
    have e1 : ((i : Int).toNat) = i := by omega
    simp only [e1]
    rw [List.getElem_set_self, List.take_set_of_le (Nat.le_refl i)]
    congr 1
    unfold from_
    rw [List.range_succ_eq_map, List.map_cons, List.map_map, List.singleton_append]
    congr 1
    · omega
    · apply List.map_congr_left
      intro j _
      simp only [Function.comp]
      omega
theorem markByte_eq (l : List Int) (a : Int) (ha : 0 ≤ a) (hl : l.length ≤ 1048576) (ha1 : a ≤ 100000000) (k : Nat) (hk : l.length < k) : laws_markByteS.f k l a = some (a + (l.length : Int), from_ a l.length) := by
  have h := markByte_loop l a ha hl ha1 l.length k 0 l (by omega) rfl hk
  unfold laws_markByteS.f
  simp only [List.take_zero, List.nil_append, Int.add_zero, Int.natCast_zero] at h
  exact h
theorem from_length (a : Int) (n : Nat) : (from_ a n).length = n := by simp [from_]
theorem heldByte_loop (n : Nat) (a : Int) (ha : 0 ≤ a) (hl : n ≤ 1048576) (ha1 : a ≤ 100000000) : ∀ (d k i : Nat), i + d = n → d < k →
    laws_heldByteS.l0 k (from_ a n) (a + (i : Int)) (i : Int) = some (a + (n : Int)) := by
  intro d
  induction d with
  | zero =>
    intro k i hi hk
    obtain ⟨k, rfl⟩ : ∃ m, k = m + 1 := ⟨k - 1, by omega⟩
    simp only [laws_heldByteS.l0, from_length]
    rw [if_neg (by omega)]
    obtain rfl : i = n := by omega
    rfl
  | succ d ih =>
    intro k i hi hk
    obtain ⟨k, rfl⟩ : ∃ m, k = m + 1 := ⟨k - 1, by omega⟩
    have hr : rd (from_ a n) (i : Int) = (a + (i : Int)) % 256 := by
      rw [rd_nat _ _ (by rw [from_length]; omega)]
      simp [from_]
    simp only [laws_heldByteS.l0, from_length]
    rw [if_pos (by omega), if_pos (by omega), if_pos hr, wrap_nat (by omega), wrap_in (by omega) (by omega), show a + (i : Int) + 1 = a + ((i + 1 : Nat) : Int) by omega]
    exact ih k (i + 1) (by omega) (by omega)
theorem heldByte_eq (n : Nat) (a : Int) (ha : 0 ≤ a) (hl : n ≤ 1048576) (ha1 : a ≤ 100000000) (k : Nat) (hk : n < k) : laws_heldByteS.f k (from_ a n) a = some (a + (n : Int)) := by
  have h := heldByte_loop n a ha hl ha1 n k 0 (by omega) hk
  unfold laws_heldByteS.f
  simpa using h
theorem putL_cons (n : Int) (j : Nat) : putL n (j + 1) = (n / 256 ^ j % 256) :: putL n j := by
  unfold putL
  rw [List.range_succ_eq_map, List.map_cons, List.map_map]
  congr 1
  apply List.map_congr_left
  intro i hi
  have := List.mem_range.1 hi
  simp only [Function.comp]
  rw [show j + 1 - 1 - (i + 1) = j - 1 - i by omega]
theorem size_eq (j : Nat) (hj : j ≤ 4) (k : Nat) (hk : 6 ≤ k) : spec_l2Size.f k (j : Int) = some (256 ^ j) := by
  obtain ⟨m, rfl⟩ : ∃ m, k = m + 6 := ⟨k - 6, by omega⟩
  obtain rfl | rfl | rfl | rfl | rfl : j = 0 ∨ j = 1 ∨ j = 2 ∨ j = 3 ∨ j = 4 := by omega
  all_goals kernel_rfl
theorem pow_in (j : Nat) (hj : j ≤ 4) : (1 : Int) ≤ 256 ^ j ∧ (256 : Int) ^ j ≤ 4294967296 := by
  obtain rfl | rfl | rfl | rfl | rfl : j = 0 ∨ j = 1 ∨ j = 2 ∨ j = 3 ∨ j = 4 := by omega
  all_goals decide
theorem put_loop (n : Int) (h0 : 0 ≤ n) (h1 : n ≤ 4294967295) (j : Nat) : j ≤ 4 → ∀ (k : Nat) (x : List Int), j + 10 ≤ k → x.length + j ≤ 1000 → spec_BytPut.l0 k n x ((j : Int) - 1) = some (x ++ putL n j) := by
  induction j with
  | zero =>
    intro _ k x hk hx
    obtain ⟨k, rfl⟩ : ∃ m, k = m + 1 := ⟨k - 1, by omega⟩
    simp only [spec_BytPut.l0]
    rw [if_neg (by omega)]
    simp [putL]
  | succ j ih =>
    intro hj k x hk hx
    obtain ⟨k, rfl⟩ : ∃ m, k = m + 1 := ⟨k - 1, by omega⟩
    have hp := pow_in j (by omega)
    simp only [spec_BytPut.l0]
    rw [if_pos (by omega), show ((j + 1 : Nat) : Int) - 1 = (j : Int) by omega, size_eq j (by omega) k (by omega), Option.bind_some, if_neg (by omega), if_pos (by omega), wrap_in (x := (j : Int) - 1) (by omega) (by omega),
      ih (by omega) k _ (by omega) (by rw [List.length_append, List.length_singleton]; omega), putL_cons, List.append_assoc, List.singleton_append, Int.tdiv_eq_ediv_of_nonneg h0]
    have hd0 : 0 ≤ n / 256 ^ j := Int.ediv_nonneg h0 (by omega)
    have hd1 : n / 256 ^ j ≤ n := Int.ediv_le_self _ h0
    rw [wrap_in (by omega) (by omega), Int.tmod_eq_emod_of_nonneg hd0, Int.emod_emod_of_dvd _ (Int.dvd_refl 256)]
theorem specPut_eq (k : Nat) (hk : 20 ≤ k) (n s : Int) : spec_BytPut.f k n s = some (putZ n s) := by
  unfold spec_BytPut.f
  rw [l1In_eq, Option.bind_some]
  by_cases hs : 1 ≤ s ∧ s ≤ 4
  · rw [decide_eq_true hs, if_pos rfl]
    obtain ⟨j, rfl⟩ := Int.eq_ofNat_of_zero_le (show 0 ≤ s by omega)
    have hp := pow_in j (by omega)
    rw [size_eq j (by omega) k (by omega), Option.bind_some, l1In_eq, Option.bind_some, wrap_in (by omega) (by omega)]
    obtain ⟨k, rfl⟩ : ∃ m, k = m + 1 := ⟨k - 1, by omega⟩
    simp only [spec_BytPut.j0]
    by_cases hn : 0 ≤ n ∧ n ≤ 256 ^ j - 1
    · rw [decide_eq_true hn, if_neg (by decide), wrap_in (by omega) (by omega), put_loop n hn.1 (by omega) j (by omega) k [] (by omega) (by simp; omega), List.nil_append]
      unfold putZ
      rw [if_pos ⟨hs, hn.1, by rw [Int.toNat_natCast]; omega⟩, Int.toNat_natCast]
    · rw [decide_eq_false hn, if_pos (by decide)]
      unfold putZ
      rw [if_neg (fun hh => hn ⟨hh.2.1, by have := hh.2.2; rw [Int.toNat_natCast] at this; omega⟩)]
  · rw [decide_eq_false hs, if_neg (by decide)]
    obtain ⟨k, rfl⟩ : ∃ m, k = m + 1 := ⟨k - 1, by omega⟩
    simp only [spec_BytPut.j0]
    unfold putZ
    rw [if_pos trivial, if_neg (fun hh => hs hh.1)]
theorem putZ_length (n s : Int) : (putZ n s).length ≤ 4 := by
  unfold putZ
  split
  · rw [putL_length]; omega
  · simp
end FnExactBytPut_
open FnExactBytPut_
open Go.Proofs.YtghmfcfgmcngpaaBytLay Go.Proofs.YtghmfcfgmcngpaaBytPut
theorem FnExactBytPut : laws_FnExactBytPut.Pure := by
  intro n s _ _
  refine ⟨200, ?_⟩
  have hl := putZ_length n s
  unfold laws_FnExactBytPut.f impl_BytPut.f
  rw [specPut_eq 200 (by omega)]
  simp only [Option.bind_some]
  rw [eqByteS_self _ (by omega) _ (by omega)]
  simp only [Option.bind_some, if_true]
  rw [markByte_eq _ 1 (by omega) (by omega) (by omega) _ (by omega), Option.bind_some]
  simp only []
  rw [heldByte_eq _ 1 (by omega) (by omega) (by omega) _ (by omega), Option.bind_some, Option.bind_some, if_neg (by omega), if_pos rfl, if_neg (by omega), if_pos rfl]

end Go.Proofs.Ytghmfcfgmcngpaa.Pure
