/- The pure statement of FnExactHrdNew: the program's HrdNew and the reference's tell the same, in memory of its own. Conditions: a whole number of 64 bits. -/
import Derived.Test.YtaohaebgpbagmaaPFnExactHrdNewx2
import Derived.Test.YtaohaebgpbagmaaPl
namespace Go.Proofs.Ytaohaebgpbagmaa.Pure
open Go.RowKit Go.Proofs.Ytaohaebgpbagmaa.PFnExactHrdNew Go.Proofs.YtaohaebgpbagmaaW.PrintWords Go.Proofs.YtaohaebgpbagmaaW.PrintLast Go.Proofs.YtaohaebgpbagmaaW.PrintMore Go.Proofs.YtaohaebgpbagmaaPl

namespace FnExactHrdNew_
theorem l1In_eq (a b c : Int) : spec_l1In.f a b c = some (decide (b ≤ a ∧ a ≤ c)) := by
  unfold spec_l1In.f
  by_cases h1 : b ≤ a
  · rw [if_pos h1]
    simp [h1]
  · rw [if_neg h1]
    simp [h1]
theorem eqIntS_self (l : List Int) (hl : l.length ≤ 1048576) (k : Nat) (hk : l.length < k) : laws_eqIntS.f k l l = some true := by
  unfold laws_eqIntS.f
  rw [if_pos rfl]
  exact all_loop_true (fun k i => laws_eqIntS.l0 k l l i) l.length (fun k i hi => by
    simp only [laws_eqIntS.l0]
    rw [if_pos (by omega), if_pos (by omega), if_pos (by omega), if_pos trivial, wrap_nat (by omega)]) (fun k => by
    simp only [laws_eqIntS.l0]
    rw [if_neg (by omega)]) k hk
/-- 'so many numbers, one behind the other'. -/
def from_ (a : Int) (n : Nat) : List Int := (List.range n).map fun (i : Nat) => a + (i : Int)
theorem markInt_loop (l : List Int) (a : Int) (ha : 0 ≤ a) (hl : l.length ≤ 1048576) (ha1 : a ≤ 100000000) : ∀ (d k i : Nat) (y : List Int), i + d = l.length → y.length = l.length → d < k →
    laws_markIntS.l0 k y (a + (i : Int)) (i : Int) = some (a + (l.length : Int), y.take i ++ from_ (a + (i : Int)) d) := by
  intro d
  induction d with
  | zero =>
    intro k i y hi hy hk
    obtain ⟨k, rfl⟩ : ∃ m, k = m + 1 := ⟨k - 1, by omega⟩
    simp only [laws_markIntS.l0]
    rw [if_neg (by omega), List.take_of_length_le (by omega)]
    obtain rfl : i = l.length := by omega
    simp [from_]
  | succ d ih =>
    intro k i y hi hy hk
    obtain ⟨k, rfl⟩ : ∃ m, k = m + 1 := ⟨k - 1, by omega⟩
    simp only [laws_markIntS.l0]
    rw [if_pos (by omega), if_pos (by omega), wrap_nat (by omega), wrap_in (by omega) (by omega), show a + (i : Int) + 1 = a + ((i + 1 : Nat) : Int) by omega, ih k (i + 1) _ (by omega) (by rw [List.length_set]; exact hy) (by omega)]
    congr 2
    rw [List.take_succ_eq_append_getElem (by rw [List.length_set]; omega), List.append_assoc]
    have e1 : ((i : Int).toNat) = i := by omega
    simp only [e1]
    rw [List.getElem_set_self, List.take_set_of_le (Nat.le_refl i)]
    congr 1
    unfold from_
    rw [List.range_succ_eq_map, List.map_cons, List.map_map, List.singleton_append]
    congr 1
    · omega
    · apply List.map_congr_left
      intro j _
      simp only [Function.comp]
      omega
theorem markInt_eq (l : List Int) (a : Int) (ha : 0 ≤ a) (hl : l.length ≤ 1048576) (ha1 : a ≤ 100000000) (k : Nat) (hk : l.length < k) : laws_markIntS.f k l a = some (a + (l.length : Int), from_ a l.length) := by
  have h := markInt_loop l a ha hl ha1 l.length k 0 l (by omega) rfl hk
  unfold laws_markIntS.f
  simp only [List.take_zero, List.nil_append, Int.add_zero, Int.natCast_zero] at h
  exact h
theorem from_length (a : Int) (n : Nat) : (from_ a n).length = n := by simp [from_]
theorem heldInt_loop (n : Nat) (a : Int) (ha : 0 ≤ a) (hl : n ≤ 1048576) (ha1 : a ≤ 100000000) : ∀ (d k i : Nat), i + d = n → d < k →
    laws_heldIntS.l0 k (from_ a n) (a + (i : Int)) (i : Int) = some (a + (n : Int)) := by
  intro d
  induction d with
  | zero =>
    intro k i hi hk
    obtain ⟨k, rfl⟩ : ∃ m, k = m + 1 := ⟨k - 1, by omega⟩
    simp only [laws_heldIntS.l0, from_length]
    rw [if_neg (by omega)]
    obtain rfl : i = n := by omega
    rfl
  | succ d ih =>
    intro k i hi hk
    obtain ⟨k, rfl⟩ : ∃ m, k = m + 1 := ⟨k - 1, by omega⟩
    have hr : rd (from_ a n) (i : Int) = a + (i : Int) := by
      rw [rd_nat _ _ (by rw [from_length]; omega)]
      simp [from_]
    simp only [laws_heldIntS.l0, from_length]
    rw [if_pos (by omega), if_pos (by omega), if_pos hr, wrap_nat (by omega), wrap_in (by omega) (by omega), show a + (i : Int) + 1 = a + ((i + 1 : Nat) : Int) by omega]
    exact ih k (i + 1) (by omega) (by omega)
theorem heldInt_eq (n : Nat) (a : Int) (ha : 0 ≤ a) (hl : n ≤ 1048576) (ha1 : a ≤ 100000000) (k : Nat) (hk : n < k) : laws_heldIntS.f k (from_ a n) a = some (a + (n : Int)) := by
  have h := heldInt_loop n a ha hl ha1 n k 0 (by omega) hk
  unfold laws_heldIntS.f
  simpa using h
theorem noughts_loop (d : Nat) : ∀ (k : Nat) (y : List Int), d < k → y.length + d ≤ 1000 → spec_l6Noughts.l0 k (d : Int) y = some (y ++ List.replicate d 0) := by
  induction d with
  | zero =>
    intro k y hk hy
    obtain ⟨k, rfl⟩ : ∃ m, k = m + 1 := ⟨k - 1, by omega⟩
    simp only [spec_l6Noughts.l0]
    rw [if_neg (by omega)]
    simp
  | succ d ih =>
    intro k y hk hy
    obtain ⟨k, rfl⟩ : ∃ m, k = m + 1 := ⟨k - 1, by omega⟩
    simp only [spec_l6Noughts.l0]
    rw [if_pos (by omega), if_pos (by omega), wrap_in (by omega) (by omega), show ((d + 1 : Nat) : Int) - 1 = (d : Int) by omega, ih k (y ++ [0]) (by omega) (by rw [List.length_append, List.length_singleton]; omega), List.append_assoc]
    rfl
theorem noughts_eq (a : Int) (h0 : 0 ≤ a) (h1 : a ≤ 100) (k : Nat) (hk : 101 ≤ k) : spec_l6Noughts.f k a = some (List.replicate a.toNat 0) := by
  obtain ⟨n, rfl⟩ := Int.eq_ofNat_of_zero_le h0
  unfold spec_l6Noughts.f
  rw [noughts_loop n k [] (by omega) (by simp; omega)]
  simp
def news (a : Int) : List Int := if 1 ≤ a ∧ a ≤ 4 then List.replicate a.toNat 0 else []
theorem news_length (a : Int) : (news a).length ≤ 4 := by
  unfold news
  split
  · rw [List.length_replicate]
    omega
  · simp
theorem specNew_eq (a : Int) (k : Nat) (hk : 101 ≤ k) : spec_HrdNew.f k a = some (news a, news a) := by
  unfold spec_HrdNew.f news
  rw [l1In_eq, Option.bind_some]
  by_cases h : 1 ≤ a ∧ a ≤ 4
  · rw [if_pos (by simpa using h), noughts_eq a (by omega) (by omega) k hk, Option.bind_some, Option.bind_some, if_pos h]
  · rw [if_neg (by simpa using h), if_neg h]
theorem implNew_eq (a : Int) : impl_HrdNew.f a = some (news a, news a) := by
  unfold impl_HrdNew.f news
  by_cases h1 : a < 1
  · rw [if_pos h1, if_neg (by omega)]
  · by_cases h2 : a > 4
    · rw [if_neg h1, if_pos h2, if_neg (by omega)]
    · rw [if_neg h1, if_neg h2, if_pos (by omega), if_pos (by omega), if_pos (by omega)]
end FnExactHrdNew_
open FnExactHrdNew_
theorem FnExactHrdNew : laws_FnExactHrdNew.Pure := by
  intro a _
  refine ⟨200, ?_⟩
  have hl := news_length a
  have e1 : laws_eqHrdBook.f 200 (news a) (news a) (news a) (news a) = some true := by
    unfold laws_eqHrdBook.f
    rw [eqIntS_self _ (by omega) _ (by omega)]
    rfl
  have e2 : laws_markHrdBook.f 200 (news a) (news a) 1 = some (1 + ((news a).length : Int) + ((news a).length : Int), from_ 1 (news a).length, from_ (1 + ((news a).length : Int)) (news a).length) := by
    unfold laws_markHrdBook.f
    rw [markInt_eq _ 1 (by omega) (by omega) (by omega) _ (by omega), Option.bind_some, markInt_eq _ _ (by omega) (by omega) (by omega) _ (by omega)]
    rfl
  have e3 : laws_heldHrdBook.f 200 (from_ 1 (news a).length) (from_ (1 + ((news a).length : Int)) (news a).length) 1 = some (1 + ((news a).length : Int) + ((news a).length : Int)) := by
    unfold laws_heldHrdBook.f
    rw [heldInt_eq _ 1 (by omega) (by omega) (by omega) _ (by omega), Option.bind_some, if_neg (by omega), heldInt_eq _ _ (by omega) (by omega) (by omega) _ (by omega), Option.bind_some, if_neg (by omega)]
  unfold laws_FnExactHrdNew.f
  rw [specNew_eq a _ (by omega), implNew_eq a]
  simp only [Option.bind_some]
  rw [e1, Option.bind_some, if_pos rfl, e2, Option.bind_some]
  simp only []
  rw [e3, Option.bind_some, if_neg (by omega), if_pos rfl, Option.bind_some]
  simp only [Option.bind_some, if_true]
  rw [if_neg (by omega)]

end Go.Proofs.Ytaohaebgpbagmaa.Pure
