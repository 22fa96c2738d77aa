/- The pure statement of FnExactHrdHear: the program's HrdHear and the reference's tell the same, in memory of its own. Conditions: whole numbers of 64 bits. -/
import Derived.Test.YtaohaebgpbagmaaPFnExactHrdHearx5
import Derived.Test.YtaohaebgpbagmaaPl
import Derived.Test.YtaohaebgpbagmaaHrdTold
set_option linter.unusedSimpArgs false
set_option linter.unusedVariables false
namespace Go.Proofs.Ytaohaebgpbagmaa.Pure
open Go.RowKit Go.Proofs.Ytaohaebgpbagmaa.PFnExactHrdHear Go.Proofs.YtaohaebgpbagmaaW.PrintWords Go.Proofs.YtaohaebgpbagmaaW.PrintLast Go.Proofs.YtaohaebgpbagmaaW.PrintMore Go.Proofs.YtaohaebgpbagmaaPl

namespace FnExactHrdHear_
theorem l1In_eq (a b c : Int) : spec_l1In.f a b c = some (decide (b ≤ a ∧ a ≤ c)) := by
  unfold spec_l1In.f
  by_cases h1 : b ≤ a
  · rw [if_pos h1]
    simp [h1]
  · rw [if_neg h1]
    simp [h1]
theorem toIntS_eq (l : List Int) (hl : l.length ≤ 1048576) (k : Nat) (hk : l.length < k) : laws_toIntS.f k l = some l := by
  unfold laws_toIntS.f
  rw [if_pos (by omega), if_pos (by omega)]
  have h := map_loop (fun k y i => laws_toIntS.l0 k l y i) l id (fun k y i hi hy => by
    simp only [laws_toIntS.l0]
    rw [if_pos (by omega), if_pos (by omega), if_pos (by omega), wrap_nat (by omega), rd_nat l i hi]
    rfl) (fun k y hy => by
    simp only [laws_toIntS.l0]
    rw [if_neg (by omega)]) k (List.replicate ((l.length : Int) : Int).toNat 0) (by simp) hk
  simpa using h
theorem eqIntS_self (l : List Int) (hl : l.length ≤ 1048576) (k : Nat) (hk : l.length < k) : laws_eqIntS.f k l l = some true := by
  unfold laws_eqIntS.f
  rw [if_pos rfl]
  exact all_loop_true (fun k i => laws_eqIntS.l0 k l l i) l.length (fun k i hi => by
    simp only [laws_eqIntS.l0]
    rw [if_pos (by omega), if_pos (by omega), if_pos (by omega), if_pos trivial, wrap_nat (by omega)]) (fun k => by
    simp only [laws_eqIntS.l0]
    rw [if_neg (by omega)]) k hk
/-- 'so many numbers, one behind the other'. -/
def from_ (a : Int) (n : Nat) : List Int := (List.range n).map fun (i : Nat) => a + (i : Int)
theorem markInt_loop (l : List Int) (a : Int) (ha : 0 ≤ a) (hl : l.length ≤ 1048576) (ha1 : a ≤ 100000000) : ∀ (d k i : Nat) (y : List Int), i + d = l.length → y.length = l.length → d < k →
    laws_markIntS.l0 k y (a + (i : Int)) (i : Int) = some (a + (l.length : Int), y.take i ++ from_ (a + (i : Int)) d) := by
  intro d
  induction d with
  | zero =>
    intro k i y hi hy hk
    obtain ⟨k, rfl⟩ : ∃ m, k = m + 1 := ⟨k - 1, by omega⟩
    simp only [laws_markIntS.l0]
    rw [if_neg (by omega), List.take_of_length_le (by omega)]
    obtain rfl : i = l.length := by omega
    simp [from_]
  | succ d ih =>
    intro k i y hi hy hk
    obtain ⟨k, rfl⟩ : ∃ m, k = m + 1 := ⟨k - 1, by omega⟩
    simp only [laws_markIntS.l0]
    rw [if_pos (by omega), if_pos (by omega), wrap_nat (by omega), wrap_in (by omega) (by omega), show a + (i : Int) + 1 = a + ((i + 1 : Nat) : Int) by omega, ih k (i + 1) _ (by omega) (by rw [List.length_set]; exact hy) (by omega)]
    congr 2
    rw [List.take_succ_eq_append_getElem (by rw [List.length_set]; omega), List.append_assoc]
    have e1 : ((i : Int).toNat) = i := by omega
    simp only [e1]
    rw [List.getElem_set_self, List.take_set_of_le (Nat.le_refl i)]
    congr 1
    unfold from_
    rw [List.range_succ_eq_map, List.map_cons, List.map_map, List.singleton_append]
    congr 1
    · omega
    · apply List.map_congr_left
      intro j _
      simp only [Function.comp]
      omega
theorem markInt_eq (l : List Int) (a : Int) (ha : 0 ≤ a) (hl : l.length ≤ 1048576) (ha1 : a ≤ 100000000) (k : Nat) (hk : l.length < k) : laws_markIntS.f k l a = some (a + (l.length : Int), from_ a l.length) := by
  have h := markInt_loop l a ha hl ha1 l.length k 0 l (by omega) rfl hk
  unfold laws_markIntS.f
  simp only [List.take_zero, List.nil_append, Int.add_zero, Int.natCast_zero] at h
  exact h
theorem from_length (a : Int) (n : Nat) : (from_ a n).length = n := by simp [from_]
theorem heldInt_loop (n : Nat) (a : Int) (ha : 0 ≤ a) (hl : n ≤ 1048576) (ha1 : a ≤ 100000000) : ∀ (d k i : Nat), i + d = n → d < k →
    laws_heldIntS.l0 k (from_ a n) (a + (i : Int)) (i : Int) = some (a + (n : Int)) := by
  intro d
  induction d with
  | zero =>
    intro k i hi hk
    obtain ⟨k, rfl⟩ : ∃ m, k = m + 1 := ⟨k - 1, by omega⟩
    simp only [laws_heldIntS.l0, from_length]
    rw [if_neg (by omega)]
    obtain rfl : i = n := by omega
    rfl
  | succ d ih =>
    intro k i hi hk
    obtain ⟨k, rfl⟩ : ∃ m, k = m + 1 := ⟨k - 1, by omega⟩
    have hr : rd (from_ a n) (i : Int) = a + (i : Int) := by
      rw [rd_nat _ _ (by rw [from_length]; omega)]
      simp [from_]
    simp only [laws_heldIntS.l0, from_length]
    rw [if_pos (by omega), if_pos (by omega), if_pos hr, wrap_nat (by omega), wrap_in (by omega) (by omega), show a + (i : Int) + 1 = a + ((i + 1 : Nat) : Int) by omega]
    exact ih k (i + 1) (by omega) (by omega)
theorem heldInt_eq (n : Nat) (a : Int) (ha : 0 ≤ a) (hl : n ≤ 1048576) (ha1 : a ≤ 100000000) (k : Nat) (hk : n < k) : laws_heldIntS.f k (from_ a n) a = some (a + (n : Int)) := by
  have h := heldInt_loop n a ha hl ha1 n k 0 (by omega) hk
  unfold laws_heldIntS.f
  simpa using h
theorem szIntS_eq (l : List Int) (a : Int) (h : l.length ≤ maxLen) (h0 : 0 ≤ a) (h1 : a ≤ 1048576) : laws_szIntS.f l a = some (if a < (l.length : Int) then -1 else a - (l.length : Int)) := by
  unfold laws_szIntS.f
  have hm : maxLen = 9223372036854775807 := rfl
  rw [wrap_in (by omega) (by omega)]
  by_cases hl : a < (l.length : Int)
  · rw [if_pos (by omega), if_pos hl]
  · rw [if_neg (by omega), if_neg hl]
theorem szHrd_big (x y : List Int) (hx : x.length ≤ maxLen) (hy : y.length ≤ maxLen) : (∃ n : Int, n < 0 ∧ laws_szHrdBook.f x y 1048576 = some n) ∨ (x.length ≤ 1048576 ∧ y.length ≤ 1048576 ∧ ∃ n : Int, ¬ n < 0 ∧ laws_szHrdBook.f x y 1048576 = some n) := by
  unfold laws_szHrdBook.f
  rw [szIntS_eq x 1048576 hx (by omega) (by omega), Option.bind_some]
  by_cases h1 : (1048576 : Int) < (x.length : Int)
  · rw [if_pos h1]
    exact .inl ⟨-1, by omega, rfl⟩
  · rw [if_neg h1, if_neg (by omega), szIntS_eq y _ hy (by omega) (by omega), Option.bind_some]
    by_cases h2 : (1048576 : Int) - (x.length : Int) < (y.length : Int)
    · rw [if_pos h2]
      exact .inl ⟨-1, by omega, rfl⟩
    · rw [if_neg h2, if_neg (by omega)]
      exact .inr ⟨by omega, by omega, _, by omega, rfl⟩
theorem toHrd_eq (x y : List Int) (hx : x.length ≤ 1048576) (hy : y.length ≤ 1048576) (k : Nat) (hk : 1048576 < k) : laws_toHrdBook.f k x y = some (x, y) := by
  unfold laws_toHrdBook.f
  rw [toIntS_eq x hx k (by omega), toIntS_eq y hy k (by omega)]
  rfl
theorem eqHrd_self (x y : List Int) (hx : x.length ≤ 1048576) (hy : y.length ≤ 1048576) (k : Nat) (hk : 1048576 < k) : laws_eqHrdBook.f k x y x y = some true := by
  unfold laws_eqHrdBook.f
  rw [eqIntS_self x hx k (by omega), eqIntS_self y hy k (by omega)]
  rfl
def hrdAt (b s : Int) : Bool := decide ((0 ≤ b ∧ b ≤ 60000) ∧ (0 ≤ s ∧ s ≤ 60000) ∧ (b = 0 → s = 0))
def hrdB (bs ss : List Int) : Bool := decide ((1 ≤ bs.length ∧ bs.length ≤ 4) ∧ ss.length = bs.length) && (List.range bs.length).all fun i => hrdAt (rd bs i) (rd ss i)
theorem specHrd_loop (bs ss : List Int) (h : ss.length = bs.length) (hb : bs.length ≤ 4) (k : Nat) (hk : bs.length < k) : spec_HrdOk.l0 k 0 bs ss = some ((List.range bs.length).all fun i => hrdAt (rd bs i) (rd ss i)) := by
  refine all_loop (fun k i => spec_HrdOk.l0 k i bs ss) bs.length _ (fun k i hi => ?_) (fun k => ?_) k hk
  · simp only [spec_HrdOk.l0, l1In_eq, Option.bind_some]
    rw [if_pos (by omega), if_pos (by omega), if_pos (show (i : Int) < (ss.length : Int) by omega), wrap_nat (by omega)]
    unfold hrdAt
    by_cases h1 : 0 ≤ rd bs i ∧ rd bs i ≤ 60000
    · by_cases h2 : 0 ≤ rd ss i ∧ rd ss i ≤ 60000
      · by_cases h3 : rd bs i = 0
        · by_cases h4 : rd ss i > 0
          · simp [h2, h3, h4, show ¬ rd ss i = 0 by omega]
          · simp [h3, show rd ss i = 0 by omega]
        · simp [h1, h2, h3]
      · simp [h1, h2]
    · simp [h1]
  · simp only [spec_HrdOk.l0]
    rw [if_neg (by omega)]
theorem specHrd_eq (bs ss : List Int) (k : Nat) (hk : 7 ≤ k) : spec_HrdOk.f k bs ss = some (hrdB bs ss) := by
  obtain ⟨k, rfl⟩ : ∃ m, k = m + 1 := ⟨k - 1, by omega⟩
  unfold spec_HrdOk.f hrdB
  simp only [l1In_eq, Option.bind_some, spec_HrdOk.j0]
  by_cases h1 : 1 ≤ bs.length ∧ bs.length ≤ 4
  · rw [if_pos (by simp; omega)]
    by_cases h2 : ss.length = bs.length
    · rw [if_neg (by simp [h2]), specHrd_loop bs ss h2 h1.2 k (by omega)]
      simp [h1, h2]
    · rw [if_pos (by simp; omega)]
      simp [h2]
  · rw [if_neg (by simp; omega)]
    simp [h1]
open Go.Proofs
theorem specCopy_eq (bs ss : List Int) (h1 : bs.length ≤ 4) (h2 : ss.length ≤ 4) : spec_l13Copy.f bs ss = some (bs, ss) := by
  unfold spec_l13Copy.f
  rw [Option.bind_some, if_pos (by simp; omega), Option.bind_some, if_pos (by simp; omega)]
  rfl
theorem specHear_bad (k : Nat) (bs ss : List Int) (n b s : Int) : spec_HrdHear.j0 (k + 1) n b s true bs ss = some ([], [], 0) := by
  simp only [spec_HrdHear.j0, if_pos]
theorem specHear_eq (bs ss : List Int) (n b s : Int) (k : Nat) (hk : 12 ≤ k) : spec_HrdHear.f k bs ss n b s = some (YtaohaebgpbagmaaHrdTold.hearZ bs ss n b s) := by
  obtain ⟨k, rfl⟩ : ∃ m, k = m + 1 + 1 := ⟨k - 2, by omega⟩
  unfold spec_HrdHear.f YtaohaebgpbagmaaHrdTold.hearZ YtaohaebgpbagmaaHrdHear.hearB
  rw [specHrd_eq bs ss _ (by omega), Option.bind_some]
  by_cases h1 : hrdB bs ss = true
  · have h1' : YtaohaebgpbagmaaHrdHear.hrdB bs ss = true := h1
    obtain ⟨l1, l2, l3⟩ := YtaohaebgpbagmaaHrdHear.hrd_lens h1'
    rw [if_pos h1, wrap_in (by omega) (by omega), l1In_eq, Option.bind_some, h1', Bool.true_and]
    by_cases h2 : 0 ≤ n ∧ n < (bs.length : Int)
    · rw [decide_eq_true (show 0 ≤ n ∧ n ≤ (bs.length : Int) - 1 by omega), if_pos rfl, l1In_eq, Option.bind_some, decide_eq_true h2, Bool.true_and]
      by_cases h3 : 1 ≤ b ∧ b ≤ 60000
      · rw [decide_eq_true h3, if_pos rfl, l1In_eq, Option.bind_some, Bool.true_and]
        by_cases h4 : 0 ≤ s ∧ s ≤ 60000
        · have h2a : n < (ss.length : Int) := by omega
          rw [decide_eq_true h4, if_pos (show true = true from rfl)]
          simp only [Bool.not_true, spec_HrdHear.j0, Bool.false_eq_true, if_false, specCopy_eq bs ss (by omega) (by omega), Option.bind_some, if_pos h2.1, if_pos h2.2, if_pos h2a]
          by_cases h5 : b > rd bs n
          · rw [if_pos h5, if_pos h5, if_pos (by omega)]
          · rw [if_neg h5, if_neg h5]
            by_cases h6 : b = rd bs n
            · rw [if_pos h6]
              by_cases h7 : s > rd ss n
              · rw [decide_eq_true h7, if_pos ⟨h6, h7⟩]
                simp only [spec_HrdHear.j1, if_true, if_pos h2.1, if_pos h2.2, if_pos h2a]
                rw [if_pos (by omega)]
              · rw [decide_eq_false h7, if_neg (fun h => h7 h.2)]
                simp only [spec_HrdHear.j1, Bool.false_eq_true, if_false]
                rw [if_neg (by omega)]
            · rw [if_neg h6, if_neg (fun h => h6 h.1)]
              simp only [spec_HrdHear.j1, Bool.false_eq_true, if_false]
              rw [if_neg (by omega)]
        · rw [decide_eq_false h4, if_neg (show ¬ false = true by simp), Bool.not_false, specHear_bad]
      · rw [decide_eq_false h3, if_neg (by simp), specHear_bad, Bool.false_and, if_neg (by simp)]
    · rw [decide_eq_false (show ¬ (0 ≤ n ∧ n ≤ (bs.length : Int) - 1) by omega), if_neg (by simp), specHear_bad, decide_eq_false h2, Bool.false_and, Bool.false_and, if_neg (by simp)]
  · have h1' : YtaohaebgpbagmaaHrdHear.hrdB bs ss = false := Bool.eq_false_iff.2 h1
    rw [if_neg h1, specHear_bad, h1']
    simp
theorem hear_lens (bs ss : List Int) (n b s : Int) (h1 : bs.length ≤ 1048576) (h2 : ss.length ≤ 1048576) : (YtaohaebgpbagmaaHrdTold.hearZ bs ss n b s).1.length ≤ 1048576 ∧ (YtaohaebgpbagmaaHrdTold.hearZ bs ss n b s).2.1.length ≤ 1048576 := by
  unfold YtaohaebgpbagmaaHrdTold.hearZ
  split
  · split
    · simp [h1, h2]
    · split
      · simp [h1, h2]
      · exact ⟨h1, h2⟩
  · simp
theorem markHrd_eq (x y : List Int) (hx : x.length ≤ 1048576) (hy : y.length ≤ 1048576) (k : Nat) (hk : 1048576 < k) : laws_markHrdBook.f k x y 1 = some (1 + (x.length : Int) + (y.length : Int), from_ 1 x.length, from_ (1 + (x.length : Int)) y.length) := by
  unfold laws_markHrdBook.f
  rw [markInt_eq _ 1 (by omega) (by omega) (by omega) _ (by omega), Option.bind_some, markInt_eq _ _ (by omega) (by omega) (by omega) _ (by omega)]
  rfl
theorem heldHrd_eq (n m : Nat) (hx : n ≤ 1048576) (hy : m ≤ 1048576) (k : Nat) (hk : 1048576 < k) : laws_heldHrdBook.f k (from_ 1 n) (from_ (1 + (n : Int)) m) 1 = some (1 + (n : Int) + (m : Int)) := by
  unfold laws_heldHrdBook.f
  rw [heldInt_eq _ 1 (by omega) (by omega) (by omega) _ (by omega), Option.bind_some, if_neg (by omega), heldInt_eq _ _ (by omega) (by omega) (by omega) _ (by omega), Option.bind_some, if_neg (by omega)]
end FnExactHrdHear_
open FnExactHrdHear_
open Go.Proofs
theorem FnExactHrdHear : laws_FnExactHrdHear.Pure := by
  intro bs ss n b s h1 _ h2 _ _ _ _
  refine ⟨1048600 + 1 + 1 + 1, ?_⟩
  unfold laws_FnExactHrdHear.f
  rcases szHrd_big bs ss h1 h2 with ⟨r, hr, er⟩ | ⟨l1, l2, r, hr, er⟩
  · rw [er, Option.bind_some, if_pos hr]
  · have hl := hear_lens bs ss n b s l1 l2
    rw [er, Option.bind_some, if_neg hr]
    obtain ⟨z, hz⟩ : ∃ z, z = YtaohaebgpbagmaaHrdTold.hearZ bs ss n b s := ⟨_, rfl⟩
    have ei : impl_HrdHear.f bs ss n b s = some z := by rw [hz]; rfl
    have es : ∀ k, 12 ≤ k → spec_HrdHear.f k bs ss n b s = some z := fun k hk => by rw [hz]; exact specHear_eq bs ss n b s k hk
    rw [← hz] at hl
    clear hz
    obtain ⟨x, y, c⟩ := z
    simp only at hl
    have e0 : ∀ k, 1048576 < k → laws_toHrdBook.f k bs ss = some (bs, ss) := fun k hk => toHrd_eq bs ss l1 l2 k hk
    have e1 : ∀ k, 1048576 < k → laws_eqHrdBook.f k x y x y = some true := fun k hk => eqHrd_self x y hl.1 hl.2 k hk
    have e2 : ∀ k, 1048576 < k → laws_eqHrdBook.f k bs ss bs ss = some true := fun k hk => eqHrd_self bs ss l1 l2 k hk
    rw [e0 _ (by omega), Option.bind_some, es _ (by omega), Option.bind_some, Option.bind_some, ei, Option.bind_some, e1 _ (by omega), Option.bind_some, if_pos rfl, bne_self_eq_false]
    simp only [laws_FnExactHrdHear.j0, Bool.false_eq_true, if_false]
    rw [e0 _ (by omega), Option.bind_some, e2 _ (by omega), Option.bind_some, if_pos rfl, markHrd_eq bs ss l1 l2 _ (by omega), Option.bind_some, if_neg (by omega), e1 _ (by omega), Option.bind_some, if_pos rfl]
    simp only [laws_FnExactHrdHear.j1, Bool.false_eq_true, if_false, bne_self_eq_false]
    rw [markHrd_eq x y hl.1 hl.2 _ (by omega), Option.bind_some]
    simp only []
    rw [heldHrd_eq _ _ hl.1 hl.2 _ (by omega), Option.bind_some, if_neg (by omega), if_pos rfl, e0 _ (by omega), Option.bind_some, ei, Option.bind_some, e1 _ (by omega), Option.bind_some, if_pos rfl, bne_self_eq_false]
    simp only [laws_FnExactHrdHear.j2, Bool.false_eq_true, if_false]
    rw [heldHrd_eq _ _ hl.1 hl.2 _ (by omega), Option.bind_some, if_neg (by omega), if_pos rfl]

end Go.Proofs.Ytaohaebgpbagmaa.Pure
