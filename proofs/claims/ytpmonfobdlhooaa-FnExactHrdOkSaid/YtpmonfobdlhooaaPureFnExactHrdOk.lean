/- The pure statement of FnExactHrdOk: the program's HrdOk and the reference's tell the same, and the argument stays. Conditions: lists of whole numbers of 64 bits. -/
import Derived.Test.YtpmonfobdlhooaaPFnExactHrdOkx3
import Derived.Test.YtpmonfobdlhooaaPl
namespace Go.Proofs.Ytpmonfobdlhooaa.Pure
open Go.RowKit Go.Proofs.Ytpmonfobdlhooaa.PFnExactHrdOk Go.Proofs.YtpmonfobdlhooaaW.PrintWords Go.Proofs.YtpmonfobdlhooaaW.PrintLast Go.Proofs.YtpmonfobdlhooaaW.PrintMore Go.Proofs.YtpmonfobdlhooaaPl

namespace FnExactHrdOk_
theorem l1In_eq (a b c : Int) : spec_l1In.f a b c = some (decide (b ≤ a ∧ a ≤ c)) := by
  unfold spec_l1In.f
  by_cases h1 : b ≤ a
  · rw [if_pos h1]
    simp [h1]
  · rw [if_neg h1]
    simp [h1]
theorem toIntS_eq (l : List Int) (hl : l.length ≤ 1048576) (k : Nat) (hk : l.length < k) : laws_toIntS.f k l = some l := by
  unfold laws_toIntS.f
  rw [if_pos (by omega), if_pos (by omega)]
  have h := map_loop (fun k y i => laws_toIntS.l0 k l y i) l id (fun k y i hi hy => by
    simp only [laws_toIntS.l0]
    rw [if_pos (by omega), if_pos (by omega), if_pos (by omega), wrap_nat (by omega), rd_nat l i hi]
    rfl) (fun k y hy => by
    simp only [laws_toIntS.l0]
    rw [if_neg (by omega)]) k (List.replicate ((l.length : Int) : Int).toNat 0) (by simp) hk
  simpa using h
theorem eqIntS_self (l : List Int) (hl : l.length ≤ 1048576) (k : Nat) (hk : l.length < k) : laws_eqIntS.f k l l = some true := by
  unfold laws_eqIntS.f
  rw [if_pos rfl]
  exact all_loop_true (fun k i => laws_eqIntS.l0 k l l i) l.length (fun k i hi => by
    simp only [laws_eqIntS.l0]
    rw [if_pos (by omega), if_pos (by omega), if_pos (by omega), if_pos trivial, wrap_nat (by omega)]) (fun k => by
    simp only [laws_eqIntS.l0]
    rw [if_neg (by omega)]) k hk
def hrdAt (b s : Int) : Bool := decide ((0 ≤ b ∧ b ≤ 60000) ∧ (0 ≤ s ∧ s ≤ 60000) ∧ (b = 0 → s = 0))
def hrdB (bs ss : List Int) : Bool := decide ((1 ≤ bs.length ∧ bs.length ≤ 4) ∧ ss.length = bs.length) && (List.range bs.length).all fun i => hrdAt (rd bs i) (rd ss i)
theorem specHrd_loop (bs ss : List Int) (h : ss.length = bs.length) (hb : bs.length ≤ 4) (k : Nat) (hk : bs.length < k) : spec_HrdOk.l0 k 0 bs ss = some ((List.range bs.length).all fun i => hrdAt (rd bs i) (rd ss i)) := by
  refine all_loop (fun k i => spec_HrdOk.l0 k i bs ss) bs.length _ (fun k i hi => ?_) (fun k => ?_) k hk
  · simp only [spec_HrdOk.l0, l1In_eq, Option.bind_some]
    rw [if_pos (by omega), if_pos (by omega), if_pos (show (i : Int) < (ss.length : Int) by omega), wrap_nat (by omega)]
    unfold hrdAt
    by_cases h1 : 0 ≤ rd bs i ∧ rd bs i ≤ 60000
    · by_cases h2 : 0 ≤ rd ss i ∧ rd ss i ≤ 60000
      · by_cases h3 : rd bs i = 0
        · by_cases h4 : rd ss i > 0
          · simp [h2, h3, h4, show ¬ rd ss i = 0 by omega]
          · simp [h3, show rd ss i = 0 by omega]
        · simp [h1, h2, h3]
      · simp [h1, h2]
    · simp [h1]
  · simp only [spec_HrdOk.l0]
    rw [if_neg (by omega)]
theorem implHrd_loop (bs ss : List Int) (h : ss.length = bs.length) (hb : bs.length ≤ 4) (k : Nat) (hk : bs.length < k) : impl_HrdOk.l0 k bs (bs.length : Int) 0 bs ss = some ((List.range bs.length).all fun i => hrdAt (rd bs i) (rd ss i)) := by
  refine all_loop (fun k i => impl_HrdOk.l0 k bs (bs.length : Int) i bs ss) bs.length _ (fun k i hi => ?_) (fun k => ?_) k hk
  · simp only [impl_HrdOk.l0]
    rw [if_pos (by omega), if_pos (by omega), if_pos (show (i : Int) < (bs.length : Int) by omega), if_pos (show (i : Int) < (ss.length : Int) by omega), wrap_nat (by omega)]
    unfold hrdAt
    by_cases h1 : rd bs i < 0
    · simp [h1, show ¬ 0 ≤ rd bs i by omega]
    · by_cases h2 : rd bs i > 60000
      · simp [h1, h2, show ¬ rd bs i ≤ 60000 by omega]
      · by_cases h3 : rd ss i < 0
        · simp [h1, h2, h3, show ¬ 0 ≤ rd ss i by omega]
        · by_cases h4 : rd ss i > 60000
          · simp [h1, h2, h3, h4, show ¬ rd ss i ≤ 60000 by omega]
          · by_cases h5 : rd bs i = 0
            · by_cases h6 : rd ss i = 0
              · simp [h5, h6]
              · simp [h3, h4, h5, h6]
            · simp [h1, h2, h3, h4, h5, show 0 ≤ rd bs i by omega, show rd bs i ≤ 60000 by omega, show 0 ≤ rd ss i by omega, show rd ss i ≤ 60000 by omega]
  · simp only [impl_HrdOk.l0]
    rw [if_neg (by omega)]
theorem specHrd_eq (bs ss : List Int) (k : Nat) (hk : 7 ≤ k) : spec_HrdOk.f k bs ss = some (hrdB bs ss) := by
  obtain ⟨k, rfl⟩ : ∃ m, k = m + 1 := ⟨k - 1, by omega⟩
  unfold spec_HrdOk.f hrdB
  simp only [l1In_eq, Option.bind_some, spec_HrdOk.j0]
  by_cases h1 : 1 ≤ bs.length ∧ bs.length ≤ 4
  · rw [if_pos (by simp; omega)]
    by_cases h2 : ss.length = bs.length
    · rw [if_neg (by simp [h2]), specHrd_loop bs ss h2 h1.2 k (by omega)]
      simp [h1, h2]
    · rw [if_pos (by simp; omega)]
      simp [h2]
  · rw [if_neg (by simp; omega)]
    simp [h1]
theorem implHrd_eq (bs ss : List Int) (k : Nat) (hk : 7 ≤ k) : impl_HrdOk.f k bs ss = some (hrdB bs ss) := by
  obtain ⟨k, rfl⟩ : ∃ m, k = m + 1 := ⟨k - 1, by omega⟩
  unfold impl_HrdOk.f hrdB
  simp only [impl_HrdOk.j0]
  by_cases h1 : 1 ≤ bs.length ∧ bs.length ≤ 4
  · rw [if_neg (by omega), if_neg (by omega)]
    by_cases h2 : ss.length = bs.length
    · rw [if_neg (by simp [h2]), implHrd_loop bs ss h2 h1.2 k (by omega)]
      simp [h1, h2]
    · rw [if_pos (by simp; omega)]
      simp [h2]
  · by_cases h3 : (bs.length : Int) < 1
    · rw [if_pos h3]
      simp [h1]
    · rw [if_neg h3, if_pos (by omega)]
      simp [h1]
theorem szIntS_eq (l : List Int) (a : Int) (h : l.length ≤ maxLen) (h0 : 0 ≤ a) (h1 : a ≤ 1048576) : laws_szIntS.f l a = some (if a < (l.length : Int) then -1 else a - (l.length : Int)) := by
  unfold laws_szIntS.f
  have hm : maxLen = 9223372036854775807 := rfl
  rw [wrap_in (by omega) (by omega)]
  by_cases hl : a < (l.length : Int)
  · rw [if_pos (by omega), if_pos hl]
  · rw [if_neg (by omega), if_neg hl]
theorem szHrd_big (x y : List Int) (hx : x.length ≤ maxLen) (hy : y.length ≤ maxLen) : (∃ n : Int, n < 0 ∧ laws_szHrdBook.f x y 1048576 = some n) ∨ (x.length ≤ 1048576 ∧ y.length ≤ 1048576 ∧ ∃ n : Int, ¬ n < 0 ∧ laws_szHrdBook.f x y 1048576 = some n) := by
  unfold laws_szHrdBook.f
  rw [szIntS_eq x 1048576 hx (by omega) (by omega), Option.bind_some]
  by_cases h1 : (1048576 : Int) < (x.length : Int)
  · rw [if_pos h1]
    exact .inl ⟨-1, by omega, rfl⟩
  · rw [if_neg h1, if_neg (by omega), szIntS_eq y _ hy (by omega) (by omega), Option.bind_some]
    by_cases h2 : (1048576 : Int) - (x.length : Int) < (y.length : Int)
    · rw [if_pos h2]
      exact .inl ⟨-1, by omega, rfl⟩
    · rw [if_neg h2, if_neg (by omega)]
      exact .inr ⟨by omega, by omega, _, by omega, rfl⟩
theorem toHrd_eq (x y : List Int) (hx : x.length ≤ 1048576) (hy : y.length ≤ 1048576) (k : Nat) (hk : 1048576 < k) : laws_toHrdBook.f k x y = some (x, y) := by
  unfold laws_toHrdBook.f
  rw [toIntS_eq x hx k (by omega), toIntS_eq y hy k (by omega)]
  rfl
theorem eqHrd_self (x y : List Int) (hx : x.length ≤ 1048576) (hy : y.length ≤ 1048576) (k : Nat) (hk : 1048576 < k) : laws_eqHrdBook.f k x y x y = some true := by
  unfold laws_eqHrdBook.f
  rw [eqIntS_self x hx k (by omega), eqIntS_self y hy k (by omega)]
  rfl
end FnExactHrdOk_
open FnExactHrdOk_
theorem FnExactHrdOk : laws_FnExactHrdOk.Pure := by
  intro x y hx _ hy _
  refine ⟨1048577, ?_⟩
  unfold laws_FnExactHrdOk.f
  rcases szHrd_big x y hx hy with ⟨n, hn, h⟩ | ⟨h1, h2, n, hn, h⟩
  · rw [h, Option.bind_some, if_pos hn]
  · rw [h, Option.bind_some, if_neg hn, toHrd_eq x y h1 h2 _ (by omega)]
    simp only [Option.bind_some]
    rw [specHrd_eq x y _ (by omega), implHrd_eq x y _ (by omega), eqHrd_self x y h1 h2 _ (by omega)]
    simp

end Go.Proofs.Ytpmonfobdlhooaa.Pure
