/- The pure statement of FnHrdRises: two hellos leave the same in either order, and nothing earlier than was there. Conditions: bytes. -/
import Derived.Test.YtaohaebgpbagmaaPFnHrdRisesx7
import Derived.Test.YtaohaebgpbagmaaVPl
import Derived.Test.YtaohaebgpbagmaaVHrdTold
set_option linter.unusedSimpArgs false
set_option linter.unusedVariables false
namespace Go.Proofs.Ytaohaebgpbagmaa.Pure
open Go.RowKit Go.Proofs.Ytaohaebgpbagmaa.PFnHrdRises Go.Proofs.YtaohaebgpbagmaaW.PrintWords Go.Proofs.YtaohaebgpbagmaaW.PrintLast Go.Proofs.YtaohaebgpbagmaaW.PrintMore Go.Proofs.YtaohaebgpbagmaaPl

namespace FnHrdRises_
theorem l1In_eq (a b c : Int) : spec_l1In.f a b c = some (decide (b ≤ a ∧ a ≤ c)) := by
  unfold spec_l1In.f
  by_cases h1 : b ≤ a
  · rw [if_pos h1]
    simp [h1]
  · rw [if_neg h1]
    simp [h1]
theorem noughts_loop (d : Nat) : ∀ (k : Nat) (y : List Int), d < k → y.length + d ≤ 1000 → spec_l6Noughts.l0 k (d : Int) y = some (y ++ List.replicate d 0) := by
  induction d with
  | zero =>
    intro k y hk hy
    obtain ⟨k, rfl⟩ : ∃ m, k = m + 1 := ⟨k - 1, by omega⟩
    simp only [spec_l6Noughts.l0]
    rw [if_neg (by omega)]
    simp
  | succ d ih =>
    intro k y hk hy
    obtain ⟨k, rfl⟩ : ∃ m, k = m + 1 := ⟨k - 1, by omega⟩
    simp only [spec_l6Noughts.l0]
    rw [if_pos (by omega), if_pos (by omega), wrap_in (by omega) (by omega), show ((d + 1 : Nat) : Int) - 1 = (d : Int) by omega, ih k (y ++ [0]) (by omega) (by rw [List.length_append, List.length_singleton]; omega), List.append_assoc]
    rfl
theorem noughts_eq (a : Int) (h0 : 0 ≤ a) (h1 : a ≤ 100) (k : Nat) (hk : 101 ≤ k) : spec_l6Noughts.f k a = some (List.replicate a.toNat 0) := by
  obtain ⟨n, rfl⟩ := Int.eq_ofNat_of_zero_le h0
  unfold spec_l6Noughts.f
  rw [noughts_loop n k [] (by omega) (by simp; omega)]
  simp
def hrdAt (b s : Int) : Bool := decide ((0 ≤ b ∧ b ≤ 60000) ∧ (0 ≤ s ∧ s ≤ 60000) ∧ (b = 0 → s = 0))
def hrdB (bs ss : List Int) : Bool := decide ((1 ≤ bs.length ∧ bs.length ≤ 4) ∧ ss.length = bs.length) && (List.range bs.length).all fun i => hrdAt (rd bs i) (rd ss i)
theorem specHrd_loop (bs ss : List Int) (h : ss.length = bs.length) (hb : bs.length ≤ 4) (k : Nat) (hk : bs.length < k) : spec_HrdOk.l0 k 0 bs ss = some ((List.range bs.length).all fun i => hrdAt (rd bs i) (rd ss i)) := by
  refine all_loop (fun k i => spec_HrdOk.l0 k i bs ss) bs.length _ (fun k i hi => ?_) (fun k => ?_) k hk
  · simp only [spec_HrdOk.l0, l1In_eq, Option.bind_some]
    rw [if_pos (by omega), if_pos (by omega), if_pos (show (i : Int) < (ss.length : Int) by omega), wrap_nat (by omega)]
    unfold hrdAt
    by_cases h1 : 0 ≤ rd bs i ∧ rd bs i ≤ 60000
    · by_cases h2 : 0 ≤ rd ss i ∧ rd ss i ≤ 60000
      · by_cases h3 : rd bs i = 0
        · by_cases h4 : rd ss i > 0
          · simp [h2, h3, h4, show ¬ rd ss i = 0 by omega]
          · simp [h3, show rd ss i = 0 by omega]
        · simp [h1, h2, h3]
      · simp [h1, h2]
    · simp [h1]
  · simp only [spec_HrdOk.l0]
    rw [if_neg (by omega)]
theorem implHrd_loop (bs ss : List Int) (h : ss.length = bs.length) (hb : bs.length ≤ 4) (k : Nat) (hk : bs.length < k) : impl_HrdOk.l0 k bs (bs.length : Int) 0 bs ss = some ((List.range bs.length).all fun i => hrdAt (rd bs i) (rd ss i)) := by
  refine all_loop (fun k i => impl_HrdOk.l0 k bs (bs.length : Int) i bs ss) bs.length _ (fun k i hi => ?_) (fun k => ?_) k hk
  · simp only [impl_HrdOk.l0]
    rw [if_pos (by omega), if_pos (by omega), if_pos (show (i : Int) < (bs.length : Int) by omega), if_pos (show (i : Int) < (ss.length : Int) by omega), wrap_nat (by omega)]
    unfold hrdAt
    by_cases h1 : rd bs i < 0
    · simp [h1, show ¬ 0 ≤ rd bs i by omega]
    · by_cases h2 : rd bs i > 60000
      · simp [h1, h2, show ¬ rd bs i ≤ 60000 by omega]
      · by_cases h3 : rd ss i < 0
        · simp [h1, h2, h3, show ¬ 0 ≤ rd ss i by omega]
        · by_cases h4 : rd ss i > 60000
          · simp [h1, h2, h3, h4, show ¬ rd ss i ≤ 60000 by omega]
          · by_cases h5 : rd bs i = 0
            · by_cases h6 : rd ss i = 0
              · simp [h5, h6]
              · simp [h3, h4, h5, h6]
            · simp [h1, h2, h3, h4, h5, show 0 ≤ rd bs i by omega, show rd bs i ≤ 60000 by omega, show 0 ≤ rd ss i by omega, show rd ss i ≤ 60000 by omega]
  · simp only [impl_HrdOk.l0]
    rw [if_neg (by omega)]
theorem specHrd_eq (bs ss : List Int) (k : Nat) (hk : 7 ≤ k) : spec_HrdOk.f k bs ss = some (hrdB bs ss) := by
  obtain ⟨k, rfl⟩ : ∃ m, k = m + 1 := ⟨k - 1, by omega⟩
  unfold spec_HrdOk.f hrdB
  simp only [l1In_eq, Option.bind_some, spec_HrdOk.j0]
  by_cases h1 : 1 ≤ bs.length ∧ bs.length ≤ 4
  · rw [if_pos (by simp; omega)]
    by_cases h2 : ss.length = bs.length
    · rw [if_neg (by simp [h2]), specHrd_loop bs ss h2 h1.2 k (by omega)]
      simp [h1, h2]
    · rw [if_pos (by simp; omega)]
      simp [h2]
  · rw [if_neg (by simp; omega)]
    simp [h1]
theorem implHrd_eq (bs ss : List Int) (k : Nat) (hk : 7 ≤ k) : impl_HrdOk.f k bs ss = some (hrdB bs ss) := by
  obtain ⟨k, rfl⟩ : ∃ m, k = m + 1 := ⟨k - 1, by omega⟩
  unfold impl_HrdOk.f hrdB
  simp only [impl_HrdOk.j0]
  by_cases h1 : 1 ≤ bs.length ∧ bs.length ≤ 4
  · rw [if_neg (by omega), if_neg (by omega)]
    by_cases h2 : ss.length = bs.length
    · rw [if_neg (by simp [h2]), implHrd_loop bs ss h2 h1.2 k (by omega)]
      simp [h1, h2]
    · rw [if_pos (by simp; omega)]
      simp [h2]
  · by_cases h3 : (bs.length : Int) < 1
    · rw [if_pos h3]
      simp [h1]
    · rw [if_neg h3, if_pos (by omega)]
      simp [h1]
def Bytes (l : List Int) : Prop := (∀ x ∈ l, (Lit.int .u8 x).wf = true) ∧ l.length ≤ 2000
theorem pick_ok {l : List Int} (hl : Bytes l) {p : Int} (hp0 : 0 ≤ p) (hp1 : p ≤ 1000000) {n : Int} (hn0 : 1 ≤ n) (k : Nat) (hk : 1 ≤ k) :
    ∃ r, spec_l30Rd_pick.f k l p n = some (r, p + 1) ∧ 0 ≤ r ∧ r < n := by
  obtain ⟨k, rfl⟩ : ∃ m, k = m + 1 := ⟨k - 1, by omega⟩
  obtain ⟨hb, hlen⟩ := hl
  unfold spec_l30Rd_pick.f
  rw [if_neg (by omega), wrap_in (by omega) (by omega)]
  simp only [spec_l30Rd_pick.j0]
  by_cases h0 : l.length = 0
  · rw [if_pos (by simp [h0])]
    exact ⟨0, rfl, by omega, by omega⟩
  · rw [if_neg (by simpa using h0), show wrap64 (p + 1 - 1) = p by rw [wrap_in (by omega) (by omega)]; omega]
    by_cases h1 : p < (l.length : Int)
    · rw [if_pos h1, if_pos hp0, if_neg (by omega), wrap_in (by have := rd_u8 hb p; omega) (by have := rd_u8 hb p; omega)]
      have := rd_u8 hb p
      exact ⟨_, rfl, Int.tmod_nonneg _ (by omega), Int.tmod_lt_of_pos _ (by omega)⟩
    · rw [if_neg h1, if_neg (by omega)]
      have hpos : (0 : Int) < (l.length : Int) := by omega
      have m1 : 0 ≤ Int.tmod p (l.length : Int) ∧ Int.tmod p (l.length : Int) < (l.length : Int) := ⟨Int.tmod_nonneg _ hp0, Int.tmod_lt_of_pos _ hpos⟩
      have e7 : wrap64 (p * 7) = p * 7 := wrap_in (by omega) (by omega)
      have e73 : wrap64 (p * 7 + 3) = p * 7 + 3 := wrap_in (by omega) (by omega)
      have m2 : 0 ≤ Int.tmod (p * 7 + 3) (l.length : Int) ∧ Int.tmod (p * 7 + 3) (l.length : Int) < (l.length : Int) := ⟨Int.tmod_nonneg _ (by omega), Int.tmod_lt_of_pos _ hpos⟩
      rw [e7, e73, if_pos m1.1, if_pos m1.2, if_pos m2.1, if_pos m2.2, if_neg (by omega)]
      have b1 := rd_u8 hb (Int.tmod p (l.length : Int))
      have b2 := rd_u8 hb (Int.tmod (p * 7 + 3) (l.length : Int))
      have d0 : 0 ≤ Int.tdiv p (l.length : Int) ∧ Int.tdiv p (l.length : Int) ≤ p := ⟨Int.tdiv_nonneg hp0 (by omega), Int.tdiv_le_self _ hp0⟩
      generalize rd l (Int.tmod p (l.length : Int)) = a at *
      generalize rd l (Int.tmod (p * 7 + 3) (l.length : Int)) = b at *
      generalize Int.tdiv p (l.length : Int) = d at *
      have s1 : wrap64 (wrap64 a * 131) = a * 131 := by rw [wrap_in (x := a) (by omega) (by omega)]; exact wrap_in (by omega) (by omega)
      have s2 : wrap64 (wrap64 b * 1117) = b * 1117 := by rw [wrap_in (x := b) (by omega) (by omega)]; exact wrap_in (by omega) (by omega)
      have s3 : wrap64 (p * 29) = p * 29 := wrap_in (by omega) (by omega)
      have s4 : wrap64 (wrap64 d * 53) = d * 53 := by rw [wrap_in (x := d) (by omega) (by omega)]; exact wrap_in (by omega) (by omega)
      rw [s1, s2, s3, s4, wrap_in (x := a * 131 + b * 1117) (by omega) (by omega), wrap_in (x := a * 131 + b * 1117 + p * 29) (by omega) (by omega), wrap_in (x := a * 131 + b * 1117 + p * 29 + d * 53) (by omega) (by omega)]
      have hx0 : 0 ≤ a * 131 + b * 1117 + p * 29 + d * 53 := by omega
      have hx1 : a * 131 + b * 1117 + p * 29 + d * 53 < 1000000000 := by omega
      generalize a * 131 + b * 1117 + p * 29 + d * 53 = x at *
      have q0 : 0 ≤ Int.tdiv x 64 ∧ Int.tdiv x 64 ≤ x := ⟨Int.tdiv_nonneg hx0 (by omega), Int.tdiv_le_self _ hx0⟩
      rw [wrap_in (x := Int.tdiv x 64) (by omega) (by omega)]
      have := xor_nonneg x (Int.tdiv x 64) hx0 (by omega) q0.1 (by omega)
      exact ⟨_, rfl, Int.tmod_nonneg _ this.1, Int.tmod_lt_of_pos _ (by omega)⟩
theorem open_ok (l : List Int) (hl : ∀ x ∈ l, (Lit.int .u8 x).wf = true) : ∃ m, spec_l30Open.f l = some (m, 0) ∧ Bytes m := by
  unfold spec_l30Open.f
  by_cases h : (l.length : Int) > 2000
  · rw [if_pos h, if_pos (by omega)]
    exact ⟨_, rfl, fun x hx => hl x (List.mem_of_mem_take hx), by rw [List.length_take]; omega⟩
  · rw [if_neg h]
    exact ⟨_, rfl, hl, by omega⟩
open Go.Proofs
theorem specCopy_eq (bs ss : List Int) (h1 : bs.length ≤ 4) (h2 : ss.length ≤ 4) : spec_l13Copy.f bs ss = some (bs, ss) := by
  unfold spec_l13Copy.f
  rw [Option.bind_some, if_pos (by simp; omega), Option.bind_some, if_pos (by simp; omega)]
  rfl
theorem specHear_bad (k : Nat) (bs ss : List Int) (n b s : Int) : spec_HrdHear.j0 (k + 1) n b s true bs ss = some ([], [], 0) := by
  simp only [spec_HrdHear.j0, if_pos]
theorem specHear_eq (bs ss : List Int) (n b s : Int) (k : Nat) (hk : 12 ≤ k) : spec_HrdHear.f k bs ss n b s = some (YtaohaebgpbagmaaHrdTold.hearZ bs ss n b s) := by
  obtain ⟨k, rfl⟩ : ∃ m, k = m + 1 + 1 := ⟨k - 2, by omega⟩
  unfold spec_HrdHear.f YtaohaebgpbagmaaHrdTold.hearZ YtaohaebgpbagmaaHrdHear.hearB
  rw [specHrd_eq bs ss _ (by omega), Option.bind_some]
  by_cases h1 : hrdB bs ss = true
  · have h1' : YtaohaebgpbagmaaHrdHear.hrdB bs ss = true := h1
    obtain ⟨l1, l2, l3⟩ := YtaohaebgpbagmaaHrdHear.hrd_lens h1'
    rw [if_pos h1, wrap_in (by omega) (by omega), l1In_eq, Option.bind_some, h1', Bool.true_and]
    by_cases h2 : 0 ≤ n ∧ n < (bs.length : Int)
    · rw [decide_eq_true (show 0 ≤ n ∧ n ≤ (bs.length : Int) - 1 by omega), if_pos rfl, l1In_eq, Option.bind_some, decide_eq_true h2, Bool.true_and]
      by_cases h3 : 1 ≤ b ∧ b ≤ 60000
      · rw [decide_eq_true h3, if_pos rfl, l1In_eq, Option.bind_some, Bool.true_and]
        by_cases h4 : 0 ≤ s ∧ s ≤ 60000
        · have h2a : n < (ss.length : Int) := by omega
          rw [decide_eq_true h4, if_pos (show true = true from rfl)]
          simp only [Bool.not_true, spec_HrdHear.j0, Bool.false_eq_true, if_false, specCopy_eq bs ss (by omega) (by omega), Option.bind_some, if_pos h2.1, if_pos h2.2, if_pos h2a]
          by_cases h5 : b > rd bs n
          · rw [if_pos h5, if_pos h5, if_pos (by omega)]
          · rw [if_neg h5, if_neg h5]
            by_cases h6 : b = rd bs n
            · rw [if_pos h6]
              by_cases h7 : s > rd ss n
              · rw [decide_eq_true h7, if_pos ⟨h6, h7⟩]
                simp only [spec_HrdHear.j1, if_true, if_pos h2.1, if_pos h2.2, if_pos h2a]
                rw [if_pos (by omega)]
              · rw [decide_eq_false h7, if_neg (fun h => h7 h.2)]
                simp only [spec_HrdHear.j1, Bool.false_eq_true, if_false]
                rw [if_neg (by omega)]
            · rw [if_neg h6, if_neg (fun h => h6 h.1)]
              simp only [spec_HrdHear.j1, Bool.false_eq_true, if_false]
              rw [if_neg (by omega)]
        · rw [decide_eq_false h4, if_neg (show ¬ false = true by simp), Bool.not_false, specHear_bad]
      · rw [decide_eq_false h3, if_neg (by simp), specHear_bad, Bool.false_and, if_neg (by simp)]
    · rw [decide_eq_false (show ¬ (0 ≤ n ∧ n ≤ (bs.length : Int) - 1) by omega), if_neg (by simp), specHear_bad, decide_eq_false h2, Bool.false_and, Bool.false_and, if_neg (by simp)]
  · have h1' : YtaohaebgpbagmaaHrdHear.hrdB bs ss = false := Bool.eq_false_iff.2 h1
    rw [if_neg h1, specHear_bad, h1']
    simp
theorem hear_lens (bs ss : List Int) (n b s : Int) (h1 : bs.length ≤ 1048576) (h2 : ss.length ≤ 1048576) : (YtaohaebgpbagmaaHrdTold.hearZ bs ss n b s).1.length ≤ 1048576 ∧ (YtaohaebgpbagmaaHrdTold.hearZ bs ss n b s).2.1.length ≤ 1048576 := by
  unfold YtaohaebgpbagmaaHrdTold.hearZ
  split
  · split
    · simp [h1, h2]
    · split
      · simp [h1, h2]
      · exact ⟨h1, h2⟩
  · simp
def news (a : Int) : List Int := if 1 ≤ a ∧ a ≤ 4 then List.replicate a.toNat 0 else []
theorem specNew_eq (a : Int) (k : Nat) (hk : 101 ≤ k) : spec_HrdNew.f k a = some (news a, news a) := by
  unfold spec_HrdNew.f news
  rw [l1In_eq, Option.bind_some]
  by_cases h : 1 ≤ a ∧ a ≤ 4
  · rw [if_pos (by simpa using h), noughts_eq a (by omega) (by omega) k hk, Option.bind_some, Option.bind_some, if_pos h]
  · rw [if_neg (by simpa using h), if_neg h]
theorem book_loop {s : List Int} (hs : Bytes s) : ∀ (d i k : Nat) (p : Int) (xs ys : List Int), i + d = xs.length → ys.length = xs.length → 1 ≤ xs.length → xs.length ≤ 4 → 0 ≤ p → p + 2 * (d : Int) ≤ 900000 → d + 2 ≤ k →
    ∃ xs' ys' q, spec_l31Book.l0 k (i : Int) s p xs ys = some (xs', ys', q) ∧ xs'.length ≤ 4 ∧ ys'.length ≤ 5 ∧ 0 ≤ q ∧ q ≤ p + 2 * (d : Int) + 3 := by
  intro d
  induction d with
  | zero =>
    intro i k p xs ys hi hy h1 h4 hp0 hp1 hk
    obtain ⟨k, rfl⟩ : ∃ m, k = m + 1 := ⟨k - 1, by omega⟩
    simp only [spec_l31Book.l0]
    rw [if_neg (by omega)]
    obtain ⟨a, ea, ha⟩ := pick_ok hs hp0 (by omega) (n := (xs.length : Int)) (by omega) k (by omega)
    obtain ⟨b, eb, hb⟩ := pick_ok hs (p := p + 1) (by omega) (by omega) (n := 16) (by omega) k (by omega)
    obtain ⟨c, ec, hc⟩ := pick_ok hs (p := p + 1 + 1) (by omega) (by omega) (n := 4) (by omega) k (by omega)
    obtain ⟨e, ee, he⟩ := pick_ok hs (p := p + 1 + 1) (by omega) (by omega) (n := 3) (by omega) k (by omega)
    rw [ea]
    simp only [Option.bind_some]
    rw [eb]
    simp only [Option.bind_some]
    by_cases b0 : b = 0
    · rw [if_pos b0, ec]
      simp only [Option.bind_some]
      rw [if_pos hc.1, if_pos (by simpa using hc.2), if_pos ha.1, if_pos ha.2]
      exact ⟨_, _, _, rfl, by simp; omega, by omega, by omega, by omega⟩
    · rw [if_neg b0]
      by_cases b1 : b = 1
      · rw [if_pos b1, ee]
        simp only [Option.bind_some]
        rw [if_pos he.1, if_pos (by simpa using he.2), if_pos ha.1, if_pos (by omega)]
        exact ⟨_, _, _, rfl, by omega, by simp; omega, by omega, by omega⟩
      · rw [if_neg b1]
        by_cases b2 : b = 2
        · rw [if_pos b2, if_pos (by omega)]
          exact ⟨_, _, _, rfl, by omega, by simp; omega, by omega, by omega⟩
        · rw [if_neg b2]
          by_cases b3 : b = 3
          · rw [if_pos b3]
            exact ⟨_, _, _, rfl, by simp, by omega, by omega, by omega⟩
          · rw [if_neg b3]
            exact ⟨_, _, _, rfl, by omega, by omega, by omega, by omega⟩
  | succ d ih =>
    intro i k p xs ys hi hy h1 h4 hp0 hp1 hk
    obtain ⟨k, rfl⟩ : ∃ m, k = m + 1 := ⟨k - 1, by omega⟩
    simp only [spec_l31Book.l0]
    obtain ⟨a, ea, ha⟩ := pick_ok hs hp0 (by omega) (n := 4) (by omega) k (by omega)
    obtain ⟨b, eb, hb⟩ := pick_ok hs (p := p + 1) (by omega) (by omega) (n := 5) (by omega) k (by omega)
    rw [if_pos (by omega), ea]
    simp only [Option.bind_some]
    rw [if_pos (by omega)]
    by_cases a0 : a > 0
    · rw [if_pos a0, eb]
      simp only [Option.bind_some]
      rw [if_pos hb.1, if_pos (by simpa using hb.2), if_pos (by omega), wrap_nat (by omega)]
      obtain ⟨xs', ys', q, e, g1, g2, g3, g4⟩ := ih (i + 1) k (p + 1 + 1) (xs.set i a) (ys.set i (rd [0, 1, 2, 30, 60000] b)) (by rw [List.length_set]; omega) (by rw [List.length_set, List.length_set]; exact hy) (by rw [List.length_set]; exact h1) (by rw [List.length_set]; exact h4) (by omega) (by omega) (by omega)
      exact ⟨xs', ys', q, e, g1, g2, g3, by omega⟩
    · rw [if_neg a0, wrap_nat (by omega)]
      obtain ⟨xs', ys', q, e, g1, g2, g3, g4⟩ := ih (i + 1) k (p + 1) (xs.set i a) ys (by rw [List.length_set]; omega) (by rw [List.length_set]; exact hy) (by rw [List.length_set]; exact h1) (by rw [List.length_set]; exact h4) (by omega) (by omega) (by omega)
      exact ⟨xs', ys', q, e, g1, g2, g3, by omega⟩
theorem book_ok {s : List Int} (hs : Bytes s) (k : Nat) (hk : 200 ≤ k) : ∃ xs ys q, spec_l31Book.f k s 0 = some (xs, ys, q) ∧ xs.length ≤ 4 ∧ ys.length ≤ 5 ∧ 0 ≤ q ∧ q ≤ 100 := by
  unfold spec_l31Book.f
  obtain ⟨a, ea, ha⟩ := pick_ok hs (p := 0) (by omega) (by omega) (n := 4) (by omega) k (by omega)
  rw [ea]
  simp only [Option.bind_some]
  rw [wrap_in (by omega) (by omega), specNew_eq _ k (by omega)]
  simp only [Option.bind_some]
  have hn : (news (1 + a)).length = (1 + a).toNat := by
    unfold news
    rw [if_pos (by omega), List.length_replicate]
  obtain ⟨xs', ys', q, e, g1, g2, g3, g4⟩ := book_loop hs (news (1 + a)).length 0 k (0 + 1) (news (1 + a)) (news (1 + a)) (by omega) rfl (by omega) (by omega) (by omega) (by omega) (by omega)
  exact ⟨xs', ys', q, e, g1, g2, g3, by omega⟩
theorem drawHrd_ok (l : List Int) (hl : ∀ x ∈ l, (Lit.int .u8 x).wf = true) (k : Nat) (hk : 201 ≤ k) : ∃ bs ss n b s, spec_DrawHrdHear.f k l = some (bs, ss, n, b, s) ∧ bs.length ≤ 4 ∧ ss.length ≤ 5 := by
  obtain ⟨k, rfl⟩ : ∃ m, k = m + 1 := ⟨k - 1, by omega⟩
  unfold spec_DrawHrdHear.f
  obtain ⟨m, em, hm⟩ := open_ok l hl
  obtain ⟨xs, ys, q, e, g1, g2, g3, g4⟩ := book_ok hm (k + 1) (by omega)
  rw [em]
  simp only [Option.bind_some]
  rw [e]
  simp only [Option.bind_some]
  obtain ⟨a, ea, ha⟩ := pick_ok hm (p := q) (by omega) (by omega) (n := 7) (by omega) (k + 1) (by omega)
  obtain ⟨b, eb, hb⟩ := pick_ok hm (p := q + 1) (by omega) (by omega) (n := 4) (by omega) (k + 1) (by omega)
  obtain ⟨c, ec, hc⟩ := pick_ok hm (p := q + 1 + 1) (by omega) (by omega) (n := 8) (by omega) (k + 1) (by omega)
  obtain ⟨d, ed, hd⟩ := pick_ok hm (p := q + 1 + 1 + 1) (by omega) (by omega) (n := 2) (by omega) (k + 1) (by omega)
  rw [ea]
  simp only [Option.bind_some]
  rw [if_pos ha.1, if_pos (by simpa using ha.2), eb]
  simp only [Option.bind_some]
  rw [ec]
  simp only [Option.bind_some]
  rw [if_pos hc.1, if_pos (by simpa using hc.2)]
  obtain ⟨n, hn⟩ : ∃ n, n = rd [0, 0, 1, 2, 3, 4, -1] a := ⟨_, rfl⟩
  rw [← hn]
  have plain : ∀ (z1 z2 : Int) (q' : Int), ∃ bs ss n' b' s', spec_DrawHrdHear.j0 (k + 1) n z1 z2 false m q' xs ys = some (bs, ss, n', b', s') ∧ bs.length ≤ 4 ∧ ss.length ≤ 5 := fun z1 z2 q' => by
    simp only [spec_DrawHrdHear.j0, Bool.false_eq_true, if_false]
    exact ⟨_, _, _, _, _, rfl, g1, g2⟩
  by_cases h1 : n ≥ 0
  · rw [if_pos h1]
    by_cases h2 : n < (xs.length : Int)
    · rw [if_pos h2]
      by_cases h3 : n < (ys.length : Int)
      · rw [if_pos h3, ed]
        simp only [Option.bind_some]
        by_cases h4 : d = 0
        · rw [show (d == 0) = true by simpa using h4]
          simp only [spec_DrawHrdHear.j0, if_true]
          obtain ⟨f, ef, hf⟩ := pick_ok hm (p := q + 1 + 1 + 1 + 1) (by omega) (by omega) (n := 3) (by omega) k (by omega)
          obtain ⟨g, eg, hg⟩ := pick_ok hm (p := q + 1 + 1 + 1 + 1 + 1) (by omega) (by omega) (n := 4) (by omega) k (by omega)
          rw [if_pos h1, if_pos h2, Option.bind_some, ef]
          simp only [Option.bind_some]
          rw [if_pos hf.1, if_pos (by simpa using hf.2), if_pos h3, eg]
          simp only [Option.bind_some]
          rw [if_pos hg.1, if_pos (by simpa using hg.2)]
          exact ⟨_, _, _, _, _, rfl, g1, g2⟩
        · rw [show (d == 0) = false by simpa using h4]
          exact plain _ _ _
      · rw [if_neg h3]
        exact plain _ _ _
    · rw [if_neg h2]
      exact plain _ _ _
  · rw [if_neg h1]
    exact plain _ _ _
theorem caInts_self (l : List Int) (hl : l.length ≤ 1000) (k : Nat) (hk : l.length < k) : laws_caInts.f k l l = some true := by
  unfold laws_caInts.f
  rw [if_pos rfl]
  exact all_loop_true (fun k i => laws_caInts.l0 k l l i) l.length (fun k i hi => by
    simp only [laws_caInts.l0]
    rw [if_pos (by omega), if_pos (by omega), if_pos (by omega), if_pos trivial, wrap_nat (by omega)]) (fun k => by
    simp only [laws_caInts.l0]
    rw [if_neg (by omega)]) k hk
/-- A book's turn at node i. -/
def upd (bs ss : List Int) (i : Nat) (b s : Int) : List Int × List Int := if b > rd bs (i : Int) ∨ (b = rd bs (i : Int) ∧ s > rd ss (i : Int)) then (bs.set i b, ss.set i s) else (bs, ss)
theorem rd_set (l : List Int) (i j : Nat) (x : Int) (hi : i < l.length) : rd (l.set i x) (j : Int) = if i = j then x else rd l (j : Int) := by
  unfold rd
  rw [List.getD_eq_getElem?_getD, List.getD_eq_getElem?_getD, show ((j : Int)).toNat = j from rfl, List.getElem?_set]
  by_cases h : i = j
  · subst h
    simp [hi]
  · simp [h]
theorem upd_len (bs ss : List Int) (i : Nat) (b s : Int) : (upd bs ss i b s).1.length = bs.length ∧ (upd bs ss i b s).2.length = ss.length := by
  unfold upd
  split <;> simp
theorem hrdB_iff (bs ss : List Int) : YtaohaebgpbagmaaHrdHear.hrdB bs ss = true ↔ (1 ≤ bs.length ∧ bs.length ≤ 4 ∧ ss.length = bs.length) ∧ ∀ j : Nat, j < bs.length → (0 ≤ rd bs (j : Int) ∧ rd bs (j : Int) ≤ 60000) ∧ (0 ≤ rd ss (j : Int) ∧ rd ss (j : Int) ≤ 60000) ∧ (rd bs (j : Int) = 0 → rd ss (j : Int) = 0) := by
  unfold YtaohaebgpbagmaaHrdHear.hrdB YtaohaebgpbagmaaHrdHear.hrdAt
  rw [Bool.and_eq_true, decide_eq_true_eq, List.all_eq_true]
  constructor
  · rintro ⟨h1, h2⟩
    exact ⟨⟨h1.1.1, h1.1.2, h1.2⟩, fun j hj => by have := h2 j (List.mem_range.2 hj); rwa [decide_eq_true_eq] at this⟩
  · rintro ⟨h1, h2⟩
    exact ⟨⟨⟨h1.1, h1.2.1⟩, h1.2.2⟩, fun j hj => by rw [decide_eq_true_eq]; exact h2 j (List.mem_range.1 hj)⟩
theorem upd_ok (bs ss : List Int) (i : Nat) (b s : Int) (h : YtaohaebgpbagmaaHrdHear.hrdB bs ss = true) (hi : i < bs.length) (hb : 1 ≤ b ∧ b ≤ 60000) (hs : 0 ≤ s ∧ s ≤ 60000) : YtaohaebgpbagmaaHrdHear.hrdB (upd bs ss i b s).1 (upd bs ss i b s).2 = true := by
  unfold upd
  split
  · rw [hrdB_iff] at h ⊢
    obtain ⟨⟨h1, h2, h3⟩, h4⟩ := h
    refine ⟨⟨by simpa using h1, by simpa using h2, by simpa using h3⟩, fun j hj => ?_⟩
    rw [List.length_set] at hj
    simp only
    rw [rd_set bs i j b hi, rd_set ss i j s (by omega)]
    by_cases hij : i = j
    · rw [if_pos hij, if_pos hij]
      exact ⟨⟨by omega, by omega⟩, ⟨by omega, by omega⟩, fun h0 => by omega⟩
    · rw [if_neg hij, if_neg hij]
      exact h4 j hj
  · exact h
theorem upd_comm (bs ss : List Int) (i j : Nat) (b s c t : Int) (hi : i < bs.length) (hj : j < bs.length) (hl : ss.length = bs.length) : upd (upd bs ss i b s).1 (upd bs ss i b s).2 j c t = upd (upd bs ss j c t).1 (upd bs ss j c t).2 i b s := by
  by_cases hij : i = j
  · subst hij
    unfold upd
    by_cases h1 : b > rd bs (i : Int) ∨ (b = rd bs (i : Int) ∧ s > rd ss (i : Int))
    · by_cases h2 : c > rd bs (i : Int) ∨ (c = rd bs (i : Int) ∧ t > rd ss (i : Int))
      · rw [if_pos h1, if_pos h2]
        simp only [rd_set bs i i _ hi, rd_set ss i i _ (by omega : i < ss.length), if_true, List.set_set]
        by_cases h3 : c > b ∨ (c = b ∧ t > s)
        · rw [if_pos h3, if_neg (by omega)]
        · by_cases h4 : b > c ∨ (b = c ∧ s > t)
          · rw [if_neg h3, if_pos h4]
          · rw [if_neg h3, if_neg h4]
            have e1 : b = c := by omega
            have e2 : s = t := by omega
            rw [e1, e2]
      · rw [if_pos h1, if_neg h2]
        simp only [rd_set bs i i _ hi, rd_set ss i i _ (by omega : i < ss.length), if_true]
        rw [if_neg (by omega), if_pos h1]
    · by_cases h2 : c > rd bs (i : Int) ∨ (c = rd bs (i : Int) ∧ t > rd ss (i : Int))
      · rw [if_neg h1, if_pos h2]
        simp only [rd_set bs i i _ hi, rd_set ss i i _ (by omega : i < ss.length), if_true]
        rw [if_neg (by omega)]
      · rw [if_neg h1, if_neg h2]
        simp only
        rw [if_neg h1]
  · have hji : ¬ j = i := fun h => hij h.symm
    unfold upd
    by_cases h1 : b > rd bs (i : Int) ∨ (b = rd bs (i : Int) ∧ s > rd ss (i : Int))
    · by_cases h2 : c > rd bs (j : Int) ∨ (c = rd bs (j : Int) ∧ t > rd ss (j : Int))
      · rw [if_pos h1, if_pos h2]
        simp only [rd_set bs i j _ hi, rd_set ss i j _ (by omega : i < ss.length), rd_set bs j i _ hj, rd_set ss j i _ (by omega : j < ss.length), if_neg hij, if_neg hji, if_pos h1, if_pos h2]
        rw [List.set_comm _ _ hij, List.set_comm _ _ hij]
      · rw [if_pos h1, if_neg h2]
        simp only [rd_set bs i j _ hi, rd_set ss i j _ (by omega : i < ss.length), if_neg hij, if_pos h1, if_neg h2]
    · by_cases h2 : c > rd bs (j : Int) ∨ (c = rd bs (j : Int) ∧ t > rd ss (j : Int))
      · rw [if_neg h1, if_pos h2]
        simp only [rd_set bs j i _ hj, rd_set ss j i _ (by omega : j < ss.length), if_neg hji, if_neg h1, if_pos h2]
      · rw [if_neg h1, if_neg h2]
        simp only [if_neg h1, if_neg h2]
theorem hear_upd (bs ss : List Int) (i : Nat) (b s : Int) (h : YtaohaebgpbagmaaHrdHear.hearB bs ss (i : Int) b s = true) : ∃ c, c ≠ 0 ∧ YtaohaebgpbagmaaHrdTold.hearZ bs ss (i : Int) b s = ((upd bs ss i b s).1, (upd bs ss i b s).2, c) := by
  unfold YtaohaebgpbagmaaHrdTold.hearZ upd
  rw [if_pos h, show ((i : Int)).toNat = i from rfl]
  by_cases h1 : b > rd bs (i : Int)
  · rw [if_pos h1, if_pos (.inl h1)]
    exact ⟨1, by omega, rfl⟩
  · rw [if_neg h1]
    by_cases h2 : b = rd bs (i : Int) ∧ s > rd ss (i : Int)
    · rw [if_pos h2, if_pos (.inr h2)]
      exact ⟨2, by omega, rfl⟩
    · rw [if_neg h2, if_neg (fun h => h.elim h1 h2)]
      exact ⟨3, by omega, rfl⟩
theorem hear_bad (bs ss : List Int) (n b s : Int) (h : ¬ YtaohaebgpbagmaaHrdHear.hearB bs ss n b s = true) : YtaohaebgpbagmaaHrdTold.hearZ bs ss n b s = ([], [], 0) := if_neg h
theorem hear_parts {bs ss : List Int} {n b s : Int} (h : YtaohaebgpbagmaaHrdHear.hearB bs ss n b s = true) : YtaohaebgpbagmaaHrdHear.hrdB bs ss = true ∧ (0 ≤ n ∧ n < (bs.length : Int)) ∧ (1 ≤ b ∧ b ≤ 60000) ∧ (0 ≤ s ∧ s ≤ 60000) := by
  unfold YtaohaebgpbagmaaHrdHear.hearB at h
  rw [Bool.and_eq_true, Bool.and_eq_true, Bool.and_eq_true, decide_eq_true_eq, decide_eq_true_eq, decide_eq_true_eq] at h
  exact ⟨h.1.1.1, h.1.1.2, h.1.2, h.2⟩
theorem hear_of {bs ss : List Int} {n b s : Int} (h1 : YtaohaebgpbagmaaHrdHear.hrdB bs ss = true) (h2 : 0 ≤ n ∧ n < (bs.length : Int)) (h3 : 1 ≤ b ∧ b ≤ 60000) (h4 : 0 ≤ s ∧ s ≤ 60000) : YtaohaebgpbagmaaHrdHear.hearB bs ss n b s = true := by
  unfold YtaohaebgpbagmaaHrdHear.hearB
  rw [h1, decide_eq_true h2, decide_eq_true h3, decide_eq_true h4]
  rfl
theorem new_two : impl_HrdNew.f 2 = some ([0, 0], [0, 0]) := by
  unfold impl_HrdNew.f
  rw [if_neg (by omega), if_neg (by omega), if_pos (by omega), if_pos (by omega)]
  rfl
end FnHrdRises_
open FnHrdRises_
open Go.Proofs
theorem FnHrdRises : laws_FnHrdRises.Pure := by
  intro l more _ hl _ hm
  refine ⟨250 + 1 + 1 + 1 + 1, ?_⟩
  unfold laws_FnHrdRises.f
  have big : ∀ k, laws_FnHrdRises.j0 (k + 1) l more true = some true := fun k => by simp only [laws_FnHrdRises.j0, if_true]
  by_cases hb1 : (l.length : Int) > 1048576
  · rw [if_pos hb1, big]
  by_cases hb2 : (more.length : Int) > 1048576
  · rw [if_neg hb1, decide_eq_true hb2, big]
  rw [if_neg hb1, decide_eq_false hb2]
  simp only [laws_FnHrdRises.j0, Bool.false_eq_true, if_false]
  obtain ⟨bs, ss, n, b, s, e1, lb, ls⟩ := drawHrd_ok l hl (250 + 1 + 1 + 1) (by omega)
  obtain ⟨bs', ss', m, c, t, e2, _, _⟩ := drawHrd_ok more hm (250 + 1 + 1 + 1) (by omega)
  have HI : ∀ x y i u v, impl_HrdHear.f x y i u v = some (YtaohaebgpbagmaaHrdTold.hearZ x y i u v) := fun _ _ _ _ _ => rfl
  rw [e1]
  simp only [Option.bind_some]
  rw [e2]
  simp only [Option.bind_some, HI]
  rw [specHear_eq bs ss n b s _ (by omega)]
  simp only [Option.bind_some]
  rw [if_pos trivial]
  by_cases hv : YtaohaebgpbagmaaHrdHear.hearB bs ss n b s = true
  · obtain ⟨v1, v2, v3, v4⟩ := hear_parts hv
    obtain ⟨i, rfl⟩ : ∃ i : Nat, n = (i : Int) := ⟨n.toNat, by omega⟩
    have hi : i < bs.length := by omega
    obtain ⟨g1, g2, g3⟩ := YtaohaebgpbagmaaHrdHear.hrd_lens v1
    obtain ⟨q, hq, ez⟩ := hear_upd bs ss i b s hv
    have hlen := upd_len bs ss i b s
    have hok := upd_ok bs ss i b s v1 hi v3 v4
    rw [ez]
    simp only
    obtain ⟨X, hX⟩ : ∃ X, X = upd bs ss i b s := ⟨_, rfl⟩
    rw [← hX] at hlen hok ⊢
    rw [caInts_self _ (by omega) _ (by omega), Option.bind_some, if_pos rfl, caInts_self _ (by omega) _ (by omega), Option.bind_some]
    simp only [laws_FnHrdRises.j1, Bool.not_true, Bool.false_eq_true, if_false]
    have hge : ¬ rd X.1 (i : Int) < rd bs (i : Int) ∧ (rd X.1 (i : Int) = rd bs (i : Int) → ¬ rd X.2 (i : Int) < rd ss (i : Int)) := by
      rw [hX]
      unfold upd
      split
      · rename_i h
        simp only [rd_set bs i i _ hi, rd_set ss i i _ (by omega : i < ss.length), if_true]
        omega
      · simp
    have hthird : ¬ (b > rd X.1 (i : Int) ∨ (b = rd X.1 (i : Int) ∧ s > rd X.2 (i : Int))) := by
      rw [hX]
      unfold upd
      split
      · rename_i h
        simp only [rd_set bs i i _ hi, rd_set ss i i _ (by omega : i < ss.length), if_true]
        omega
      · rename_i h
        exact h
    rw [if_neg hq, if_pos (by omega), if_pos (by omega), if_pos (by omega), if_neg hge.1]
    have J2 : laws_FnHrdRises.j2 (250 + 1 + 1) (i : Int) b s m c t false bs ss X.1 X.2 = some true := by
      simp only [laws_FnHrdRises.j2, Bool.false_eq_true, if_false, HI, Option.bind_some]
      by_cases hw : YtaohaebgpbagmaaHrdHear.hearB bs ss m c t = true
      · obtain ⟨u1, u2, u3, u4⟩ := hear_parts hw
        obtain ⟨j, rfl⟩ : ∃ j : Nat, m = (j : Int) := ⟨m.toNat, by omega⟩
        have hj : j < bs.length := by omega
        have hw1 : YtaohaebgpbagmaaHrdHear.hearB X.1 X.2 (j : Int) c t = true := hear_of hok (by omega) u3 u4
        obtain ⟨p1, hp1, ep1⟩ := hear_upd X.1 X.2 j c t hw1
        obtain ⟨p2, hp2, ep2⟩ := hear_upd bs ss j c t hw
        have hY := upd_ok bs ss j c t v1 hj u3 u4
        have hYl := upd_len bs ss j c t
        have hcomm := upd_comm bs ss i j b s c t hi hj g3
        rw [ep1, ep2]
        simp only
        rw [if_neg hp1, show (p2 == 0) = false by simpa using hp2]
        rw [← hX] at hcomm
        obtain ⟨Y, hYY⟩ : ∃ Y, Y = upd bs ss j c t := ⟨_, rfl⟩
        rw [← hYY] at hY hYl hcomm ⊢
        have hw2 : YtaohaebgpbagmaaHrdHear.hearB Y.1 Y.2 (i : Int) b s = true := hear_of hY (by omega) v3 v4
        have hw3 : YtaohaebgpbagmaaHrdHear.hearB X.1 X.2 (i : Int) b s = true := hear_of hok (by omega) v3 v4
        obtain ⟨p3, hp3, ep3⟩ := hear_upd Y.1 Y.2 i b s hw2
        have ep4 : (YtaohaebgpbagmaaHrdTold.hearZ X.1 X.2 (i : Int) b s).2.2 = 3 := by
          unfold YtaohaebgpbagmaaHrdTold.hearZ
          rw [if_pos hw3, if_neg (fun h => hthird (.inl h)), if_neg (fun h => hthird (.inr h))]
        have hZl := upd_len X.1 X.2 j c t
        simp only [laws_FnHrdRises.j3, Bool.false_eq_true, if_false, HI, Option.bind_some]
        rw [ep4, if_pos rfl, ep3]
        simp only
        rw [← hcomm, caInts_self _ (by omega) _ (by omega), Option.bind_some, if_pos rfl, caInts_self _ (by omega) _ (by omega), Option.bind_some]
      · have hw1 : ¬ YtaohaebgpbagmaaHrdHear.hearB X.1 X.2 m c t = true := fun h => by
          obtain ⟨u1, u2, u3, u4⟩ := hear_parts h
          exact hw (hear_of v1 (by omega) u3 u4)
        rw [hear_bad _ _ _ _ _ hw1, hear_bad _ _ _ _ _ hw]
        simp only [if_true, laws_FnHrdRises.j3]
        rfl
    by_cases he : rd X.1 (i : Int) = rd bs (i : Int)
    · rw [if_pos he, if_pos (by omega), if_pos (by omega), decide_eq_false (hge.2 he)]
      exact J2
    · rw [if_neg he]
      exact J2
  · rw [hear_bad _ _ _ _ _ hv]
    simp only
    rw [caInts_self _ (by simp) _ (by simp), Option.bind_some, if_pos rfl, Option.bind_some]
    simp only [laws_FnHrdRises.j1, Bool.not_true, Bool.false_eq_true, if_false, if_true]
    rw [if_pos (by rfl), new_two]
    simp only [Option.bind_some]
    rw [implHrd_eq _ _ _ (by omega)]
    rfl

end Go.Proofs.Ytaohaebgpbagmaa.Pure
