/- The pure statement of FnInOnce: what a hearer takes as fresh rises from hearing to hearing, and nothing is fresh twice. Conditions: bytes. -/
import Derived.Test.YtaohaebgpbagmaaPFnInOncex6
import Derived.Test.YtaohaebgpbagmaaPl
set_option linter.unusedSimpArgs false
set_option linter.unusedVariables false
namespace Go.Proofs.Ytaohaebgpbagmaa.Pure
open Go.RowKit Go.Proofs.Ytaohaebgpbagmaa.PFnInOnce Go.Proofs.YtaohaebgpbagmaaW.PrintWords Go.Proofs.YtaohaebgpbagmaaW.PrintLast Go.Proofs.YtaohaebgpbagmaaW.PrintMore Go.Proofs.YtaohaebgpbagmaaPl

namespace FnInOnce_
theorem l1In_eq (a b c : Int) : spec_l1In.f a b c = some (decide (b ≤ a ∧ a ≤ c)) := by
  unfold spec_l1In.f
  by_cases h1 : b ≤ a
  · rw [if_pos h1]
    simp [h1]
  · rw [if_neg h1]
    simp [h1]
open Go.Proofs.YtaohaebgpbagmaaInFresh
theorem specIn_eq (a b c : Int) : spec_InOk.f a b c = some (inB a b c) := by
  unfold spec_InOk.f inB
  simp only [Option.bind_some, l1In_eq]
  by_cases h1 : 0 ≤ a ∧ a ≤ 60000 <;> by_cases h2 : 0 ≤ b ∧ b ≤ 200 <;> simp [h1, h2]
theorem less_eq (a b c d e f : Int) : spec_l12Less.f a b c d e f = some (decide (lex3 a b c d e f < 0)) := by
  unfold spec_l12Less.f lex3 cmp3
  by_cases h1 : a < d
  · simp [h1, show ¬ a = d by omega]
  · by_cases h2 : d < a
    · simp [h1, h2, show ¬ a = d by omega]
    · obtain rfl : a = d := by omega
      by_cases h3 : b < e
      · simp [h3, show ¬ b = e by omega]
      · by_cases h4 : e < b
        · simp [h3, h4, show ¬ b = e by omega]
        · obtain rfl : b = e := by omega
          by_cases h5 : c < f
          · simp [h5]
          · by_cases h6 : f < c
            · simp [h5, h6]
            · simp [h5, h6]
theorem specFresh_eq (i0 i1 i2 b e s : Int) : spec_InFresh.f i0 i1 i2 b e s = some (freshB i0 i1 i2 b e s) := by
  unfold spec_InFresh.f freshB mayB
  rw [specIn_eq]
  simp only [Option.bind_some, l1In_eq, less_eq]
  by_cases h0 : inB i0 i1 i2 = true
  · by_cases h1 : 1 ≤ b ∧ b ≤ 60000 <;> by_cases h2 : 0 ≤ e ∧ e ≤ 200 <;> by_cases h3 : 0 ≤ s ∧ s ≤ 15 <;> simp [h0, h1, h2, h3]
  · simp [h0]
theorem implFresh_eq (i0 i1 i2 b e s : Int) : impl_InFresh.f i0 i1 i2 b e s = some (freshB i0 i1 i2 b e s) := rfl
theorem implIn_eq (a b c : Int) : impl_InOk.f a b c = some (inB a b c) := by
  unfold impl_InOk.f inB
  by_cases h1 : 0 ≤ a <;> by_cases h2 : a ≤ 60000 <;> by_cases h3 : 0 ≤ b <;> by_cases h4 : b ≤ 200 <;> by_cases h5 : 0 ≤ c <;> simp [h1, h2, h3, h4, h5]
def hear (i0 i1 i2 b e s : Int) : Int × Int × Int := if inB i0 i1 i2 = true then (if freshB i0 i1 i2 b e s = true then (b, e, wrap64 (s + 1)) else (i0, i1, i2)) else (0, 0, 0)
theorem specHear_eq (i0 i1 i2 b e s : Int) : spec_InHear.f i0 i1 i2 b e s = some (hear i0 i1 i2 b e s) := by
  unfold spec_InHear.f hear
  rw [specIn_eq, specFresh_eq]
  simp only [Option.bind_some]
  by_cases h0 : inB i0 i1 i2 = true <;> by_cases h1 : freshB i0 i1 i2 b e s = true <;> simp [h0, h1]
theorem implHear_eq (i0 i1 i2 b e s : Int) : impl_InHear.f i0 i1 i2 b e s = some (hear i0 i1 i2 b e s) := by
  unfold impl_InHear.f hear
  rw [implIn_eq, implFresh_eq]
  simp only [Option.bind_some]
  by_cases h0 : inB i0 i1 i2 = true <;> by_cases h1 : freshB i0 i1 i2 b e s = true <;> simp [h0, h1]
def Bytes (l : List Int) : Prop := (∀ x ∈ l, (Lit.int .u8 x).wf = true) ∧ l.length ≤ 2000
theorem pick_ok {l : List Int} (hl : Bytes l) {p : Int} (hp0 : 0 ≤ p) (hp1 : p ≤ 1000000) {n : Int} (hn0 : 1 ≤ n) (k : Nat) (hk : 1 ≤ k) :
    ∃ r, spec_l30Rd_pick.f k l p n = some (r, p + 1) ∧ 0 ≤ r ∧ r < n := by
  obtain ⟨k, rfl⟩ : ∃ m, k = m + 1 := ⟨k - 1, by omega⟩
  obtain ⟨hb, hlen⟩ := hl
  unfold spec_l30Rd_pick.f
  rw [if_neg (by omega), wrap_in (by omega) (by omega)]
  simp only [spec_l30Rd_pick.j0]
  by_cases h0 : l.length = 0
  · rw [if_pos (by simp [h0])]
    exact ⟨0, rfl, by omega, by omega⟩
  · rw [if_neg (by simpa using h0), show wrap64 (p + 1 - 1) = p by rw [wrap_in (by omega) (by omega)]; omega]
    by_cases h1 : p < (l.length : Int)
    · rw [if_pos h1, if_pos hp0, if_neg (by omega), wrap_in (by have := rd_u8 hb p; omega) (by have := rd_u8 hb p; omega)]
      have := rd_u8 hb p
      exact ⟨_, rfl, Int.tmod_nonneg _ (by omega), Int.tmod_lt_of_pos _ (by omega)⟩
    · rw [if_neg h1, if_neg (by omega)]
      have hpos : (0 : Int) < (l.length : Int) := by omega
      have m1 : 0 ≤ Int.tmod p (l.length : Int) ∧ Int.tmod p (l.length : Int) < (l.length : Int) := ⟨Int.tmod_nonneg _ hp0, Int.tmod_lt_of_pos _ hpos⟩
      have e7 : wrap64 (p * 7) = p * 7 := wrap_in (by omega) (by omega)
      have e73 : wrap64 (p * 7 + 3) = p * 7 + 3 := wrap_in (by omega) (by omega)
      have m2 : 0 ≤ Int.tmod (p * 7 + 3) (l.length : Int) ∧ Int.tmod (p * 7 + 3) (l.length : Int) < (l.length : Int) := ⟨Int.tmod_nonneg _ (by omega), Int.tmod_lt_of_pos _ hpos⟩
      rw [e7, e73, if_pos m1.1, if_pos m1.2, if_pos m2.1, if_pos m2.2, if_neg (by omega)]
      have b1 := rd_u8 hb (Int.tmod p (l.length : Int))
      have b2 := rd_u8 hb (Int.tmod (p * 7 + 3) (l.length : Int))
      have d0 : 0 ≤ Int.tdiv p (l.length : Int) ∧ Int.tdiv p (l.length : Int) ≤ p := ⟨Int.tdiv_nonneg hp0 (by omega), Int.tdiv_le_self _ hp0⟩
      generalize rd l (Int.tmod p (l.length : Int)) = a at *
      generalize rd l (Int.tmod (p * 7 + 3) (l.length : Int)) = b at *
      generalize Int.tdiv p (l.length : Int) = d at *
      have s1 : wrap64 (wrap64 a * 131) = a * 131 := by rw [wrap_in (x := a) (by omega) (by omega)]; exact wrap_in (by omega) (by omega)
      have s2 : wrap64 (wrap64 b * 1117) = b * 1117 := by rw [wrap_in (x := b) (by omega) (by omega)]; exact wrap_in (by omega) (by omega)
      have s3 : wrap64 (p * 29) = p * 29 := wrap_in (by omega) (by omega)
      have s4 : wrap64 (wrap64 d * 53) = d * 53 := by rw [wrap_in (x := d) (by omega) (by omega)]; exact wrap_in (by omega) (by omega)
      rw [s1, s2, s3, s4, wrap_in (x := a * 131 + b * 1117) (by omega) (by omega), wrap_in (x := a * 131 + b * 1117 + p * 29) (by omega) (by omega), wrap_in (x := a * 131 + b * 1117 + p * 29 + d * 53) (by omega) (by omega)]
      have hx0 : 0 ≤ a * 131 + b * 1117 + p * 29 + d * 53 := by omega
      have hx1 : a * 131 + b * 1117 + p * 29 + d * 53 < 1000000000 := by omega
      generalize a * 131 + b * 1117 + p * 29 + d * 53 = x at *
      have q0 : 0 ≤ Int.tdiv x 64 ∧ Int.tdiv x 64 ≤ x := ⟨Int.tdiv_nonneg hx0 (by omega), Int.tdiv_le_self _ hx0⟩
      rw [wrap_in (x := Int.tdiv x 64) (by omega) (by omega)]
      have := xor_nonneg x (Int.tdiv x 64) hx0 (by omega) q0.1 (by omega)
      exact ⟨_, rfl, Int.tmod_nonneg _ this.1, Int.tmod_lt_of_pos _ (by omega)⟩
theorem open_ok (l : List Int) (hl : ∀ x ∈ l, (Lit.int .u8 x).wf = true) : ∃ m, spec_l30Open.f l = some (m, 0) ∧ Bytes m := by
  unfold spec_l30Open.f
  by_cases h : (l.length : Int) > 2000
  · rw [if_pos h, if_pos (by omega)]
    exact ⟨_, rfl, fun x hx => hl x (List.mem_of_mem_take hx), by rw [List.length_take]; omega⟩
  · rw [if_neg h]
    exact ⟨_, rfl, hl, by omega⟩
theorem l31In_ok {s : List Int} (hs : Bytes s) {p : Int} (hp0 : 0 ≤ p) (hp1 : p ≤ 900000) (k : Nat) (hk : 1 ≤ k) : ∃ a b c q, spec_l31In.f k s p = some (a, b, c, q) ∧ p ≤ q ∧ q ≤ p + 10 := by
  unfold spec_l31In.f
  obtain ⟨a, ea, ha⟩ := pick_ok hs hp0 (by omega) (n := 4) (by omega) k hk
  obtain ⟨b, eb, hb⟩ := pick_ok hs (p := p + 1) (by omega) (by omega) (n := 3) (by omega) k hk
  obtain ⟨c, ec, hc⟩ := pick_ok hs (p := p + 1 + 1) (by omega) (by omega) (n := 17) (by omega) k hk
  obtain ⟨d, ed, hd⟩ := pick_ok hs (p := p + 1 + 1 + 1) (by omega) (by omega) (n := 5) (by omega) k hk
  obtain ⟨e, ee, he⟩ := pick_ok hs (p := p + 1 + 1 + 1 + 1) (by omega) (by omega) (n := 16) (by omega) k hk
  obtain ⟨f, ef, hf⟩ := pick_ok hs (p := p + 1 + 1 + 1 + 1 + 1) (by omega) (by omega) (n := 3) (by omega) k hk
  obtain ⟨g, eg, hg⟩ := pick_ok hs (p := p + 1 + 1 + 1 + 1 + 1) (by omega) (by omega) (n := 2) (by omega) k hk
  rw [ea]
  simp only [Option.bind_some]
  rw [eb]
  simp only [Option.bind_some]
  rw [ec]
  simp only [Option.bind_some]
  rw [ed]
  simp only [Option.bind_some]
  rw [if_pos hd.1, if_pos (by simpa using hd.2), ee]
  simp only [Option.bind_some]
  by_cases h0 : e = 0
  · rw [if_pos h0, ef]
    simp only [Option.bind_some]
    rw [if_pos hf.1, if_pos (by simpa using hf.2)]
    exact ⟨_, _, _, _, rfl, by omega, by omega⟩
  · rw [if_neg h0]
    by_cases h1 : e = 1
    · rw [if_pos h1, ef]
      simp only [Option.bind_some]
      rw [if_pos hf.1, if_pos (by simpa using hf.2)]
      exact ⟨_, _, _, _, rfl, by omega, by omega⟩
    · rw [if_neg h1]
      by_cases h2 : e = 2
      · rw [if_pos h2, eg]
        simp only [Option.bind_some]
        rw [if_pos hg.1, if_pos (by simpa using hg.2)]
        exact ⟨_, _, _, _, rfl, by omega, by omega⟩
      · rw [if_neg h2]
        exact ⟨_, _, _, _, rfl, by omega, by omega⟩
theorem l31Num_ok {s : List Int} (hs : Bytes s) {p : Int} (hp0 : 0 ≤ p) (hp1 : p ≤ 800000) (k : Nat) (hk : 1 ≤ k) : ∃ r, spec_l31Num.f k s p = some r := by
  unfold spec_l31Num.f
  obtain ⟨x, y, z, q, e0, q1, q2⟩ := l31In_ok hs hp0 (by omega) k hk
  obtain ⟨a, ea, ha⟩ := pick_ok hs (p := q) (by omega) (by omega) (n := 5) (by omega) k hk
  obtain ⟨b, eb, hb⟩ := pick_ok hs (p := q + 1) (by omega) (by omega) (n := 5) (by omega) k hk
  obtain ⟨c, ec, hc⟩ := pick_ok hs (p := q + 1 + 1) (by omega) (by omega) (n := 6) (by omega) k hk
  obtain ⟨d, ed, hd⟩ := pick_ok hs (p := q + 1 + 1 + 1) (by omega) (by omega) (n := 12) (by omega) k hk
  obtain ⟨e, ee, he⟩ := pick_ok hs (p := q + 1 + 1 + 1 + 1) (by omega) (by omega) (n := 3) (by omega) k hk
  rw [e0]
  simp only [Option.bind_some]
  rw [ea]
  simp only [Option.bind_some]
  rw [if_pos ha.1, if_pos (by simpa using ha.2), eb]
  simp only [Option.bind_some]
  rw [if_pos hb.1, if_pos (by simpa using hb.2), ec]
  simp only [Option.bind_some]
  rw [if_pos hc.1, if_pos (by simpa using hc.2), ed]
  simp only [Option.bind_some]
  by_cases h0 : d = 0
  · rw [if_pos h0, ee]
    simp only [Option.bind_some]
    rw [if_pos he.1, if_pos (by simpa using he.2)]
    exact ⟨_, rfl⟩
  · rw [if_neg h0]
    exact ⟨_, rfl⟩
theorem drawInHear_ok (l : List Int) (hl : ∀ x ∈ l, (Lit.int .u8 x).wf = true) (k : Nat) (hk : 1 ≤ k) : ∃ r, spec_DrawInHear.f k l = some r := by
  obtain ⟨m, em, hm⟩ := open_ok l hl
  obtain ⟨r, er⟩ := l31Num_ok hm (p := 0) (by omega) (by omega) k hk
  unfold spec_DrawInHear.f
  rw [em]
  simp only [Option.bind_some]
  rw [er]
  exact ⟨_, rfl⟩
def Inv (h0 h1 h2 last : Int) : Prop := (h0 = 0 ∧ h1 = 0 ∧ h2 = 0 ∧ last = -1) ∨ (1 ≤ h0 ∧ h0 ≤ 3 ∧ 0 ≤ h1 ∧ h1 ≤ 3 ∧ 1 ≤ h2 ∧ h2 ≤ 16 ∧ last = h0 * 10000 + h1 * 100 + h2 - 1)
theorem fresh_iff {h0 h1 h2 last b e s : Int} (hi : Inv h0 h1 h2 last) (hb : 1 ≤ b ∧ b ≤ 3) (he : 0 ≤ e ∧ e ≤ 3) (hs : 0 ≤ s ∧ s ≤ 15) : freshB h0 h1 h2 b e s = decide (last < b * 10000 + e * 100 + s) := by
  unfold freshB mayB inB lex3 cmp3
  unfold Inv at hi
  have i1 : (0 ≤ h0 ∧ h0 ≤ 60000) ∧ (0 ≤ h1 ∧ h1 ≤ 200) ∧ 0 ≤ h2 ∧ h2 ≤ 16 := by omega
  by_cases c1 : b < h0
  · simp [c1, show ¬ last < b * 10000 + e * 100 + s by omega]
  · by_cases c2 : h0 < b
    · simp [c1, c2, show last < b * 10000 + e * 100 + s by omega]
      omega
    · by_cases c3 : e < h1
      · simp [c1, c2, c3, show ¬ last < b * 10000 + e * 100 + s by omega]
      · by_cases c4 : h1 < e
        · simp [c1, c2, c3, c4, show last < b * 10000 + e * 100 + s by omega]
          omega
        · by_cases c5 : s < h2
          · simp [c1, c2, c3, c4, c5, show ¬ last < b * 10000 + e * 100 + s by omega]
          · by_cases c6 : h2 < s
            · simp [c1, c2, c3, c4, c5, c6, show last < b * 10000 + e * 100 + s by omega]
              omega
            · simp [c1, c2, c3, c4, c5, c6, show last < b * 10000 + e * 100 + s by omega]
              omega
theorem inv_in {h0 h1 h2 last : Int} (hi : Inv h0 h1 h2 last) : inB h0 h1 h2 = true := by
  unfold Inv at hi
  unfold inB
  have : 0 ≤ h0 ∧ h0 ≤ 60000 ∧ 0 ≤ h1 ∧ h1 ≤ 200 ∧ 0 ≤ h2 ∧ h2 ≤ 16 := by omega
  simp [this]
theorem end_ok {h0 h1 h2 last : Int} (hi : Inv h0 h1 h2 last) : freshB h0 h1 h2 9 0 3 = true := by
  have := inv_in hi
  unfold Inv at hi
  unfold freshB mayB
  have c : lex3 9 0 3 h0 h1 h2 = 1 := by
    unfold lex3 cmp3
    simp [show ¬ 9 < h0 by omega, show h0 < 9 by omega]
  rw [this, c]
  decide
theorem once_loop (l : List Int) (hw : ∀ x ∈ l, (Lit.int .u8 x).wf = true) (hl : l.length ≤ 300) : ∀ (d k i : Nat) (last h0 h1 h2 : Int), i + d = l.length → d < k → Inv h0 h1 h2 last → laws_FnInOnce.l0 k l last (i : Int) h0 h1 h2 = some true := by
  intro d
  have E : ∀ (i k : Nat) (last h0 h1 h2 : Int), ¬ (i : Int) + 1 < (l.length : Int) → i ≤ l.length → 0 < k → Inv h0 h1 h2 last → laws_FnInOnce.l0 k l last (i : Int) h0 h1 h2 = some true := by
    intro i k last h0 h1 h2 hn hil hk hi
    obtain ⟨k, rfl⟩ : ∃ m, k = m + 1 := ⟨k - 1, by omega⟩
    simp only [laws_FnInOnce.l0]
    rw [wrap_in (x := (i : Int) + 1) (by omega) (by omega), if_neg hn, implIn_eq, inv_in hi]
    simp only [Option.bind_some, if_true, implHear_eq, implFresh_eq]
    unfold hear
    rw [if_pos (inv_in hi), if_pos (end_ok hi), wrap_in (x := (3 : Int) + 1) (by omega) (by omega)]
    decide
  induction d with
  | zero =>
    intro k i last h0 h1 h2 hd hk hi
    exact E i k last h0 h1 h2 (by omega) (by omega) (by omega) hi
  | succ d ih =>
    intro k i last h0 h1 h2 hd hk hi
    by_cases hn : (i : Int) + 1 < (l.length : Int)
    · obtain ⟨k, rfl⟩ : ∃ m, k = m + 1 := ⟨k - 1, by omega⟩
      simp only [laws_FnInOnce.l0]
      have ra := rd_u8 hw (i : Int)
      have rb := rd_u8 hw ((i + 1 : Nat) : Int)
      have W1 : wrap64 ((i : Int) + 1) = ((i + 1 : Nat) : Int) := wrap_nat (by omega)
      rw [W1, if_pos (by omega), if_pos (by omega), if_pos (by omega), if_pos (by omega)]
      generalize rd l (i : Int) = a at *
      generalize rd l ((i + 1 : Nat) : Int) = b at *
      rw [wrap_in (x := a) (by omega) (by omega), wrap_in (x := b) (by omega) (by omega)]
      have ma : 0 ≤ Int.tmod a 3 ∧ Int.tmod a 3 < 3 := ⟨Int.tmod_nonneg _ ra.1, Int.tmod_lt_of_pos _ (by omega)⟩
      have mb : 0 ≤ Int.tmod b 16 ∧ Int.tmod b 16 < 16 := ⟨Int.tmod_nonneg _ rb.1, Int.tmod_lt_of_pos _ (by omega)⟩
      have da : 0 ≤ Int.tdiv a 64 ∧ Int.tdiv a 64 ≤ 3 := by
        rw [Int.tdiv_eq_ediv_of_nonneg ra.1]
        omega
      generalize Int.tmod a 3 = x at *
      generalize Int.tmod b 16 = s at *
      generalize Int.tdiv a 64 = e at *
      rw [wrap_in (x := 1 + x) (by omega) (by omega), wrap_in (x := e) (by omega) (by omega), wrap_in (x := (1 + x) * 10000) (by omega) (by omega), wrap_in (x := e * 100) (by omega) (by omega), wrap_in (x := (1 + x) * 10000 + e * 100) (by omega) (by omega), wrap_in (x := (1 + x) * 10000 + e * 100 + s) (by omega) (by omega)]
      have F := fresh_iff hi (b := 1 + x) (e := e) (s := s) (by omega) da (by omega)
      simp only [implFresh_eq, implHear_eq, Option.bind_some]
      unfold hear
      rw [if_pos (inv_in hi)]
      by_cases hf : last < (1 + x) * 10000 + e * 100 + s
      · rw [decide_eq_true hf] at F
        rw [F, if_pos rfl, if_neg (by omega), if_pos rfl]
        simp only
        rw [wrap_in (x := s + 1) (by omega) (by omega)]
        exact ih k (i + 1) _ _ _ _ (by omega) (by omega) (Or.inr (by omega))
      · rw [decide_eq_false hf] at F
        rw [F, if_neg (by simp), if_neg (by omega), if_neg (by simp)]
        exact ih k (i + 1) _ _ _ _ (by omega) (by omega) hi
    · exact E i k last h0 h1 h2 hn (by omega) (by omega) hi
end FnInOnce_
open FnInOnce_
open Go.Proofs.YtaohaebgpbagmaaInFresh
theorem FnInOnce : laws_FnInOnce.Pure := by
  intro l l' hm hw hm' hw'
  obtain ⟨K, hK⟩ : ∃ K : Nat, 400 ≤ K := ⟨400, Nat.le_refl _⟩
  refine ⟨K + 1 + 1, ?_⟩
  have N' : laws_FnInOnce.j0 (K + 1 + 1) l l' true = some true := by
    simp only [laws_FnInOnce.j0]
    rw [if_pos trivial]
  unfold laws_FnInOnce.f
  by_cases h : (l.length : Int) > 1048576
  · rw [if_pos h]
    exact N'
  · rw [if_neg h]
    by_cases h' : (l'.length : Int) > 300
    · rw [decide_eq_true h']
      exact N'
    · rw [decide_eq_false h']
      simp only [laws_FnInOnce.j0]
      obtain ⟨⟨i0, i1, i2, b, e, s⟩, er⟩ := drawInHear_ok l hw (K + 1) (by omega)
      rw [if_neg (by simp), er]
      simp only [Option.bind_some, implHear_eq, specHear_eq, implFresh_eq, specFresh_eq, beq_self_eq_true, Bool.not_true, Bool.or_self, Bool.false_eq_true, if_false, bne_self_eq_false, laws_FnInOnce.j1, specIn_eq]
      by_cases hin : inB i0 i1 i2 = true
      · rw [if_pos hin]
        exact once_loop l' hw' (by omega) l'.length K 0 (-1) 0 0 0 (by omega) (by omega) (Or.inl ⟨rfl, rfl, rfl, rfl⟩)
      · rw [if_neg hin]
        unfold hear
        rw [if_neg hin]
        decide

end Go.Proofs.Ytaohaebgpbagmaa.Pure
