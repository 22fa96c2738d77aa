/- The pure statement of FnOutOnce: the numbers of a drawn half, given away one behind the other, rise, and are as many as there are left. Conditions: bytes. -/
import Derived.Test.YtaohaebgpbagmaaPFnOutOncex5
import Derived.Test.YtaohaebgpbagmaaPl
import Derived.Test.YtaohaebgpbagmaaOutNext
set_option linter.unusedSimpArgs false
set_option linter.unusedVariables false
namespace Go.Proofs.Ytaohaebgpbagmaa.Pure
open Go.RowKit Go.Proofs.Ytaohaebgpbagmaa.PFnOutOnce Go.Proofs.YtaohaebgpbagmaaW.PrintWords Go.Proofs.YtaohaebgpbagmaaW.PrintLast Go.Proofs.YtaohaebgpbagmaaW.PrintMore Go.Proofs.YtaohaebgpbagmaaPl

namespace FnOutOnce_
theorem l1In_eq (a b c : Int) : spec_l1In.f a b c = some (decide (b ≤ a ∧ a ≤ c)) := by
  unfold spec_l1In.f
  by_cases h1 : b ≤ a
  · rw [if_pos h1]
    simp [h1]
  · rw [if_neg h1]
    simp [h1]
def outB (a b c d : Int) : Bool := decide ((1 ≤ a ∧ a ≤ 60000) ∧ (0 ≤ b ∧ b ≤ 60000) ∧ (0 ≤ c ∧ c ≤ 200) ∧ (0 ≤ d ∧ d ≤ 15))
theorem specOut_eq (a b c d : Int) : spec_OutOk.f a b c d = some (outB a b c d) := by
  unfold spec_OutOk.f outB
  simp only [Option.bind_some, l1In_eq]
  by_cases h1 : 1 ≤ a ∧ a ≤ 60000 <;> by_cases h2 : 0 ≤ b ∧ b ≤ 60000 <;> by_cases h3 : 0 ≤ c ∧ c ≤ 200 <;> simp [h1, h2, h3]
theorem implOut_eq (a b c d : Int) : impl_OutOk.f a b c d = some (outB a b c d) := by
  unfold impl_OutOk.f outB
  by_cases h1 : 1 ≤ a <;> by_cases h2 : a ≤ 60000 <;> by_cases h3 : 0 ≤ b <;> by_cases h4 : b ≤ 60000 <;> by_cases h5 : 0 ≤ c <;> by_cases h6 : c ≤ 200 <;> by_cases h7 : 0 ≤ d <;> simp [h1, h2, h3, h4, h5, h6, h7]
def Bytes (l : List Int) : Prop := (∀ x ∈ l, (Lit.int .u8 x).wf = true) ∧ l.length ≤ 2000
theorem pick_ok {l : List Int} (hl : Bytes l) {p : Int} (hp0 : 0 ≤ p) (hp1 : p ≤ 1000000) {n : Int} (hn0 : 1 ≤ n) (k : Nat) (hk : 1 ≤ k) :
    ∃ r, spec_l30Rd_pick.f k l p n = some (r, p + 1) ∧ 0 ≤ r ∧ r < n := by
  obtain ⟨k, rfl⟩ : ∃ m, k = m + 1 := ⟨k - 1, by omega⟩
  obtain ⟨hb, hlen⟩ := hl
  unfold spec_l30Rd_pick.f
  rw [if_neg (by omega), wrap_in (by omega) (by omega)]
  simp only [spec_l30Rd_pick.j0]
  by_cases h0 : l.length = 0
  · rw [if_pos (by simp [h0])]
    exact ⟨0, rfl, by omega, by omega⟩
  · rw [if_neg (by simpa using h0), show wrap64 (p + 1 - 1) = p by rw [wrap_in (by omega) (by omega)]; omega]
    by_cases h1 : p < (l.length : Int)
    · rw [if_pos h1, if_pos hp0, if_neg (by omega), wrap_in (by have := rd_u8 hb p; omega) (by have := rd_u8 hb p; omega)]
      have := rd_u8 hb p
      exact ⟨_, rfl, Int.tmod_nonneg _ (by omega), Int.tmod_lt_of_pos _ (by omega)⟩
    · rw [if_neg h1, if_neg (by omega)]
      have hpos : (0 : Int) < (l.length : Int) := by omega
      have m1 : 0 ≤ Int.tmod p (l.length : Int) ∧ Int.tmod p (l.length : Int) < (l.length : Int) := ⟨Int.tmod_nonneg _ hp0, Int.tmod_lt_of_pos _ hpos⟩
      have e7 : wrap64 (p * 7) = p * 7 := wrap_in (by omega) (by omega)
      have e73 : wrap64 (p * 7 + 3) = p * 7 + 3 := wrap_in (by omega) (by omega)
      have m2 : 0 ≤ Int.tmod (p * 7 + 3) (l.length : Int) ∧ Int.tmod (p * 7 + 3) (l.length : Int) < (l.length : Int) := ⟨Int.tmod_nonneg _ (by omega), Int.tmod_lt_of_pos _ hpos⟩
      rw [e7, e73, if_pos m1.1, if_pos m1.2, if_pos m2.1, if_pos m2.2, if_neg (by omega)]
      have b1 := rd_u8 hb (Int.tmod p (l.length : Int))
      have b2 := rd_u8 hb (Int.tmod (p * 7 + 3) (l.length : Int))
      have d0 : 0 ≤ Int.tdiv p (l.length : Int) ∧ Int.tdiv p (l.length : Int) ≤ p := ⟨Int.tdiv_nonneg hp0 (by omega), Int.tdiv_le_self _ hp0⟩
      generalize rd l (Int.tmod p (l.length : Int)) = a at *
      generalize rd l (Int.tmod (p * 7 + 3) (l.length : Int)) = b at *
      generalize Int.tdiv p (l.length : Int) = d at *
      have s1 : wrap64 (wrap64 a * 131) = a * 131 := by rw [wrap_in (x := a) (by omega) (by omega)]; exact wrap_in (by omega) (by omega)
      have s2 : wrap64 (wrap64 b * 1117) = b * 1117 := by rw [wrap_in (x := b) (by omega) (by omega)]; exact wrap_in (by omega) (by omega)
      have s3 : wrap64 (p * 29) = p * 29 := wrap_in (by omega) (by omega)
      have s4 : wrap64 (wrap64 d * 53) = d * 53 := by rw [wrap_in (x := d) (by omega) (by omega)]; exact wrap_in (by omega) (by omega)
      rw [s1, s2, s3, s4, wrap_in (x := a * 131 + b * 1117) (by omega) (by omega), wrap_in (x := a * 131 + b * 1117 + p * 29) (by omega) (by omega), wrap_in (x := a * 131 + b * 1117 + p * 29 + d * 53) (by omega) (by omega)]
      have hx0 : 0 ≤ a * 131 + b * 1117 + p * 29 + d * 53 := by omega
      have hx1 : a * 131 + b * 1117 + p * 29 + d * 53 < 1000000000 := by omega
      generalize a * 131 + b * 1117 + p * 29 + d * 53 = x at *
      have q0 : 0 ≤ Int.tdiv x 64 ∧ Int.tdiv x 64 ≤ x := ⟨Int.tdiv_nonneg hx0 (by omega), Int.tdiv_le_self _ hx0⟩
      rw [wrap_in (x := Int.tdiv x 64) (by omega) (by omega)]
      have := xor_nonneg x (Int.tdiv x 64) hx0 (by omega) q0.1 (by omega)
      exact ⟨_, rfl, Int.tmod_nonneg _ this.1, Int.tmod_lt_of_pos _ (by omega)⟩
theorem open_ok (l : List Int) (hl : ∀ x ∈ l, (Lit.int .u8 x).wf = true) : ∃ m, spec_l30Open.f l = some (m, 0) ∧ Bytes m := by
  unfold spec_l30Open.f
  by_cases h : (l.length : Int) > 2000
  · rw [if_pos h, if_pos (by omega)]
    exact ⟨_, rfl, fun x hx => hl x (List.mem_of_mem_take hx), by rw [List.length_take]; omega⟩
  · rw [if_neg h]
    exact ⟨_, rfl, hl, by omega⟩
theorem l31Boot_ok {s : List Int} (hs : Bytes s) {p : Int} (hp0 : 0 ≤ p) (hp1 : p ≤ 900000) (k : Nat) (hk : 1 ≤ k) : ∃ a, spec_l31Boot.f k s p = some (a, p + 1) := by
  unfold spec_l31Boot.f
  obtain ⟨a, ea, ha⟩ := pick_ok hs hp0 (by omega) (n := 8) (by omega) k hk
  simp only [Option.bind_some]
  rw [ea]
  simp only [Option.bind_some]
  rw [if_pos ha.1, if_pos (by simpa using ha.2)]
  exact ⟨_, rfl⟩
theorem l31Out_ok {s : List Int} (hs : Bytes s) {p : Int} (hp0 : 0 ≤ p) (hp1 : p ≤ 800000) (k : Nat) (hk : 1 ≤ k) : ∃ a b c d q, spec_l31Out.f k s p = some (a, b, c, d, q) ∧ p ≤ q ∧ q ≤ p + 10 := by
  unfold spec_l31Out.f
  obtain ⟨a, ea, ha⟩ := pick_ok hs hp0 (by omega) (n := 3) (by omega) k hk
  obtain ⟨b, eb, hb⟩ := pick_ok hs (p := p + 1) (by omega) (by omega) (n := 4) (by omega) k hk
  obtain ⟨c, ec, hc⟩ := pick_ok hs (p := p + 1 + 1) (by omega) (by omega) (n := 5) (by omega) k hk
  obtain ⟨d, ed, hd⟩ := pick_ok hs (p := p + 1 + 1 + 1) (by omega) (by omega) (n := 16) (by omega) k hk
  obtain ⟨e, ee, he⟩ := pick_ok hs (p := p + 1 + 1 + 1 + 1) (by omega) (by omega) (n := 5) (by omega) k hk
  obtain ⟨f, ef, hf⟩ := pick_ok hs (p := p + 1 + 1 + 1 + 1 + 1) (by omega) (by omega) (n := 16) (by omega) k hk
  obtain ⟨u, eu⟩ := l31Boot_ok hs (p := p + 1 + 1 + 1 + 1 + 1 + 1) (by omega) (by omega) k hk
  obtain ⟨v, ev, hv⟩ := pick_ok hs (p := p + 1 + 1 + 1 + 1 + 1 + 1) (by omega) (by omega) (n := 3) (by omega) k hk
  obtain ⟨x, ex, hx⟩ := pick_ok hs (p := p + 1 + 1 + 1 + 1 + 1 + 1) (by omega) (by omega) (n := 2) (by omega) k hk
  rw [ea]
  simp only [Option.bind_some]
  rw [eb]
  simp only [Option.bind_some]
  rw [ec]
  simp only [Option.bind_some]
  rw [if_pos hc.1, if_pos (by simpa using hc.2), ed]
  simp only [Option.bind_some]
  rw [ee]
  simp only [Option.bind_some]
  rw [if_pos he.1, if_pos (by simpa using he.2), ef]
  simp only [Option.bind_some]
  by_cases h0 : f = 0
  · rw [if_pos h0, eu]
    exact ⟨_, _, _, _, _, rfl, by omega, by omega⟩
  rw [if_neg h0]
  by_cases h1 : f = 1
  · rw [if_pos h1, ev]
    simp only [Option.bind_some]
    rw [if_pos hv.1, if_pos (by simpa using hv.2)]
    exact ⟨_, _, _, _, _, rfl, by omega, by omega⟩
  rw [if_neg h1]
  by_cases h2 : f = 2
  · rw [if_pos h2, ex]
    simp only [Option.bind_some]
    rw [if_pos hx.1, if_pos (by simpa using hx.2)]
    exact ⟨_, _, _, _, _, rfl, by omega, by omega⟩
  rw [if_neg h2]
  by_cases h3 : f = 3
  · rw [if_pos h3, ex]
    simp only [Option.bind_some]
    rw [if_pos hx.1, if_pos (by simpa using hx.2)]
    exact ⟨_, _, _, _, _, rfl, by omega, by omega⟩
  rw [if_neg h3]
  exact ⟨_, _, _, _, _, rfl, by omega, by omega⟩
theorem draw_ok (l : List Int) (hl : ∀ x ∈ l, (Lit.int .u8 x).wf = true) (k : Nat) (hk : 1 ≤ k) : ∃ a b c d, spec_DrawOutNext.f k l = some (a, b, c, d) := by
  obtain ⟨m, em, hm⟩ := open_ok l hl
  obtain ⟨a, b, c, d, q, e, _⟩ := l31Out_ok hm (p := 0) (by omega) (by omega) k hk
  unfold spec_DrawOutNext.f
  rw [em]
  simp only [Option.bind_some]
  rw [e]
  exact ⟨_, _, _, _, rfl⟩
theorem nextI (a b c d : Int) : impl_OutNext.f a b c d = some (YtaohaebgpbagmaaOutNext.nextV a b c d) := rfl
theorem nextS (a b c d : Int) : spec_OutNext.f a b c d = some (YtaohaebgpbagmaaOutNext.nextV a b c d) := rfl
theorem next_no (a b c d : Int) (h : outB a b c d = false) : YtaohaebgpbagmaaOutNext.nextV a b c d = (a, b, c, d, 0, 0, false) := by
  have h' : YtaohaebgpbagmaaOutNext.outB a b c d = false := h
  unfold YtaohaebgpbagmaaOutNext.nextV
  rw [h', if_neg (by simp)]
theorem next_end (a b d : Int) : YtaohaebgpbagmaaOutNext.nextV a b 200 d = (a, b, 200, d, 0, 0, false) := by
  unfold YtaohaebgpbagmaaOutNext.nextV
  rw [if_neg (by simp)]
theorem next_yes (a b c d : Int) (h : outB a b c d = true) (hc : c ≠ 200) : YtaohaebgpbagmaaOutNext.nextV a b c d = if d = 15 then (a, b, c + 1, 0, c, d, true) else (a, b, c, d + 1, c, d, true) := by
  have h' : YtaohaebgpbagmaaOutNext.outB a b c d = true := h
  unfold YtaohaebgpbagmaaOutNext.nextV
  rw [if_pos ⟨h', hc⟩]
theorem once_loop (a b L : Int) (ha : 1 ≤ a ∧ a ≤ 60000) (hb : 0 ≤ b ∧ b ≤ 60000) : ∀ (r n k : Nat) (c d last : Int), n + r = 40 → 3 * r + 1 ≤ k → 0 ≤ c ∧ c ≤ 200 → 0 ≤ d ∧ d ≤ 15 → (c < 200 → last < c * 100 + d) → (c < 200 ∧ c * 16 + d + L = 3200 + (n : Int)) ∨ (c = 200 ∧ L ≤ (n : Int)) →
    laws_FnOutOnce.l0 k L last (n : Int) a b c d = some true := by
  intro r
  induction r with
  | zero =>
    intro n k c d last hn hk hc hd _ _
    obtain ⟨k, rfl⟩ : ∃ m, k = m + 1 := ⟨k - 1, by omega⟩
    simp only [laws_FnOutOnce.l0]
    rw [if_neg (by omega), implOut_eq, Option.bind_some]
    unfold outB
    rw [decide_eq_true ⟨ha, hb, hc, hd⟩]
  | succ r ih =>
    intro n k c d last hn hk hc hd hl hJ
    obtain ⟨k, rfl⟩ : ∃ m, k = m + 1 + 1 + 1 := ⟨k - 3, by omega⟩
    have ho : outB a b c d = true := by
      unfold outB
      rw [decide_eq_true ⟨ha, hb, hc, hd⟩]
    simp only [laws_FnOutOnce.l0]
    rw [if_pos (by omega), nextI]
    simp only [Option.bind_some]
    by_cases hc2 : c = 200
    · subst hc2
      rw [next_end]
      have hL : L ≤ (n : Int) := by omega
      simp only
      rw [decide_eq_false (show ¬ (n : Int) < L by omega), if_neg (by simp), if_pos trivial]
      simp only [laws_FnOutOnce.j2, laws_FnOutOnce.j3, bne_self_eq_false, Bool.false_eq_true, if_false]
      rw [wrap_nat (by omega)]
      exact ih (n + 1) k 200 d last (by omega) (by omega) hc hd (fun h => absurd h (by omega)) (.inr ⟨rfl, by omega⟩)
    · have hlt : c < 200 := by omega
      have hL : c * 16 + d + L = 3200 + (n : Int) := by omega
      have hla := hl hlt
      rw [next_yes a b c d ho hc2]
      by_cases h15 : d = 15
      · rw [if_pos h15]
        simp only
        rw [decide_eq_true (show (n : Int) < L by omega), if_neg (by simp), if_pos trivial]
        simp only [laws_FnOutOnce.j2, laws_FnOutOnce.j3, bne_self_eq_false, Bool.false_eq_true, if_false, if_true]
        rw [wrap_in (x := c * 100) (by omega) (by omega), wrap_in (x := c * 100 + d) (by omega) (by omega), decide_eq_false (show ¬ c * 100 + d ≤ last by omega), if_neg (by simp), wrap_nat (by omega)]
        exact ih (n + 1) k (c + 1) 0 (c * 100 + d) (by omega) (by omega) (by omega) (by omega) (fun h => by omega) (by omega)
      · rw [if_neg h15]
        simp only
        rw [decide_eq_true (show (n : Int) < L by omega), if_neg (by simp), if_pos trivial]
        simp only [laws_FnOutOnce.j2, laws_FnOutOnce.j3, bne_self_eq_false, Bool.false_eq_true, if_false, if_true]
        rw [wrap_in (x := c * 100) (by omega) (by omega), wrap_in (x := c * 100 + d) (by omega) (by omega), decide_eq_false (show ¬ c * 100 + d ≤ last by omega), if_neg (by simp), wrap_nat (by omega)]
        exact ih (n + 1) k c (d + 1) (c * 100 + d) (by omega) (by omega) (by omega) (by omega) (fun h => by omega) (by omega)
end FnOutOnce_
open FnOutOnce_
theorem FnOutOnce : laws_FnOutOnce.Pure := by
  intro l _ hl
  refine ⟨300 + 1, ?_⟩
  unfold laws_FnOutOnce.f
  by_cases hb : (l.length : Int) > 1048576
  · rw [if_pos hb]
  rw [if_neg hb]
  obtain ⟨a, b, c, d, e⟩ := draw_ok l hl (300 + 1) (by omega)
  rw [e]
  simp only [Option.bind_some]
  rw [nextI, nextS]
  simp only [Option.bind_some, beq_self_eq_true, Bool.not_true, Bool.or_self, Bool.false_eq_true, if_false, if_true, bne_self_eq_false]
  simp only [laws_FnOutOnce.j0, Bool.false_eq_true, if_false, specOut_eq, implOut_eq, Option.bind_some]
  by_cases ho : outB a b c d = true
  · rw [if_pos ho]
    have ho' := ho
    unfold outB at ho'
    rw [decide_eq_true_eq] at ho'
    obtain ⟨h1, h2, h3, h4⟩ := ho'
    rw [wrap_in (x := 200 - c) (by omega) (by omega), wrap_in (x := (200 - c) * 16) (by omega) (by omega), wrap_in (x := (200 - c) * 16 - d) (by omega) (by omega)]
    exact once_loop a b ((200 - c) * 16 - d) h1 h2 40 0 300 c d (-1) (by omega) (by omega) h3 h4 (fun _ => by omega) (by omega)
  · have ho' : outB a b c d = false := Bool.eq_false_iff.2 ho
    rw [if_neg ho, next_no a b c d ho', if_neg (by simp)]
    rfl

end Go.Proofs.Ytaohaebgpbagmaa.Pure
