/- The pure statement of FnOutPeer: a half that learns drawn lives, in any order, knows the greatest of them; its numbers stay. Conditions: bytes. -/
import Derived.Test.YtaohaebgpbagmaaPFnOutPeerx5
import Derived.Test.YtaohaebgpbagmaaPl
set_option linter.unusedSimpArgs false
set_option linter.unusedVariables false
namespace Go.Proofs.Ytaohaebgpbagmaa.Pure
open Go.RowKit Go.Proofs.Ytaohaebgpbagmaa.PFnOutPeer Go.Proofs.YtaohaebgpbagmaaW.PrintWords Go.Proofs.YtaohaebgpbagmaaW.PrintLast Go.Proofs.YtaohaebgpbagmaaW.PrintMore Go.Proofs.YtaohaebgpbagmaaPl

namespace FnOutPeer_
theorem l1In_eq (a b c : Int) : spec_l1In.f a b c = some (decide (b ≤ a ∧ a ≤ c)) := by
  unfold spec_l1In.f
  by_cases h1 : b ≤ a
  · rw [if_pos h1]
    simp [h1]
  · rw [if_neg h1]
    simp [h1]
def outB (a b c d : Int) : Bool := decide ((1 ≤ a ∧ a ≤ 60000) ∧ (0 ≤ b ∧ b ≤ 60000) ∧ (0 ≤ c ∧ c ≤ 200) ∧ (0 ≤ d ∧ d ≤ 15))
theorem specOut_eq (a b c d : Int) : spec_OutOk.f a b c d = some (outB a b c d) := by
  unfold spec_OutOk.f outB
  simp only [Option.bind_some, l1In_eq]
  by_cases h1 : 1 ≤ a ∧ a ≤ 60000 <;> by_cases h2 : 0 ≤ b ∧ b ≤ 60000 <;> by_cases h3 : 0 ≤ c ∧ c ≤ 200 <;> simp [h1, h2, h3]
theorem implOut_eq (a b c d : Int) : impl_OutOk.f a b c d = some (outB a b c d) := by
  unfold impl_OutOk.f outB
  by_cases h1 : 1 ≤ a <;> by_cases h2 : a ≤ 60000 <;> by_cases h3 : 0 ≤ b <;> by_cases h4 : b ≤ 60000 <;> by_cases h5 : 0 ≤ c <;> by_cases h6 : c ≤ 200 <;> by_cases h7 : 0 ≤ d <;> simp [h1, h2, h3, h4, h5, h6, h7]
def Bytes (l : List Int) : Prop := (∀ x ∈ l, (Lit.int .u8 x).wf = true) ∧ l.length ≤ 2000
theorem pick_ok {l : List Int} (hl : Bytes l) {p : Int} (hp0 : 0 ≤ p) (hp1 : p ≤ 1000000) {n : Int} (hn0 : 1 ≤ n) (k : Nat) (hk : 1 ≤ k) :
    ∃ r, spec_l30Rd_pick.f k l p n = some (r, p + 1) ∧ 0 ≤ r ∧ r < n := by
  obtain ⟨k, rfl⟩ : ∃ m, k = m + 1 := ⟨k - 1, by omega⟩
  obtain ⟨hb, hlen⟩ := hl
  unfold spec_l30Rd_pick.f
  rw [if_neg (by omega), wrap_in (by omega) (by omega)]
  simp only [spec_l30Rd_pick.j0]
  by_cases h0 : l.length = 0
  · rw [if_pos (by simp [h0])]
    exact ⟨0, rfl, by omega, by omega⟩
  · rw [if_neg (by simpa using h0), show wrap64 (p + 1 - 1) = p by rw [wrap_in (by omega) (by omega)]; omega]
    by_cases h1 : p < (l.length : Int)
    · rw [if_pos h1, if_pos hp0, if_neg (by omega), wrap_in (by have := rd_u8 hb p; omega) (by have := rd_u8 hb p; omega)]
      have := rd_u8 hb p
      exact ⟨_, rfl, Int.tmod_nonneg _ (by omega), Int.tmod_lt_of_pos _ (by omega)⟩
    · rw [if_neg h1, if_neg (by omega)]
      have hpos : (0 : Int) < (l.length : Int) := by omega
      have m1 : 0 ≤ Int.tmod p (l.length : Int) ∧ Int.tmod p (l.length : Int) < (l.length : Int) := ⟨Int.tmod_nonneg _ hp0, Int.tmod_lt_of_pos _ hpos⟩
      have e7 : wrap64 (p * 7) = p * 7 := wrap_in (by omega) (by omega)
      have e73 : wrap64 (p * 7 + 3) = p * 7 + 3 := wrap_in (by omega) (by omega)
      have m2 : 0 ≤ Int.tmod (p * 7 + 3) (l.length : Int) ∧ Int.tmod (p * 7 + 3) (l.length : Int) < (l.length : Int) := ⟨Int.tmod_nonneg _ (by omega), Int.tmod_lt_of_pos _ hpos⟩
      rw [e7, e73, if_pos m1.1, if_pos m1.2, if_pos m2.1, if_pos m2.2, if_neg (by omega)]
      have b1 := rd_u8 hb (Int.tmod p (l.length : Int))
      have b2 := rd_u8 hb (Int.tmod (p * 7 + 3) (l.length : Int))
      have d0 : 0 ≤ Int.tdiv p (l.length : Int) ∧ Int.tdiv p (l.length : Int) ≤ p := ⟨Int.tdiv_nonneg hp0 (by omega), Int.tdiv_le_self _ hp0⟩
      generalize rd l (Int.tmod p (l.length : Int)) = a at *
      generalize rd l (Int.tmod (p * 7 + 3) (l.length : Int)) = b at *
      generalize Int.tdiv p (l.length : Int) = d at *
      have s1 : wrap64 (wrap64 a * 131) = a * 131 := by rw [wrap_in (x := a) (by omega) (by omega)]; exact wrap_in (by omega) (by omega)
      have s2 : wrap64 (wrap64 b * 1117) = b * 1117 := by rw [wrap_in (x := b) (by omega) (by omega)]; exact wrap_in (by omega) (by omega)
      have s3 : wrap64 (p * 29) = p * 29 := wrap_in (by omega) (by omega)
      have s4 : wrap64 (wrap64 d * 53) = d * 53 := by rw [wrap_in (x := d) (by omega) (by omega)]; exact wrap_in (by omega) (by omega)
      rw [s1, s2, s3, s4, wrap_in (x := a * 131 + b * 1117) (by omega) (by omega), wrap_in (x := a * 131 + b * 1117 + p * 29) (by omega) (by omega), wrap_in (x := a * 131 + b * 1117 + p * 29 + d * 53) (by omega) (by omega)]
      have hx0 : 0 ≤ a * 131 + b * 1117 + p * 29 + d * 53 := by omega
      have hx1 : a * 131 + b * 1117 + p * 29 + d * 53 < 1000000000 := by omega
      generalize a * 131 + b * 1117 + p * 29 + d * 53 = x at *
      have q0 : 0 ≤ Int.tdiv x 64 ∧ Int.tdiv x 64 ≤ x := ⟨Int.tdiv_nonneg hx0 (by omega), Int.tdiv_le_self _ hx0⟩
      rw [wrap_in (x := Int.tdiv x 64) (by omega) (by omega)]
      have := xor_nonneg x (Int.tdiv x 64) hx0 (by omega) q0.1 (by omega)
      exact ⟨_, rfl, Int.tmod_nonneg _ this.1, Int.tmod_lt_of_pos _ (by omega)⟩
theorem open_ok (l : List Int) (hl : ∀ x ∈ l, (Lit.int .u8 x).wf = true) : ∃ m, spec_l30Open.f l = some (m, 0) ∧ Bytes m := by
  unfold spec_l30Open.f
  by_cases h : (l.length : Int) > 2000
  · rw [if_pos h, if_pos (by omega)]
    exact ⟨_, rfl, fun x hx => hl x (List.mem_of_mem_take hx), by rw [List.length_take]; omega⟩
  · rw [if_neg h]
    exact ⟨_, rfl, hl, by omega⟩
theorem l31Boot_ok {s : List Int} (hs : Bytes s) {p : Int} (hp0 : 0 ≤ p) (hp1 : p ≤ 900000) (k : Nat) (hk : 1 ≤ k) : ∃ a, spec_l31Boot.f k s p = some (a, p + 1) := by
  unfold spec_l31Boot.f
  obtain ⟨a, ea, ha⟩ := pick_ok hs hp0 (by omega) (n := 8) (by omega) k hk
  simp only [Option.bind_some]
  rw [ea]
  simp only [Option.bind_some]
  rw [if_pos ha.1, if_pos (by simpa using ha.2)]
  exact ⟨_, rfl⟩
theorem l31Out_ok {s : List Int} (hs : Bytes s) {p : Int} (hp0 : 0 ≤ p) (hp1 : p ≤ 800000) (k : Nat) (hk : 1 ≤ k) : ∃ a b c d q, spec_l31Out.f k s p = some (a, b, c, d, q) ∧ p ≤ q ∧ q ≤ p + 10 := by
  unfold spec_l31Out.f
  obtain ⟨a, ea, ha⟩ := pick_ok hs hp0 (by omega) (n := 3) (by omega) k hk
  obtain ⟨b, eb, hb⟩ := pick_ok hs (p := p + 1) (by omega) (by omega) (n := 4) (by omega) k hk
  obtain ⟨c, ec, hc⟩ := pick_ok hs (p := p + 1 + 1) (by omega) (by omega) (n := 5) (by omega) k hk
  obtain ⟨d, ed, hd⟩ := pick_ok hs (p := p + 1 + 1 + 1) (by omega) (by omega) (n := 16) (by omega) k hk
  obtain ⟨e, ee, he⟩ := pick_ok hs (p := p + 1 + 1 + 1 + 1) (by omega) (by omega) (n := 5) (by omega) k hk
  obtain ⟨f, ef, hf⟩ := pick_ok hs (p := p + 1 + 1 + 1 + 1 + 1) (by omega) (by omega) (n := 16) (by omega) k hk
  obtain ⟨u, eu⟩ := l31Boot_ok hs (p := p + 1 + 1 + 1 + 1 + 1 + 1) (by omega) (by omega) k hk
  obtain ⟨v, ev, hv⟩ := pick_ok hs (p := p + 1 + 1 + 1 + 1 + 1 + 1) (by omega) (by omega) (n := 3) (by omega) k hk
  obtain ⟨x, ex, hx⟩ := pick_ok hs (p := p + 1 + 1 + 1 + 1 + 1 + 1) (by omega) (by omega) (n := 2) (by omega) k hk
  rw [ea]
  simp only [Option.bind_some]
  rw [eb]
  simp only [Option.bind_some]
  rw [ec]
  simp only [Option.bind_some]
  rw [if_pos hc.1, if_pos (by simpa using hc.2), ed]
  simp only [Option.bind_some]
  rw [ee]
  simp only [Option.bind_some]
  rw [if_pos he.1, if_pos (by simpa using he.2), ef]
  simp only [Option.bind_some]
  by_cases h0 : f = 0
  · rw [if_pos h0, eu]
    exact ⟨_, _, _, _, _, rfl, by omega, by omega⟩
  rw [if_neg h0]
  by_cases h1 : f = 1
  · rw [if_pos h1, ev]
    simp only [Option.bind_some]
    rw [if_pos hv.1, if_pos (by simpa using hv.2)]
    exact ⟨_, _, _, _, _, rfl, by omega, by omega⟩
  rw [if_neg h1]
  by_cases h2 : f = 2
  · rw [if_pos h2, ex]
    simp only [Option.bind_some]
    rw [if_pos hx.1, if_pos (by simpa using hx.2)]
    exact ⟨_, _, _, _, _, rfl, by omega, by omega⟩
  rw [if_neg h2]
  by_cases h3 : f = 3
  · rw [if_pos h3, ex]
    simp only [Option.bind_some]
    rw [if_pos hx.1, if_pos (by simpa using hx.2)]
    exact ⟨_, _, _, _, _, rfl, by omega, by omega⟩
  rw [if_neg h3]
  exact ⟨_, _, _, _, _, rfl, by omega, by omega⟩
theorem draw_ok (l : List Int) (hl : ∀ x ∈ l, (Lit.int .u8 x).wf = true) (k : Nat) (hk : 1 ≤ k) : ∃ a b c d p, spec_DrawOutPeer.f k l = some (a, b, c, d, p) := by
  obtain ⟨m, em, hm⟩ := open_ok l hl
  obtain ⟨a, b, c, d, q, e, h1, h2⟩ := l31Out_ok hm (p := 0) (by omega) (by omega) k hk
  obtain ⟨x, ex, hx⟩ := pick_ok hm (p := q) (by omega) (by omega) (n := 8) (by omega) k hk
  unfold spec_DrawOutPeer.f
  rw [em]
  simp only [Option.bind_some]
  rw [e]
  simp only [Option.bind_some]
  rw [ex]
  simp only [Option.bind_some]
  rw [if_pos hx.1, if_pos (by simpa using hx.2)]
  exact ⟨_, _, _, _, _, rfl⟩
def peerV (a b c d p : Int) : Int × Int × Int × Int := if outB a b c d = true ∧ 0 ≤ p ∧ p ≤ 60000 then (a, max b p, c, d) else (0, 0, 0, 0)
theorem peerI (a b c d p : Int) : impl_OutPeer.f a b c d p = some (peerV a b c d p) := by
  unfold impl_OutPeer.f peerV
  rw [implOut_eq, Option.bind_some]
  by_cases h : outB a b c d = true
  · rw [if_pos h]
    by_cases h1 : p < 0
    · rw [if_pos h1, if_neg (fun h => by omega)]
    · rw [if_neg h1]
      by_cases h2 : p > 60000
      · rw [if_pos h2, if_neg (fun h => by omega)]
      · rw [if_neg h2, if_pos ⟨h, by omega, by omega⟩, mx_eq]
  · rw [if_neg h, if_neg (fun h' => h h'.1)]
theorem peerS (a b c d p : Int) (k : Nat) : spec_OutPeer.f (k + 1) a b c d p = some (peerV a b c d p) := by
  unfold spec_OutPeer.f peerV
  simp only [specOut_eq, Option.bind_some, l1In_eq, spec_OutPeer.j0]
  by_cases h : outB a b c d = true
  · by_cases h1 : 0 ≤ p ∧ p ≤ 60000
    · by_cases h3 : p > b
      · simp [h, h1, h3, show max b p = p by omega]
      · simp [h, h1, h3, show max b p = b by omega]
    · simp [h, h1]
  · simp [h]
theorem out_of {a b c d : Int} (h : outB a b c d = true) : (1 ≤ a ∧ a ≤ 60000) ∧ (0 ≤ b ∧ b ≤ 60000) ∧ (0 ≤ c ∧ c ≤ 200) ∧ (0 ≤ d ∧ d ≤ 15) := by
  unfold outB at h
  rwa [decide_eq_true_eq] at h
theorem of_out {a b c d : Int} (h : (1 ≤ a ∧ a ≤ 60000) ∧ (0 ≤ b ∧ b ≤ 60000) ∧ (0 ≤ c ∧ c ≤ 200) ∧ (0 ≤ d ∧ d ≤ 15)) : outB a b c d = true := by
  unfold outB
  rwa [decide_eq_true_eq]
theorem openIS (a : Int) : ∃ r, impl_OutOpen.f a = some r ∧ spec_OutOpen.f a = some r := by
  unfold impl_OutOpen.f spec_OutOpen.f
  rw [l1In_eq, Option.bind_some]
  by_cases h1 : a < 1
  · exact ⟨_, by rw [if_pos h1], by rw [decide_eq_false (by omega), if_neg (by simp)]⟩
  · by_cases h2 : a > 60000
    · exact ⟨_, by rw [if_neg h1, if_pos h2], by rw [decide_eq_false (by omega), if_neg (by simp)]⟩
    · exact ⟨_, by rw [if_neg h1, if_neg h2], by rw [decide_eq_true (by omega), if_pos rfl]⟩
end FnOutPeer_
open FnOutPeer_
theorem FnOutPeer : laws_FnOutPeer.Pure := by
  intro l m _ hl _ hm
  refine ⟨3, ?_⟩
  unfold laws_FnOutPeer.f
  have big : laws_FnOutPeer.j0 3 l m true = some true := by simp only [laws_FnOutPeer.j0, if_true]
  by_cases hb : (l.length : Int) > 1048576
  · rw [if_pos hb, big]
  by_cases hb2 : (m.length : Int) > 1048576
  · rw [if_neg hb, decide_eq_true hb2, big]
  rw [if_neg hb, decide_eq_false hb2]
  obtain ⟨a, b, c, d, p, e⟩ := draw_ok l hl 2 (by omega)
  obtain ⟨a2, b2, c2, d2, q, e2⟩ := draw_ok m hm 2 (by omega)
  simp only [laws_FnOutPeer.j0, Bool.false_eq_true, if_false]
  rw [e]
  simp only [Option.bind_some]
  rw [e2]
  simp only [Option.bind_some]
  rw [peerI, peerS]
  simp only [Option.bind_some, beq_self_eq_true, Bool.not_true, Bool.or_self, Bool.false_eq_true, if_false, specOut_eq]
  have bad : ∀ x' : Int × Int × Int × Int, laws_FnOutPeer.j1 2 p q true a b c d x'.1 x'.2.1 x'.2.2.1 x'.2.2.2 = some true := fun x' => by
    simp only [laws_FnOutPeer.j1, if_true, implOut_eq]
    rfl
  by_cases h0 : outB (peerV a b c d p).1 (peerV a b c d p).2.1 (peerV a b c d p).2.2.1 (peerV a b c d p).2.2.2 = true
  · rw [if_pos h0]
    by_cases h1 : q < 0
    · rw [if_pos h1, bad]
    rw [if_neg h1]
    by_cases h2 : q > 60000
    · rw [decide_eq_true h2, bad]
    rw [decide_eq_false h2]
    have hg : outB a b c d = true ∧ 0 ≤ p ∧ p ≤ 60000 := by
      refine Classical.byContradiction fun hn => ?_
      unfold peerV at h0
      rw [if_neg hn] at h0
      exact absurd h0 (by decide)
    obtain ⟨g1, g2, g3⟩ := hg
    obtain ⟨o1, o2, o3, o4⟩ := out_of g1
    have ex : peerV a b c d p = (a, max b p, c, d) := by unfold peerV; rw [if_pos ⟨g1, g2, g3⟩]
    have ey : peerV a b c d q = (a, max b q, c, d) := by unfold peerV; rw [if_pos ⟨g1, by omega, by omega⟩]
    have ez : peerV a (max b p) c d q = (a, max (max b p) q, c, d) := by unfold peerV; rw [if_pos ⟨of_out ⟨o1, by omega, o3, o4⟩, by omega, by omega⟩]
    have ew : peerV a (max b q) c d p = (a, max (max b q) p, c, d) := by unfold peerV; rw [if_pos ⟨of_out ⟨o1, by omega, o3, o4⟩, by omega, by omega⟩]
    simp only [ex, laws_FnOutPeer.j1, Bool.false_eq_true, if_false]
    rw [peerI, ez]
    simp only [Option.bind_some]
    rw [peerI, ey]
    simp only [Option.bind_some]
    rw [peerI, ew]
    simp only [Option.bind_some]
    obtain ⟨r, er, es⟩ := openIS a
    have hmx : max (max b p) q = max (max b q) p := by omega
    rw [hmx]
    simp only [beq_self_eq_true, Bool.and_self, if_true]
    rw [if_pos (show max (max b q) p ≥ max b p by omega), er]
    simp only [Option.bind_some]
    rw [es]
    simp
  · rw [if_neg h0, bad]

end Go.Proofs.Ytaohaebgpbagmaa.Pure
