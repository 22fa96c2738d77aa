/- The pure statement of FnGrdMore: with a rule more at its end a guard lets through, as before, what it let through. Conditions: bytes. -/
import Derived.Test.YtlmlbodbloahlaaPFnGrdMorex6
import Derived.Test.YtlmlbodbloahlaaVPl
import Derived.Test.YtlmlbodbloahlaaVGrdDo
set_option linter.unusedSimpArgs false
set_option linter.unusedVariables false
namespace Go.Proofs.Ytlmlbodbloahlaa.Pure
open Go.RowKit Go.Proofs.Ytlmlbodbloahlaa.PFnGrdMore Go.Proofs.YtlmlbodbloahlaaW.PrintWords Go.Proofs.YtlmlbodbloahlaaW.PrintLast Go.Proofs.YtlmlbodbloahlaaW.PrintMore Go.Proofs.YtlmlbodbloahlaaPl

namespace FnGrdMore_
theorem l1In_eq (a b c : Int) : spec_l1In.f a b c = some (decide (b ≤ a ∧ a ≤ c)) := by
  unfold spec_l1In.f
  by_cases h1 : b ≤ a
  · rw [if_pos h1]
    simp [h1]
  · rw [if_neg h1]
    simp [h1]
def ruleB (a b c d e f g : Int) : Bool := decide ((0 ≤ a ∧ a ≤ 8) ∧ (a ≤ b ∧ b ≤ 8) ∧ (-1 ≤ c ∧ c ≤ 7) ∧ (0 ≤ d ∧ d ≤ 255) ∧ (d ≤ e ∧ e ≤ 255) ∧ (-1 ≤ f ∧ f ≤ 7) ∧ (0 ≤ g ∧ g ≤ 8))
theorem and_step {p q : Prop} [Decidable p] [Decidable q] {x : Option Bool} (h : x = some (decide q)) : (if decide p = true then x else some false) = some (decide (p ∧ q)) := by
  by_cases hp : p <;> simp [hp, h]
theorem specRule_eq (a b c d e f g : Int) : spec_GrdRuleOk.f a b c d e f g = some (ruleB a b c d e f g) := by
  unfold spec_GrdRuleOk.f ruleB
  simp only [Option.bind_some, l1In_eq]
  exact and_step (and_step (and_step (and_step (and_step (and_step rfl)))))
theorem if_step {p q : Prop} [Decidable p] [Decidable q] {x : Option Bool} (h : p → x = some (decide q)) (hq : ¬ p → ¬ q) : (if p then x else some false) = some (decide q) := by
  by_cases hp : p
  · rw [if_pos hp, h hp]
  · rw [if_neg hp]
    simp [hq hp]
theorem rd_range {l : List Int} (hl : ∀ x ∈ l, (Lit.int .u8 x).wf = true) (i : Int) : 0 ≤ rd l i ∧ rd l i ≤ 255 := by
  unfold rd
  rw [List.getD_eq_getElem?_getD]
  by_cases h : i.toNat < l.length
  · rw [List.getElem?_eq_getElem h]
    exact wf_u8 (hl _ (List.getElem_mem h))
  · rw [List.getElem?_eq_none (by omega)]
    simp
def fitsB (a b c d e f g : Int) (l : List Int) : Bool := ruleB a b c d e f g && (decide ((l.length : Int) ≤ 8) && (decide (a ≤ (l.length : Int) ∧ (l.length : Int) ≤ b) && (decide (c = -1) || (decide (c < (l.length : Int)) && decide (d ≤ rd l c ∧ rd l c ≤ e)))))
theorem rule_at {a b c d e f g : Int} (h : ruleB a b c d e f g = true) : -1 ≤ c := by
  unfold ruleB at h
  rw [decide_eq_true_eq] at h
  omega
theorem specFits_eq (a b c d e f g : Int) (l : List Int) (hl : ∀ x ∈ l, (Lit.int .u8 x).wf = true) : spec_GrdFits.f a b c d e f g l = some (fitsB a b c d e f g l) := by
  have hr := rd_range hl c
  unfold spec_GrdFits.f spec_BytMessage.f fitsB
  rw [specRule_eq]
  simp only [Option.bind_some, l1In_eq]
  rw [wrap_in (by omega) (by omega)]
  by_cases h1 : ruleB a b c d e f g = true
  · have hc := rule_at h1
    rw [if_pos h1, h1]
    by_cases h2 : (l.length : Int) ≤ 8
    · by_cases h3 : a ≤ (l.length : Int) ∧ (l.length : Int) ≤ b
      · by_cases h4 : c < 0
        · obtain rfl : c = -1 := by omega
          simp [h2, h3]
        · by_cases h5 : c < (l.length : Int)
          · simp [h2, h3, h4, h5, show ¬ c = -1 by omega, show 0 ≤ c by omega]
          · simp [h2, h3, h4, h5, show ¬ c = -1 by omega]
      · simp [h2, h3]
    · simp [h2]
  · rw [if_neg h1]
    simp [h1]
theorem rdB_nat (l : List S46) (i : Nat) (h : i < l.length) : rd_T46 l (i : Int) = l[i] := by
  simp [rd_T46, h]
def ruleOf (x : S46) : Bool := ruleB x.f0 x.f1 x.f2 x.f3 x.f4 x.f5 x.f6
def rulesB (l : List S46) : Bool := decide (l.length ≤ 4) && l.all ruleOf
theorem range_all (l : List S46) : ((List.range l.length).all fun i => ruleOf (rd_T46 l i)) = l.all ruleOf := by
  rw [Bool.eq_iff_iff, List.all_eq_true, List.all_eq_true]
  constructor
  · intro h x hx
    obtain ⟨i, hi, rfl⟩ := List.getElem_of_mem hx
    have := h i (by simpa using hi)
    rwa [rdB_nat l i hi] at this
  · intro h i hi
    have hi' : i < l.length := by simpa using hi
    rw [rdB_nat l i hi']
    exact h _ (List.getElem_mem hi')
theorem specRules_eq (l : List S46) (k : Nat) (hk : 6 ≤ k) : spec_GrdOk.f k l = some (rulesB l) := by
  unfold spec_GrdOk.f rulesB
  by_cases h : (l.length : Int) > 4
  · rw [if_pos h]
    simp [show ¬ l.length ≤ 4 by omega]
  · rw [if_neg h]
    have h1 := all_loop (fun k i => spec_GrdOk.l0 k l i) l.length (fun i => ruleOf (rd_T46 l i)) (fun k i hi => by
      simp only [spec_GrdOk.l0, specRule_eq, Option.bind_some]
      rw [if_pos (by omega), if_pos (by omega), wrap_nat (by omega)]
      rfl) (fun k => by
      simp only [spec_GrdOk.l0]
      rw [if_neg (by omega)]) k (by omega)
    rw [range_all] at h1
    rw [h1]
    simp [show l.length ≤ 4 by omega]
open Go.Proofs
def fitsR (m : List Int) (x : S46) : Bool := fitsB x.f0 x.f1 x.f2 x.f3 x.f4 x.f5 x.f6 m
def doR (R : List S46) (m : List Int) : List Int × Bool :=
  if rulesB R = true ∧ m.length ≤ 8 then (match R.find? (fitsR m) with | none => ([], false) | some r => (YtlmlbodbloahlaaGrdCut.cutZ r.f5 r.f6.toNat m, true)) else ([], false)
def toBase (x : S46) : Go.Proofs.Ytlmlbodbloahlaa.PGrdBase.S46 := ⟨x.f0, x.f1, x.f2, x.f3, x.f4, x.f5, x.f6⟩
theorem doZ_eq (R : List S46) (m : List Int) : YtlmlbodbloahlaaGrdDo.doZ (R.map toBase) m = doR R m := by
  have e1 : YtlmlbodbloahlaaGrdIter.rulesB (R.map toBase) = rulesB R := by
    unfold YtlmlbodbloahlaaGrdIter.rulesB rulesB
    rw [List.length_map, List.all_map]
    rfl
  have e2 : (R.map toBase).find? (YtlmlbodbloahlaaGrdIter.fitO m) = (R.find? (fitsR m)).map toBase := by
    rw [List.find?_map]
    rfl
  unfold YtlmlbodbloahlaaGrdDo.doZ doR
  rw [e1, e2]
  by_cases h : rulesB R = true ∧ m.length ≤ 8
  · rw [if_pos h, if_pos h]
    cases R.find? (fitsR m) <;> rfl
  · rw [if_neg h, if_neg h]
theorem cut_length (z : Int) (k : Nat) (m : List Int) : (YtlmlbodbloahlaaGrdCut.cutZ z k m).length ≤ m.length := by
  unfold YtlmlbodbloahlaaGrdCut.cutZ
  split <;> simp <;> omega
theorem doR_length (R : List S46) (m : List Int) : (doR R m).1.length ≤ 8 := by
  unfold doR
  by_cases h : rulesB R = true ∧ m.length ≤ 8
  · rw [if_pos h]
    cases R.find? (fitsR m) with
    | none => simp
    | some r =>
      have := cut_length r.f5 r.f6.toNat m
      simp only
      omega
  · rw [if_neg h]
    simp
theorem implDo_eq (R : List S46) (m : List Int) (hm : ∀ x ∈ m, (Lit.int .u8 x).wf = true) : impl_GrdDo.f R m = some (doR R m) := by
  unfold impl_GrdDo.f
  rw [if_pos (by rw [List.all_eq_true]; exact hm)]
  exact congrArg some (doZ_eq R m)
theorem copy_eq (m : List Int) (hm : m.length ≤ 8) : spec_l2Copy.f m = some m := by
  unfold spec_l2Copy.f
  rw [Option.bind_some, if_pos (by simp; omega)]
  rfl
theorem cut_set (z : Int) (g : Int) (m : List Int) (hz : 0 ≤ z) (hz1 : z < (m.length : Int)) (hg : 0 ≤ g) : (if (m.length : Int) > g then (m.set z.toNat 0).take g.toNat else m.set z.toNat 0) = YtlmlbodbloahlaaGrdCut.cutZ z g.toNat m := by
  unfold YtlmlbodbloahlaaGrdCut.cutZ
  have e : (if (m.length : Int) > g then (m.set z.toNat 0).take g.toNat else m.set z.toNat 0) = (m.take g.toNat).set z.toNat 0 := by
    by_cases h : (m.length : Int) > g
    · rw [if_pos h, List.take_set]
    · rw [if_neg h, List.take_of_length_le (by omega)]
  rw [e]
  split
  · rfl
  · rename_i h
    rw [List.set_eq_of_length_le (by omega)]
theorem cut_no (z : Int) (g : Int) (m : List Int) (hz : ¬ (0 ≤ z ∧ z < (m.length : Int))) (hg : 0 ≤ g) : (if (m.length : Int) > g then m.take g.toNat else m) = YtlmlbodbloahlaaGrdCut.cutZ z g.toNat m := by
  have e : (if (m.length : Int) > g then m.take g.toNat else m) = m.take g.toNat := by
    by_cases h : (m.length : Int) > g
    · rw [if_pos h]
    · rw [if_neg h, List.take_of_length_le (by omega)]
  unfold YtlmlbodbloahlaaGrdCut.cutZ
  rw [e, if_neg (by rw [List.length_take]; omega)]
theorem fit_parts {m : List Int} {x : S46} (h : fitsR m x = true) : (-1 ≤ x.f5 ∧ x.f5 ≤ 7) ∧ (0 ≤ x.f6 ∧ x.f6 ≤ 8) := by
  unfold fitsR fitsB at h
  rw [Bool.and_eq_true] at h
  have := of_decide_eq_true h.1
  exact ⟨this.2.2.2.2.2.1, this.2.2.2.2.2.2⟩
theorem specJ2_eq (R : List S46) (m : List Int) (hm : m.length ≤ 8) (i : Nat) (hi : i < R.length) (hf : fitsR m R[i] = true) (k : Nat) (b : Bool) (hb : b = decide (0 ≤ R[i].f5 ∧ R[i].f5 < (m.length : Int))) :
    spec_GrdDo.j2 (k + 1) R (i : Int) m b = some (YtlmlbodbloahlaaGrdCut.cutZ R[i].f5 R[i].f6.toNat m, true) := by
  obtain ⟨⟨p0, p1⟩, p2, p3⟩ := fit_parts hf
  simp only [spec_GrdDo.j2, rdB_nat R i hi]
  by_cases hz : 0 ≤ R[i].f5 ∧ R[i].f5 < (m.length : Int)
  · rw [if_pos (by rw [hb]; exact decide_eq_true hz), if_pos (by omega), if_pos (by omega), if_pos hz.1, if_pos hz.2, Option.bind_some, ← cut_set _ _ m hz.1 hz.2 p2]
    by_cases h : (m.length : Int) > R[i].f6
    · rw [if_pos h, if_pos p2, if_pos (by omega), if_pos h, copy_eq _ (by simp; omega)]
      rfl
    · rw [if_neg h, if_neg h, copy_eq _ (by simp; omega)]
      rfl
  · rw [if_neg (by rw [hb, decide_eq_true_eq]; exact hz), if_pos (by omega), if_pos (by omega), ← cut_no _ _ m hz p2]
    by_cases h : (m.length : Int) > R[i].f6
    · rw [if_pos h, if_pos p2, if_pos (by omega), if_pos h, copy_eq _ (by simp; omega)]
      rfl
    · rw [if_neg h, if_neg h, copy_eq _ hm]
      rfl
theorem specLoop_eq (R : List S46) (m : List Int) (hm : m.length ≤ 8) (hw : ∀ x ∈ m, (Lit.int .u8 x).wf = true) (hR : R.length ≤ 4) : ∀ (d k i : Nat), i + d = R.length → d + 2 ≤ k →
    spec_GrdDo.l0 k R m (i : Int) = some (match (R.drop i).find? (fitsR m) with | none => ([], false) | some r => (YtlmlbodbloahlaaGrdCut.cutZ r.f5 r.f6.toNat m, true)) := by
  intro d
  induction d with
  | zero =>
    intro k i hi hk
    obtain ⟨k, rfl⟩ : ∃ q, k = q + 1 := ⟨k - 1, by omega⟩
    simp only [spec_GrdDo.l0]
    rw [if_neg (by omega), List.drop_of_length_le (by omega)]
    rfl
  | succ d ih =>
    intro k i hi hk
    obtain ⟨k, rfl⟩ : ∃ q, k = q + 1 + 1 := ⟨k - 2, by omega⟩
    have hl : i < R.length := by omega
    simp only [spec_GrdDo.l0, rdB_nat R i hl]
    rw [if_pos (by omega), if_pos (by omega), specFits_eq _ _ _ _ _ _ _ _ hw, Option.bind_some, List.drop_eq_getElem_cons hl]
    by_cases hf : fitsR m R[i] = true
    · rw [List.find?_cons_of_pos hf, if_pos (show fitsB R[i].f0 R[i].f1 R[i].f2 R[i].f3 R[i].f4 R[i].f5 R[i].f6 m = true from hf), copy_eq m hm, Option.bind_some]
      by_cases h5 : R[i].f5 ≥ 0
      · rw [if_pos h5]
        exact specJ2_eq R m hm i hl hf _ _ (by rw [decide_eq_decide]; omega)
      · rw [if_neg h5]
        exact specJ2_eq R m hm i hl hf _ _ (by symm; rw [decide_eq_false_iff_not]; omega)
    · rw [List.find?_cons_of_neg hf, if_neg (show ¬ fitsB R[i].f0 R[i].f1 R[i].f2 R[i].f3 R[i].f4 R[i].f5 R[i].f6 m = true from hf), wrap_nat (by omega)]
      exact ih (k + 1) (i + 1) (by omega) (by omega)
theorem specDo_eq (R : List S46) (m : List Int) (hw : ∀ x ∈ m, (Lit.int .u8 x).wf = true) (k : Nat) (hk : 8 ≤ k) : spec_GrdDo.f k R m = some (doR R m) := by
  obtain ⟨k, rfl⟩ : ∃ q, k = q + 1 := ⟨k - 1, by omega⟩
  unfold spec_GrdDo.f spec_BytMessage.f doR
  rw [specRules_eq R _ (by omega), Option.bind_some]
  by_cases h1 : rulesB R = true
  · rw [if_pos h1, Option.bind_some]
    by_cases h2 : m.length ≤ 8
    · have hR : R.length ≤ 4 := by
        unfold rulesB at h1
        rw [Bool.and_eq_true] at h1
        exact of_decide_eq_true h1.1
      rw [if_pos ⟨h1, h2⟩, show (decide ((m.length : Int) ≤ 8)) = true from decide_eq_true (by omega)]
      have := specLoop_eq R m h2 hw hR R.length k 0 (by omega) (by omega)
      simp only [spec_GrdDo.j0]
      exact this
    · rw [if_neg (fun h => h2 h.2), show (decide ((m.length : Int) ≤ 8)) = false from decide_eq_false (by omega)]
      simp [spec_GrdDo.j0]
  · rw [if_neg h1, if_neg (fun h => h1 h.1)]
    simp [spec_GrdDo.j0]
def Bytes (l : List Int) : Prop := (∀ x ∈ l, (Lit.int .u8 x).wf = true) ∧ l.length ≤ 2000
theorem pick_ok {l : List Int} (hl : Bytes l) {p : Int} (hp0 : 0 ≤ p) (hp1 : p ≤ 1000000) {n : Int} (hn0 : 1 ≤ n) (k : Nat) (hk : 1 ≤ k) :
    ∃ r, spec_l30Rd_pick.f k l p n = some (r, p + 1) ∧ 0 ≤ r ∧ r < n := by
  obtain ⟨k, rfl⟩ : ∃ m, k = m + 1 := ⟨k - 1, by omega⟩
  obtain ⟨hb, hlen⟩ := hl
  unfold spec_l30Rd_pick.f
  rw [if_neg (by omega), wrap_in (by omega) (by omega)]
  simp only [spec_l30Rd_pick.j0]
  by_cases h0 : l.length = 0
  · rw [if_pos (by simp [h0])]
    exact ⟨0, rfl, by omega, by omega⟩
  · rw [if_neg (by simpa using h0), show wrap64 (p + 1 - 1) = p by rw [wrap_in (by omega) (by omega)]; omega]
    by_cases h1 : p < (l.length : Int)
    · rw [if_pos h1, if_pos hp0, if_neg (by omega), wrap_in (by have := rd_u8 hb p; omega) (by have := rd_u8 hb p; omega)]
      have := rd_u8 hb p
      exact ⟨_, rfl, Int.tmod_nonneg _ (by omega), Int.tmod_lt_of_pos _ (by omega)⟩
    · rw [if_neg h1, if_neg (by omega)]
      have hpos : (0 : Int) < (l.length : Int) := by omega
      have m1 : 0 ≤ Int.tmod p (l.length : Int) ∧ Int.tmod p (l.length : Int) < (l.length : Int) := ⟨Int.tmod_nonneg _ hp0, Int.tmod_lt_of_pos _ hpos⟩
      have e7 : wrap64 (p * 7) = p * 7 := wrap_in (by omega) (by omega)
      have e73 : wrap64 (p * 7 + 3) = p * 7 + 3 := wrap_in (by omega) (by omega)
      have m2 : 0 ≤ Int.tmod (p * 7 + 3) (l.length : Int) ∧ Int.tmod (p * 7 + 3) (l.length : Int) < (l.length : Int) := ⟨Int.tmod_nonneg _ (by omega), Int.tmod_lt_of_pos _ hpos⟩
      rw [e7, e73, if_pos m1.1, if_pos m1.2, if_pos m2.1, if_pos m2.2, if_neg (by omega)]
      have b1 := rd_u8 hb (Int.tmod p (l.length : Int))
      have b2 := rd_u8 hb (Int.tmod (p * 7 + 3) (l.length : Int))
      have d0 : 0 ≤ Int.tdiv p (l.length : Int) ∧ Int.tdiv p (l.length : Int) ≤ p := ⟨Int.tdiv_nonneg hp0 (by omega), Int.tdiv_le_self _ hp0⟩
      generalize rd l (Int.tmod p (l.length : Int)) = a at *
      generalize rd l (Int.tmod (p * 7 + 3) (l.length : Int)) = b at *
      generalize Int.tdiv p (l.length : Int) = d at *
      have s1 : wrap64 (wrap64 a * 131) = a * 131 := by rw [wrap_in (x := a) (by omega) (by omega)]; exact wrap_in (by omega) (by omega)
      have s2 : wrap64 (wrap64 b * 1117) = b * 1117 := by rw [wrap_in (x := b) (by omega) (by omega)]; exact wrap_in (by omega) (by omega)
      have s3 : wrap64 (p * 29) = p * 29 := wrap_in (by omega) (by omega)
      have s4 : wrap64 (wrap64 d * 53) = d * 53 := by rw [wrap_in (x := d) (by omega) (by omega)]; exact wrap_in (by omega) (by omega)
      rw [s1, s2, s3, s4, wrap_in (x := a * 131 + b * 1117) (by omega) (by omega), wrap_in (x := a * 131 + b * 1117 + p * 29) (by omega) (by omega), wrap_in (x := a * 131 + b * 1117 + p * 29 + d * 53) (by omega) (by omega)]
      have hx0 : 0 ≤ a * 131 + b * 1117 + p * 29 + d * 53 := by omega
      have hx1 : a * 131 + b * 1117 + p * 29 + d * 53 < 1000000000 := by omega
      generalize a * 131 + b * 1117 + p * 29 + d * 53 = x at *
      have q0 : 0 ≤ Int.tdiv x 64 ∧ Int.tdiv x 64 ≤ x := ⟨Int.tdiv_nonneg hx0 (by omega), Int.tdiv_le_self _ hx0⟩
      rw [wrap_in (x := Int.tdiv x 64) (by omega) (by omega)]
      have := xor_nonneg x (Int.tdiv x 64) hx0 (by omega) q0.1 (by omega)
      exact ⟨_, rfl, Int.tmod_nonneg _ this.1, Int.tmod_lt_of_pos _ (by omega)⟩
theorem open_ok (l : List Int) (hl : ∀ x ∈ l, (Lit.int .u8 x).wf = true) : ∃ m, spec_l30Open.f l = some (m, 0) ∧ Bytes m := by
  unfold spec_l30Open.f
  by_cases h : (l.length : Int) > 2000
  · rw [if_pos h, if_pos (by omega)]
    exact ⟨_, rfl, fun x hx => hl x (List.mem_of_mem_take hx), by rw [List.length_take]; omega⟩
  · rw [if_neg h]
    exact ⟨_, rfl, hl, by omega⟩
def U8 (l : List Int) : Prop := ∀ x ∈ l, (Lit.int .u8 x).wf = true
theorem u8_mod (x : Int) : (Lit.int .u8 (x % 256)).wf = true := by
  simp only [Lit.wf, IntKind.min, IntKind.max, Bool.and_eq_true, decide_eq_true_eq]
  first
    | omega
    | (constructor <;> (simp [IntKind.signed, IntKind.bits]; omega))
theorem U8.snoc {l : List Int} (h : U8 l) (x : Int) : U8 (l ++ [x % 256]) := by
  intro y hy
  rcases List.mem_append.mp hy with hy | hy
  · exact h y hy
  · rw [List.mem_singleton.mp hy]
    exact u8_mod x
theorem U8.set {l : List Int} (h : U8 l) (i : Nat) (x : Int) : U8 (l.set i (x % 256)) := by
  intro y hy
  rcases List.mem_or_eq_of_mem_set hy with hy | hy
  · exact h y hy
  · rw [hy]
    exact u8_mod x
theorem message_loop {s : List Int} (hs : Bytes s) : ∀ (d k : Nat) (y : List Int) (p : Int), U8 y → y.length + d ≤ 100 → 0 ≤ p → p + 2 * d ≤ 1000000 → d + 1 < k →
    ∃ r q, spec_l30Message.l0 k y (d : Int) s p = some (r, q) ∧ U8 r ∧ r.length ≤ y.length + d ∧ p ≤ q ∧ q ≤ p + 2 * d := by
  intro d
  induction d with
  | zero =>
    intro k y p hy hl hp0 hp1 hk
    obtain ⟨k, rfl⟩ : ∃ m, k = m + 1 := ⟨k - 1, by omega⟩
    simp only [spec_l30Message.l0]
    rw [if_neg (by omega)]
    exact ⟨_, _, rfl, hy, by omega, by omega, by omega⟩
  | succ d ih =>
    intro k y p hy hl hp0 hp1 hk
    obtain ⟨k, rfl⟩ : ∃ m, k = m + 1 := ⟨k - 1, by omega⟩
    simp only [spec_l30Message.l0]
    obtain ⟨a, ea, ha⟩ := pick_ok hs hp0 (by omega) (n := 256) (by omega) k (by omega)
    obtain ⟨b, eb, hb⟩ := pick_ok hs (p := p + 1) (by omega) (by omega) (n := 5) (by omega) k (by omega)
    rw [if_pos (by omega), ea]
    simp only [Option.bind_some]
    rw [eb]
    simp only [Option.bind_some]
    rw [if_pos hb.1, if_pos (by simpa using hb.2), if_pos (by omega), show wrap64 (((d + 1 : Nat) : Int) - 1) = (d : Int) by rw [wrap_in (by omega) (by omega)]; omega]
    obtain ⟨r, q, e, h1, h2, h3, h4⟩ := ih k _ (p + 1 + 1) (hy.snoc (rd [0, 1, 7, 255, a] b)) (by rw [List.length_append, List.length_singleton]; omega) (by omega) (by omega) (by omega)
    refine ⟨r, q, e, h1, ?_, by omega, by omega⟩
    rw [List.length_append, List.length_singleton] at h2
    omega
theorem message_ok {s : List Int} (hs : Bytes s) {p : Int} (hp0 : 0 ≤ p) (hp1 : p ≤ 900000) (k : Nat) (hk : 15 ≤ k) :
    ∃ r q, spec_l30Message.f k s p = some (r, q) ∧ U8 r ∧ r.length ≤ 9 ∧ p ≤ q ∧ q ≤ p + 19 := by
  unfold spec_l30Message.f
  obtain ⟨a, ea, ha⟩ := pick_ok hs hp0 (by omega) (n := 8) (by omega) k (by omega)
  rw [Option.bind_some, ea]
  simp only [Option.bind_some]
  rw [if_pos ha.1, if_pos (by simpa using ha.2)]
  obtain ⟨n, en, hn⟩ : ∃ n : Nat, rd [0, 1, 2, 3, 4, 8, 8, 9] a = (n : Int) ∧ n ≤ 9 := by
    obtain ⟨m, rfl⟩ := Int.eq_ofNat_of_zero_le ha.1
    have : m < 8 := by omega
    match m, this with
    | 0, _ => exact ⟨0, rfl, by omega⟩
    | 1, _ => exact ⟨1, rfl, by omega⟩
    | 2, _ => exact ⟨2, rfl, by omega⟩
    | 3, _ => exact ⟨3, rfl, by omega⟩
    | 4, _ => exact ⟨4, rfl, by omega⟩
    | 5, _ => exact ⟨8, rfl, by omega⟩
    | 6, _ => exact ⟨8, rfl, by omega⟩
    | 7, _ => exact ⟨9, rfl, by omega⟩
  rw [en]
  obtain ⟨r, q, e, h1, h2, h3, h4⟩ := message_loop hs n k [] (p + 1) (fun x hx => absurd hx (by simp)) (by simp; omega) (by omega) (by omega) (by omega)
  exact ⟨r, q, e, h1, by simp at h2; omega, by omega, by omega⟩
theorem rule_ok {s : List Int} (hs : Bytes s) {p : Int} (hp0 : 0 ≤ p) (hp1 : p ≤ 900000) (k : Nat) (hk : 1 ≤ k) : ∃ a b c d e f g q, spec_l31Rule.f k s p = some (a, b, c, d, e, f, g, q) ∧ p ≤ q ∧ q ≤ p + 8 := by
  unfold spec_l31Rule.f
  obtain ⟨a, ea, ha⟩ := pick_ok hs hp0 (by omega) (n := 3) (by omega) k hk
  obtain ⟨b, eb, hb⟩ := pick_ok hs (p := p + 1) (by omega) (by omega) (n := 4) (by omega) k hk
  obtain ⟨c, ec, hc⟩ := pick_ok hs (p := p + 1 + 1) (by omega) (by omega) (n := 5) (by omega) k hk
  obtain ⟨d, ed, hd⟩ := pick_ok hs (p := p + 1 + 1 + 1) (by omega) (by omega) (n := 5) (by omega) k hk
  obtain ⟨e, ee, he⟩ := pick_ok hs (p := p + 1 + 1 + 1 + 1) (by omega) (by omega) (n := 4) (by omega) k hk
  obtain ⟨f, ef, hf⟩ := pick_ok hs (p := p + 1 + 1 + 1 + 1 + 1) (by omega) (by omega) (n := 2) (by omega) k hk
  obtain ⟨g, eg, hg⟩ := pick_ok hs (p := p + 1 + 1 + 1 + 1 + 1 + 1) (by omega) (by omega) (n := 128) (by omega) k hk
  obtain ⟨h, eh, hh⟩ := pick_ok hs (p := p + 1 + 1 + 1 + 1 + 1 + 1 + 1) (by omega) (by omega) (n := 128) (by omega) k hk
  rw [ea]
  simp only [Option.bind_some]
  rw [eb]
  simp only [Option.bind_some]
  rw [ec]
  simp only [Option.bind_some]
  rw [ed]
  simp only [Option.bind_some]
  rw [if_pos hd.1, if_pos (by simpa using hd.2), ee]
  simp only [Option.bind_some]
  rw [if_pos he.1, if_pos (by simpa using he.2), ef]
  simp only [Option.bind_some]
  by_cases h0 : f = 0
  · rw [if_pos h0, eg]
    simp only [Option.bind_some]
    rw [eh]
    simp only [Option.bind_some]
    exact ⟨_, _, _, _, _, _, _, _, rfl, by omega, by omega⟩
  · rw [if_neg h0]
    exact ⟨_, _, _, _, _, _, _, _, rfl, by omega, by omega⟩
theorem bad_ok {s : List Int} (hs : Bytes s) {p : Int} (hp0 : 0 ≤ p) (hp1 : p ≤ 900000) (k : Nat) (hk : 1 ≤ k) (x0 x1 x2 x3 x4 x5 x6 : Int) : ∃ a b c d e f g q, spec_l31Bad.f k s p x0 x1 x2 x3 x4 x5 x6 = some (a, b, c, d, e, f, g, q) ∧ p ≤ q ∧ q ≤ p + 2 := by
  unfold spec_l31Bad.f
  obtain ⟨a, ea, ha⟩ := pick_ok hs hp0 (by omega) (n := 16) (by omega) k hk
  obtain ⟨b, eb, hb⟩ := pick_ok hs (p := p + 1) (by omega) (by omega) (n := 2) (by omega) k hk
  rw [ea]
  simp only [Option.bind_some, eb]
  have b2 : b < (([(-1), 9] : List Int).length : Int) := by simpa using hb.2
  have b3 : b < (([(-2), 8] : List Int).length : Int) := by simpa using hb.2
  have b4 : b < (([(-1), 256] : List Int).length : Int) := by simpa using hb.2
  simp only [if_pos hb.1, if_pos b2, if_pos b3, if_pos b4]
  by_cases h0 : a = 0
  · rw [if_pos h0]
    exact ⟨_, _, _, _, _, _, _, _, rfl, by omega, by omega⟩
  rw [if_neg h0]
  by_cases h0 : a = 1
  · rw [if_pos h0]
    exact ⟨_, _, _, _, _, _, _, _, rfl, by omega, by omega⟩
  rw [if_neg h0]
  by_cases h0 : a = 2
  · rw [if_pos h0]
    exact ⟨_, _, _, _, _, _, _, _, rfl, by omega, by omega⟩
  rw [if_neg h0]
  by_cases h0 : a = 3
  · rw [if_pos h0]
    exact ⟨_, _, _, _, _, _, _, _, rfl, by omega, by omega⟩
  rw [if_neg h0]
  by_cases h0 : a = 4
  · rw [if_pos h0]
    exact ⟨_, _, _, _, _, _, _, _, rfl, by omega, by omega⟩
  rw [if_neg h0]
  by_cases h0 : a = 5
  · rw [if_pos h0]
    exact ⟨_, _, _, _, _, _, _, _, rfl, by omega, by omega⟩
  rw [if_neg h0]
  by_cases h0 : a = 6
  · rw [if_pos h0]
    exact ⟨_, _, _, _, _, _, _, _, rfl, by omega, by omega⟩
  rw [if_neg h0]
  exact ⟨_, _, _, _, _, _, _, _, rfl, by omega, by omega⟩
theorem guard_loop {s : List Int} (hs : Bytes s) : ∀ (d k : Nat) (y : List S46) (p : Int), y.length + d ≤ 100 → 0 ≤ p → p + 8 * (d : Int) ≤ 900000 → d + 1 < k →
    ∃ r q, spec_l31Guard.l0 k y (d : Int) s p = some (r, q) ∧ r.length = y.length + d ∧ p ≤ q ∧ q ≤ p + 8 * (d : Int) := by
  intro d
  induction d with
  | zero =>
    intro k y p hl hp0 hp1 hk
    obtain ⟨k, rfl⟩ : ∃ m, k = m + 1 := ⟨k - 1, by omega⟩
    simp only [spec_l31Guard.l0]
    rw [if_neg (by omega)]
    exact ⟨_, _, rfl, by omega, by omega, by omega⟩
  | succ d ih =>
    intro k y p hl hp0 hp1 hk
    obtain ⟨k, rfl⟩ : ∃ m, k = m + 1 := ⟨k - 1, by omega⟩
    simp only [spec_l31Guard.l0]
    obtain ⟨a, b, c, d', e, f, g, q, er, h1, h2⟩ := rule_ok hs hp0 (by omega) k (by omega)
    rw [if_pos (by omega), er]
    simp only [Option.bind_some]
    rw [if_pos (by omega), show wrap64 (((d + 1 : Nat) : Int) - 1) = (d : Int) by rw [wrap_in (by omega) (by omega)]; omega]
    obtain ⟨r, q', e', h3, h4, h5⟩ := ih k (y ++ [(⟨a, b, c, d', e, f, g⟩ : S46)]) q (by rw [List.length_append, List.length_singleton]; omega) (by omega) (by omega) (by omega)
    rw [List.length_append, List.length_singleton] at h3
    exact ⟨r, q', e', by omega, by omega, by omega⟩
theorem guard_ok {s : List Int} (hs : Bytes s) {p : Int} (hp0 : 0 ≤ p) (hp1 : p ≤ 800000) (k : Nat) (hk : 6 ≤ k) : ∃ r q, spec_l31Guard.f k s p = some (r, q) ∧ r.length ≤ 3 ∧ p ≤ q ∧ q ≤ p + 25 := by
  unfold spec_l31Guard.f
  obtain ⟨a, ea, ha⟩ := pick_ok hs hp0 (by omega) (n := 4) (by omega) k (by omega)
  rw [ea]
  simp only [Option.bind_some]
  obtain ⟨n, rfl⟩ := Int.eq_ofNat_of_zero_le ha.1
  obtain ⟨r, q, e, h1, h2, h3⟩ := guard_loop hs n k [] (p + 1) (by simp; omega) (by omega) (by omega) (by omega)
  exact ⟨r, q, e, by simp at h1; omega, by omega, by omega⟩
theorem guards_loop {s : List Int} (hs : Bytes s) : ∀ (d k : Nat) (y : List S46) (p : Int), y.length + d = 5 → 0 ≤ p → p + 8 * (d : Int) ≤ 900000 → d + 1 < k →
    ∃ r q, spec_l31Guards.l0 k y s p = some (r, q) ∧ r.length = 5 ∧ p ≤ q ∧ q ≤ p + 8 * (d : Int) + 2 := by
  intro d
  induction d with
  | zero =>
    intro k y p hl hp0 hp1 hk
    obtain ⟨k, rfl⟩ : ∃ m, k = m + 1 := ⟨k - 1, by omega⟩
    simp only [spec_l31Guards.l0]
    obtain ⟨a, b, c, d', e, f, g, q, er, h1, h2⟩ := bad_ok hs hp0 (by omega) k (by omega) (rd_T46 y 0).f0 (rd_T46 y 0).f1 (rd_T46 y 0).f2 (rd_T46 y 0).f3 (rd_T46 y 0).f4 (rd_T46 y 0).f5 (rd_T46 y 0).f6
    rw [if_neg (by omega), if_pos (by omega), if_pos (by omega), er]
    simp only [Option.bind_some]
    exact ⟨_, _, rfl, by rw [List.length_set]; omega, by omega, by omega⟩
  | succ d ih =>
    intro k y p hl hp0 hp1 hk
    obtain ⟨k, rfl⟩ : ∃ m, k = m + 1 := ⟨k - 1, by omega⟩
    simp only [spec_l31Guards.l0]
    obtain ⟨a, b, c, d', e, f, g, q, er, h1, h2⟩ := rule_ok hs hp0 (by omega) k (by omega)
    rw [if_pos (by omega), er]
    simp only [Option.bind_some]
    rw [if_pos (by omega)]
    obtain ⟨r, q', e', h3, h4, h5⟩ := ih k (y ++ [(⟨a, b, c, d', e, f, g⟩ : S46)]) q (by rw [List.length_append, List.length_singleton]; omega) (by omega) (by omega) (by omega)
    exact ⟨r, q', e', h3, by omega, by omega⟩
theorem guards_ok {s : List Int} (hs : Bytes s) {p : Int} (hp0 : 0 ≤ p) (hp1 : p ≤ 700000) (k : Nat) (hk : 8 ≤ k) : ∃ r q, spec_l31Guards.f k s p = some (r, q) ∧ r.length ≤ 5 ∧ p ≤ q ∧ q ≤ p + 100 := by
  unfold spec_l31Guards.f
  obtain ⟨y, q, e, h1, h2, h3⟩ := guard_ok hs hp0 (by omega) k (by omega)
  obtain ⟨a, ea, ha⟩ := pick_ok hs (p := q) (by omega) (by omega) (n := 12) (by omega) k (by omega)
  rw [e]
  simp only [Option.bind_some]
  rw [ea]
  simp only [Option.bind_some]
  by_cases h0 : a = 0
  · rw [if_pos h0]
    obtain ⟨r, q', e', h4, h5, h6⟩ := guards_loop hs (5 - y.length) k y (q + 1) (by omega) (by omega) (by omega) (by omega)
    exact ⟨r, q', e', by omega, by omega, by omega⟩
  · rw [if_neg h0]
    by_cases h7 : (y.length : Int) > 0
    · obtain ⟨a, b, c, d', e, f, g, q', er, h8, h9⟩ := bad_ok hs (p := q + 1) (by omega) (by omega) k (by omega) (rd_T46 y 0).f0 (rd_T46 y 0).f1 (rd_T46 y 0).f2 (rd_T46 y 0).f3 (rd_T46 y 0).f4 (rd_T46 y 0).f5 (rd_T46 y 0).f6
      rw [if_pos h7, if_pos (by omega), er]
      simp only [Option.bind_some]
      exact ⟨_, _, rfl, by rw [List.length_set]; omega, by omega, by omega⟩
    · rw [if_neg h7]
      exact ⟨_, _, rfl, by omega, by omega, by omega⟩
theorem drawGrd_ok (l : List Int) (hl : ∀ x ∈ l, (Lit.int .u8 x).wf = true) (k : Nat) (hk : 15 ≤ k) : ∃ R m, spec_DrawGrdDo.f k l = some (R, m) ∧ R.length ≤ 5 ∧ U8 m ∧ m.length ≤ 9 := by
  obtain ⟨s, es, hs⟩ := open_ok l hl
  obtain ⟨R, q, e, h1, h2, h3⟩ := guards_ok hs (p := 0) (by omega) (by omega) k (by omega)
  obtain ⟨m, q', e', h4, h5, h6, h7⟩ := message_ok hs (p := q) (by omega) (by omega) k (by omega)
  unfold spec_DrawGrdDo.f
  rw [es]
  simp only [Option.bind_some]
  rw [e]
  simp only [Option.bind_some]
  rw [e']
  exact ⟨R, m, rfl, h1, h4, h5⟩
theorem caBytes_self (l : List Int) : laws_caBytes.f l l = some true := by
  unfold laws_caBytes.f
  simp
theorem drawRule_ok (l : List Int) (hl : ∀ x ∈ l, (Lit.int .u8 x).wf = true) (k : Nat) (hk : 15 ≤ k) : ∃ a b c d e f g, spec_DrawGrdRuleOk.f k l = some (a, b, c, d, e, f, g) := by
  obtain ⟨s, es, hs⟩ := open_ok l hl
  obtain ⟨a, b, c, d, e, f, g, q, er, h1, h2⟩ := rule_ok hs (p := 0) (by omega) (by omega) k (by omega)
  obtain ⟨a', b', c', d', e', f', g', q', er', h1', h2'⟩ := bad_ok hs (p := q) (by omega) (by omega) k (by omega) a b c d e f g
  unfold spec_DrawGrdRuleOk.f
  rw [es]
  simp only [Option.bind_some]
  rw [er]
  simp only [Option.bind_some]
  rw [er']
  exact ⟨_, _, _, _, _, _, _, rfl⟩
theorem rules_front {R : List S46} {x : S46} (h : rulesB (R ++ [x]) = true) : rulesB R = true := by
  unfold rulesB at h ⊢
  rw [Bool.and_eq_true, List.all_append, Bool.and_eq_true] at h
  have := of_decide_eq_true h.1
  rw [List.length_append] at this
  rw [h.2.1, decide_eq_true (by omega)]
  rfl
theorem more_eq {R : List S46} {x : S46} {m : List Int} (h : rulesB (R ++ [x]) = true) (h2 : (doR R m).2 = true) : doR (R ++ [x]) m = doR R m := by
  unfold doR at h2 ⊢
  by_cases h8 : m.length ≤ 8
  · have hR := rules_front h
    rw [if_pos ⟨hR, h8⟩] at h2
    rw [if_pos (show rulesB (R ++ [x]) = true ∧ m.length ≤ 8 from ⟨h, h8⟩), if_pos (show rulesB R = true ∧ m.length ≤ 8 from ⟨hR, h8⟩), List.find?_append]
    cases hf : R.find? (fitsR m) with
    | none => rw [hf] at h2; exact absurd h2 (by simp)
    | some r => rfl
  · rw [if_neg (fun h => h8 h.2)] at h2
    exact absurd h2 (by simp)
end FnGrdMore_
open FnGrdMore_
open Go.Proofs
theorem FnGrdMore : laws_FnGrdMore.Pure := by
  intro l0 l1 hm0 hl0 hm1 hl1
  refine ⟨200 + 1 + 1, ?_⟩
  unfold laws_FnGrdMore.f
  by_cases hb : (l0.length : Int) > 1048576
  · rw [if_pos hb]
    simp only [laws_FnGrdMore.j0]
    rw [if_pos trivial]
  rw [if_neg hb]
  by_cases hb1 : (l1.length : Int) > 1048576
  · rw [decide_eq_true hb1]
    simp only [laws_FnGrdMore.j0]
    rw [if_pos trivial]
  rw [decide_eq_false hb1]
  obtain ⟨R, m, e, hR, hU, hm9⟩ := drawGrd_ok l0 hl0 (200 + 1) (by omega)
  obtain ⟨x0, x1, x2, x3, x4, x5, x6, e1⟩ := drawRule_ok l1 hl1 (200 + 1) (by omega)
  simp only [laws_FnGrdMore.j0]
  rw [if_neg Bool.false_ne_true, e]
  simp only [Option.bind_some]
  rw [e1]
  simp only [Option.bind_some]
  rw [implDo_eq R m hU, specDo_eq R m hU _ (by omega)]
  simp only [Option.bind_some]
  rw [if_neg (by simp), caBytes_self, Option.bind_some, if_pos rfl, specRule_eq, show impl_GrdRuleOk.f x0 x1 x2 x3 x4 x5 x6 = some (ruleB x0 x1 x2 x3 x4 x5 x6) from rfl]
  simp only [Option.bind_some, bne_self_eq_false, laws_FnGrdMore.j1, List.nil_append, List.length_nil, Nat.zero_add]
  rw [if_neg Bool.false_ne_true, if_pos (by omega), if_pos (by rw [List.length_singleton]; omega), implDo_eq _ m hU, Option.bind_some, specRules_eq _ _ (by omega), Option.bind_some]
  by_cases h : rulesB (R ++ [(⟨x0, x1, x2, x3, x4, x5, x6⟩ : S46)]) = true
  · rw [if_pos h]
    by_cases h2 : (doR R m).2 = true
    · rw [if_pos h2, more_eq h h2, if_pos h2, caBytes_self]
      rfl
    · rw [if_neg h2]
  · have e3 : doR (R ++ [(⟨x0, x1, x2, x3, x4, x5, x6⟩ : S46)]) m = ([], false) := by
      unfold doR
      rw [if_neg (fun hh => h hh.1)]
    rw [if_neg h, e3, if_neg Bool.false_ne_true]
    rfl

end Go.Proofs.Ytlmlbodbloahlaa.Pure
