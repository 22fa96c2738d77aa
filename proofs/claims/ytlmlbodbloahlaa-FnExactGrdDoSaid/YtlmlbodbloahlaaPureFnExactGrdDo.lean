/- The pure statement of FnExactGrdDo: the program's GrdDo and the reference's answer the same, the arguments stay, and what the answer holds is the caller's own. Conditions: whole numbers of 64 bits, bytes. -/
import Derived.Test.YtlmlbodbloahlaaPFnExactGrdDox4
import Derived.Test.YtlmlbodbloahlaaPl
import Derived.Test.YtlmlbodbloahlaaGrdDo
set_option linter.unusedSimpArgs false
set_option linter.unusedVariables false
namespace Go.Proofs.Ytlmlbodbloahlaa.Pure
open Go.RowKit Go.Proofs.Ytlmlbodbloahlaa.PFnExactGrdDo Go.Proofs.YtlmlbodbloahlaaW.PrintWords Go.Proofs.YtlmlbodbloahlaaW.PrintLast Go.Proofs.YtlmlbodbloahlaaW.PrintMore Go.Proofs.YtlmlbodbloahlaaPl

namespace FnExactGrdDo_
theorem l1In_eq (a b c : Int) : spec_l1In.f a b c = some (decide (b ≤ a ∧ a ≤ c)) := by
  unfold spec_l1In.f
  by_cases h1 : b ≤ a
  · rw [if_pos h1]
    simp [h1]
  · rw [if_neg h1]
    simp [h1]
theorem toByteS_eq (l : List Int) (hl : l.length ≤ 1048576) (k : Nat) (hk : l.length < k) : laws_toByteS.f k l = some l := by
  unfold laws_toByteS.f
  rw [if_pos (by omega), if_pos (by omega)]
  have h := map_loop (fun k y i => laws_toByteS.l0 k l y i) l id (fun k y i hi hy => by
    simp only [laws_toByteS.l0]
    rw [if_pos (by omega), if_pos (by omega), if_pos (by omega), wrap_nat (by omega), rd_nat l i hi]
    rfl) (fun k y hy => by
    simp only [laws_toByteS.l0]
    rw [if_neg (by omega)]) k (List.replicate ((l.length : Int) : Int).toNat 0) (by simp) hk
  simpa using h
theorem eqByteS_self (l : List Int) (hl : l.length ≤ 1048576) (k : Nat) (hk : l.length < k) : laws_eqByteS.f k l l = some true := by
  unfold laws_eqByteS.f
  rw [if_pos rfl]
  exact all_loop_true (fun k i => laws_eqByteS.l0 k l l i) l.length (fun k i hi => by
    simp only [laws_eqByteS.l0]
    rw [if_pos (by omega), if_pos (by omega), if_pos (by omega), if_pos trivial, wrap_nat (by omega)]) (fun k => by
    simp only [laws_eqByteS.l0]
    rw [if_neg (by omega)]) k hk
/-- 'so many numbers, one behind the other'. -/
def from_ (a : Int) (n : Nat) : List Int := (List.range n).map fun (i : Nat) => (a + (i : Int)) % 256
theorem markByte_loop (l : List Int) (a : Int) (ha : 0 ≤ a) (hl : l.length ≤ 1048576) (ha1 : a ≤ 100000000) : ∀ (d k i : Nat) (y : List Int), i + d = l.length → y.length = l.length → d < k →
    laws_markByteS.l0 k y (a + (i : Int)) (i : Int) = some (a + (l.length : Int), y.take i ++ from_ (a + (i : Int)) d) := by
  intro d
  induction d with
  | zero =>
    intro k i y hi hy hk
    obtain ⟨k, rfl⟩ : ∃ m, k = m + 1 := ⟨k - 1, by omega⟩
    simp only [laws_markByteS.l0]
    rw [if_neg (by omega), List.take_of_length_le (by omega)]
    obtain rfl : i = l.length := by omega
    simp [from_]
  | succ d ih =>
    intro k i y hi hy hk
    obtain ⟨k, rfl⟩ : ∃ m, k = m + 1 := ⟨k - 1, by omega⟩
    simp only [laws_markByteS.l0]
    rw [if_pos (by omega), if_pos (by omega), wrap_nat (by omega), wrap_in (by omega) (by omega), show a + (i : Int) + 1 = a + ((i + 1 : Nat) : Int) by omega, ih k (i + 1) _ (by omega) (by rw [List.length_set]; exact hy) (by omega)]
    congr 2
    rw [List.take_succ_eq_append_getElem (by rw [List.length_set]; omega), List.append_assoc]
    have e1 : ((i : Int).toNat) = i := by omega
    simp only [e1]
    rw [List.getElem_set_self, List.take_set_of_le (Nat.le_refl i)]
    congr 1
    unfold from_
    rw [List.range_succ_eq_map, List.map_cons, List.map_map, List.singleton_append]
    congr 1
    · omega
    · apply List.map_congr_left
      intro j _
      simp only [Function.comp]
      omega
theorem markByte_eq (l : List Int) (a : Int) (ha : 0 ≤ a) (hl : l.length ≤ 1048576) (ha1 : a ≤ 100000000) (k : Nat) (hk : l.length < k) : laws_markByteS.f k l a = some (a + (l.length : Int), from_ a l.length) := by
  have h := markByte_loop l a ha hl ha1 l.length k 0 l (by omega) rfl hk
  unfold laws_markByteS.f
  simp only [List.take_zero, List.nil_append, Int.add_zero, Int.natCast_zero] at h
  exact h
theorem from_length (a : Int) (n : Nat) : (from_ a n).length = n := by simp [from_]
theorem heldByte_loop (n : Nat) (a : Int) (ha : 0 ≤ a) (hl : n ≤ 1048576) (ha1 : a ≤ 100000000) : ∀ (d k i : Nat), i + d = n → d < k →
    laws_heldByteS.l0 k (from_ a n) (a + (i : Int)) (i : Int) = some (a + (n : Int)) := by
  intro d
  induction d with
  | zero =>
    intro k i hi hk
    obtain ⟨k, rfl⟩ : ∃ m, k = m + 1 := ⟨k - 1, by omega⟩
    simp only [laws_heldByteS.l0, from_length]
    rw [if_neg (by omega)]
    obtain rfl : i = n := by omega
    rfl
  | succ d ih =>
    intro k i hi hk
    obtain ⟨k, rfl⟩ : ∃ m, k = m + 1 := ⟨k - 1, by omega⟩
    have hr : rd (from_ a n) (i : Int) = (a + (i : Int)) % 256 := by
      rw [rd_nat _ _ (by rw [from_length]; omega)]
      simp [from_]
    simp only [laws_heldByteS.l0, from_length]
    rw [if_pos (by omega), if_pos (by omega), if_pos hr, wrap_nat (by omega), wrap_in (by omega) (by omega), show a + (i : Int) + 1 = a + ((i + 1 : Nat) : Int) by omega]
    exact ih k (i + 1) (by omega) (by omega)
theorem heldByte_eq (n : Nat) (a : Int) (ha : 0 ≤ a) (hl : n ≤ 1048576) (ha1 : a ≤ 100000000) (k : Nat) (hk : n < k) : laws_heldByteS.f k (from_ a n) a = some (a + (n : Int)) := by
  have h := heldByte_loop n a ha hl ha1 n k 0 (by omega) hk
  unfold laws_heldByteS.f
  simpa using h
def ruleB (a b c d e f g : Int) : Bool := decide ((0 ≤ a ∧ a ≤ 8) ∧ (a ≤ b ∧ b ≤ 8) ∧ (-1 ≤ c ∧ c ≤ 7) ∧ (0 ≤ d ∧ d ≤ 255) ∧ (d ≤ e ∧ e ≤ 255) ∧ (-1 ≤ f ∧ f ≤ 7) ∧ (0 ≤ g ∧ g ≤ 8))
theorem and_step {p q : Prop} [Decidable p] [Decidable q] {x : Option Bool} (h : x = some (decide q)) : (if decide p = true then x else some false) = some (decide (p ∧ q)) := by
  by_cases hp : p <;> simp [hp, h]
theorem specRule_eq (a b c d e f g : Int) : spec_GrdRuleOk.f a b c d e f g = some (ruleB a b c d e f g) := by
  unfold spec_GrdRuleOk.f ruleB
  simp only [Option.bind_some, l1In_eq]
  exact and_step (and_step (and_step (and_step (and_step (and_step rfl)))))
theorem if_step {p q : Prop} [Decidable p] [Decidable q] {x : Option Bool} (h : p → x = some (decide q)) (hq : ¬ p → ¬ q) : (if p then x else some false) = some (decide q) := by
  by_cases hp : p
  · rw [if_pos hp, h hp]
  · rw [if_neg hp]
    simp [hq hp]
theorem rd_range {l : List Int} (hl : ∀ x ∈ l, (Lit.int .u8 x).wf = true) (i : Int) : 0 ≤ rd l i ∧ rd l i ≤ 255 := by
  unfold rd
  rw [List.getD_eq_getElem?_getD]
  by_cases h : i.toNat < l.length
  · rw [List.getElem?_eq_getElem h]
    exact wf_u8 (hl _ (List.getElem_mem h))
  · rw [List.getElem?_eq_none (by omega)]
    simp
def fitsB (a b c d e f g : Int) (l : List Int) : Bool := ruleB a b c d e f g && (decide ((l.length : Int) ≤ 8) && (decide (a ≤ (l.length : Int) ∧ (l.length : Int) ≤ b) && (decide (c = -1) || (decide (c < (l.length : Int)) && decide (d ≤ rd l c ∧ rd l c ≤ e)))))
theorem rule_at {a b c d e f g : Int} (h : ruleB a b c d e f g = true) : -1 ≤ c := by
  unfold ruleB at h
  rw [decide_eq_true_eq] at h
  omega
theorem specFits_eq (a b c d e f g : Int) (l : List Int) (hl : ∀ x ∈ l, (Lit.int .u8 x).wf = true) : spec_GrdFits.f a b c d e f g l = some (fitsB a b c d e f g l) := by
  have hr := rd_range hl c
  unfold spec_GrdFits.f spec_BytMessage.f fitsB
  rw [specRule_eq]
  simp only [Option.bind_some, l1In_eq]
  rw [wrap_in (by omega) (by omega)]
  by_cases h1 : ruleB a b c d e f g = true
  · have hc := rule_at h1
    rw [if_pos h1, h1]
    by_cases h2 : (l.length : Int) ≤ 8
    · by_cases h3 : a ≤ (l.length : Int) ∧ (l.length : Int) ≤ b
      · by_cases h4 : c < 0
        · obtain rfl : c = -1 := by omega
          simp [h2, h3]
        · by_cases h5 : c < (l.length : Int)
          · simp [h2, h3, h4, h5, show ¬ c = -1 by omega, show 0 ≤ c by omega]
          · simp [h2, h3, h4, h5, show ¬ c = -1 by omega]
      · simp [h2, h3]
    · simp [h2]
  · rw [if_neg h1]
    simp [h1]
def conv (x : S56) : S46 := ⟨x.f0, x.f1, x.f2, x.f3, x.f4, x.f5, x.f6⟩
theorem szRules_eq (l : List S56) (a : Int) (h : l.length ≤ maxLen) (h0 : 0 ≤ a) (h1 : a ≤ 1048576) : laws_szGrdRuleS.f l a = some (if a < (l.length : Int) then -1 else a - (l.length : Int)) := by
  unfold laws_szGrdRuleS.f
  have hm : maxLen = 9223372036854775807 := rfl
  rw [wrap_in (by omega) (by omega)]
  by_cases hl : a < (l.length : Int)
  · rw [if_pos (by omega), if_pos hl]
  · rw [if_neg (by omega), if_neg hl]
theorem rdA_nat (l : List S56) (i : Nat) (h : i < l.length) : rd_T56 l (i : Int) = l[i] := by
  simp [rd_T56, h]
theorem rdB_nat (l : List S46) (i : Nat) (h : i < l.length) : rd_T46 l (i : Int) = l[i] := by
  simp [rd_T46, h]
theorem toRules_eq (l : List S56) (hl : l.length ≤ 1048576) (k : Nat) (hk : l.length < k) : laws_toGrdRuleS.f k l = some (l.map conv) := by
  unfold laws_toGrdRuleS.f
  rw [if_pos (by omega), if_pos (by omega)]
  exact map_loop (fun k y i => laws_toGrdRuleS.l0 k l y i) l conv (fun k y i hi hy => by
    simp only [laws_toGrdRuleS.l0, laws_toGrdRule.f, Option.bind_some]
    rw [if_pos (by omega), if_pos (by omega), if_pos (by omega), wrap_nat (by omega), rdA_nat l i hi]
    rfl) (fun k y hy => by
    simp only [laws_toGrdRuleS.l0]
    rw [if_neg (by omega)]) k (List.replicate ((l.length : Int) : Int).toNat z46) (by simp) hk
theorem eqRule_self (a b c d e f g : Int) : laws_eqGrdRule.f a b c d e f g a b c d e f g = some true := by
  simp [laws_eqGrdRule.f]
theorem eqRules_self (l : List S46) (hl : l.length ≤ 1048576) (k : Nat) (hk : l.length < k) : laws_eqGrdRuleS.f k l l = some true := by
  unfold laws_eqGrdRuleS.f
  rw [if_pos rfl]
  exact all_loop_true (fun k i => laws_eqGrdRuleS.l0 k l l i) l.length (fun k i hi => by
    simp only [laws_eqGrdRuleS.l0]
    rw [if_pos (by omega), if_pos (by omega), if_pos (by omega), eqRule_self, Option.bind_some, if_pos rfl, wrap_nat (by omega)]) (fun k => by
    simp only [laws_eqGrdRuleS.l0]
    rw [if_neg (by omega)]) k hk
def ruleOf (x : S46) : Bool := ruleB x.f0 x.f1 x.f2 x.f3 x.f4 x.f5 x.f6
def rulesB (l : List S46) : Bool := decide (l.length ≤ 4) && l.all ruleOf
theorem range_all (l : List S46) : ((List.range l.length).all fun i => ruleOf (rd_T46 l i)) = l.all ruleOf := by
  rw [Bool.eq_iff_iff, List.all_eq_true, List.all_eq_true]
  constructor
  · intro h x hx
    obtain ⟨i, hi, rfl⟩ := List.getElem_of_mem hx
    have := h i (by simpa using hi)
    rwa [rdB_nat l i hi] at this
  · intro h i hi
    have hi' : i < l.length := by simpa using hi
    rw [rdB_nat l i hi']
    exact h _ (List.getElem_mem hi')
theorem specRules_eq (l : List S46) (k : Nat) (hk : 6 ≤ k) : spec_GrdOk.f k l = some (rulesB l) := by
  unfold spec_GrdOk.f rulesB
  by_cases h : (l.length : Int) > 4
  · rw [if_pos h]
    simp [show ¬ l.length ≤ 4 by omega]
  · rw [if_neg h]
    have h1 := all_loop (fun k i => spec_GrdOk.l0 k l i) l.length (fun i => ruleOf (rd_T46 l i)) (fun k i hi => by
      simp only [spec_GrdOk.l0, specRule_eq, Option.bind_some]
      rw [if_pos (by omega), if_pos (by omega), wrap_nat (by omega)]
      rfl) (fun k => by
      simp only [spec_GrdOk.l0]
      rw [if_neg (by omega)]) k (by omega)
    rw [range_all] at h1
    rw [h1]
    simp [show l.length ≤ 4 by omega]
open Go.Proofs
def fitsR (m : List Int) (x : S46) : Bool := fitsB x.f0 x.f1 x.f2 x.f3 x.f4 x.f5 x.f6 m
def doR (R : List S46) (m : List Int) : List Int × Bool :=
  if rulesB R = true ∧ m.length ≤ 8 then (match R.find? (fitsR m) with | none => ([], false) | some r => (YtlmlbodbloahlaaGrdCut.cutZ r.f5 r.f6.toNat m, true)) else ([], false)
def toBase (x : S46) : Go.Proofs.Ytlmlbodbloahlaa.PGrdBase.S46 := ⟨x.f0, x.f1, x.f2, x.f3, x.f4, x.f5, x.f6⟩
theorem doZ_eq (R : List S46) (m : List Int) : YtlmlbodbloahlaaGrdDo.doZ (R.map toBase) m = doR R m := by
  have e1 : YtlmlbodbloahlaaGrdIter.rulesB (R.map toBase) = rulesB R := by
    unfold YtlmlbodbloahlaaGrdIter.rulesB rulesB
    rw [List.length_map, List.all_map]
    rfl
  have e2 : (R.map toBase).find? (YtlmlbodbloahlaaGrdIter.fitO m) = (R.find? (fitsR m)).map toBase := by
    rw [List.find?_map]
    rfl
  unfold YtlmlbodbloahlaaGrdDo.doZ doR
  rw [e1, e2]
  by_cases h : rulesB R = true ∧ m.length ≤ 8
  · rw [if_pos h, if_pos h]
    cases R.find? (fitsR m) <;> rfl
  · rw [if_neg h, if_neg h]
theorem cut_length (z : Int) (k : Nat) (m : List Int) : (YtlmlbodbloahlaaGrdCut.cutZ z k m).length ≤ m.length := by
  unfold YtlmlbodbloahlaaGrdCut.cutZ
  split <;> simp <;> omega
theorem doR_length (R : List S46) (m : List Int) : (doR R m).1.length ≤ 8 := by
  unfold doR
  by_cases h : rulesB R = true ∧ m.length ≤ 8
  · rw [if_pos h]
    cases R.find? (fitsR m) with
    | none => simp
    | some r =>
      have := cut_length r.f5 r.f6.toNat m
      simp only
      omega
  · rw [if_neg h]
    simp
theorem implDo_eq (R : List S46) (m : List Int) (hm : ∀ x ∈ m, (Lit.int .u8 x).wf = true) : impl_GrdDo.f R m = some (doR R m) := by
  unfold impl_GrdDo.f
  rw [if_pos (by rw [List.all_eq_true]; exact hm)]
  exact congrArg some (doZ_eq R m)
theorem copy_eq (m : List Int) (hm : m.length ≤ 8) : spec_l2Copy.f m = some m := by
  unfold spec_l2Copy.f
  rw [Option.bind_some, if_pos (by simp; omega)]
  rfl
theorem cut_set (z : Int) (g : Int) (m : List Int) (hz : 0 ≤ z) (hz1 : z < (m.length : Int)) (hg : 0 ≤ g) : (if (m.length : Int) > g then (m.set z.toNat 0).take g.toNat else m.set z.toNat 0) = YtlmlbodbloahlaaGrdCut.cutZ z g.toNat m := by
  unfold YtlmlbodbloahlaaGrdCut.cutZ
  have e : (if (m.length : Int) > g then (m.set z.toNat 0).take g.toNat else m.set z.toNat 0) = (m.take g.toNat).set z.toNat 0 := by
    by_cases h : (m.length : Int) > g
    · rw [if_pos h, List.take_set]
    · rw [if_neg h, List.take_of_length_le (by omega)]
  rw [e]
  split
  · rfl
  · rename_i h
    rw [List.set_eq_of_length_le (by omega)]
theorem cut_no (z : Int) (g : Int) (m : List Int) (hz : ¬ (0 ≤ z ∧ z < (m.length : Int))) (hg : 0 ≤ g) : (if (m.length : Int) > g then m.take g.toNat else m) = YtlmlbodbloahlaaGrdCut.cutZ z g.toNat m := by
  have e : (if (m.length : Int) > g then m.take g.toNat else m) = m.take g.toNat := by
    by_cases h : (m.length : Int) > g
    · rw [if_pos h]
    · rw [if_neg h, List.take_of_length_le (by omega)]
  unfold YtlmlbodbloahlaaGrdCut.cutZ
  rw [e, if_neg (by rw [List.length_take]; omega)]
theorem fit_parts {m : List Int} {x : S46} (h : fitsR m x = true) : (-1 ≤ x.f5 ∧ x.f5 ≤ 7) ∧ (0 ≤ x.f6 ∧ x.f6 ≤ 8) := by
  unfold fitsR fitsB at h
  rw [Bool.and_eq_true] at h
  have := of_decide_eq_true h.1
  exact ⟨this.2.2.2.2.2.1, this.2.2.2.2.2.2⟩
theorem specJ2_eq (R : List S46) (m : List Int) (hm : m.length ≤ 8) (i : Nat) (hi : i < R.length) (hf : fitsR m R[i] = true) (k : Nat) (b : Bool) (hb : b = decide (0 ≤ R[i].f5 ∧ R[i].f5 < (m.length : Int))) :
    spec_GrdDo.j2 (k + 1) R (i : Int) m b = some (YtlmlbodbloahlaaGrdCut.cutZ R[i].f5 R[i].f6.toNat m, true) := by
  obtain ⟨⟨p0, p1⟩, p2, p3⟩ := fit_parts hf
  simp only [spec_GrdDo.j2, rdB_nat R i hi]
  by_cases hz : 0 ≤ R[i].f5 ∧ R[i].f5 < (m.length : Int)
  · rw [if_pos (by rw [hb]; exact decide_eq_true hz), if_pos (by omega), if_pos (by omega), if_pos hz.1, if_pos hz.2, Option.bind_some, ← cut_set _ _ m hz.1 hz.2 p2]
    by_cases h : (m.length : Int) > R[i].f6
    · rw [if_pos h, if_pos p2, if_pos (by omega), if_pos h, copy_eq _ (by simp; omega)]
      rfl
    · rw [if_neg h, if_neg h, copy_eq _ (by simp; omega)]
      rfl
  · rw [if_neg (by rw [hb, decide_eq_true_eq]; exact hz), if_pos (by omega), if_pos (by omega), ← cut_no _ _ m hz p2]
    by_cases h : (m.length : Int) > R[i].f6
    · rw [if_pos h, if_pos p2, if_pos (by omega), if_pos h, copy_eq _ (by simp; omega)]
      rfl
    · rw [if_neg h, if_neg h, copy_eq _ hm]
      rfl
theorem specLoop_eq (R : List S46) (m : List Int) (hm : m.length ≤ 8) (hw : ∀ x ∈ m, (Lit.int .u8 x).wf = true) (hR : R.length ≤ 4) : ∀ (d k i : Nat), i + d = R.length → d + 2 ≤ k →
    spec_GrdDo.l0 k R m (i : Int) = some (match (R.drop i).find? (fitsR m) with | none => ([], false) | some r => (YtlmlbodbloahlaaGrdCut.cutZ r.f5 r.f6.toNat m, true)) := by
  intro d
  induction d with
  | zero =>
    intro k i hi hk
    obtain ⟨k, rfl⟩ : ∃ q, k = q + 1 := ⟨k - 1, by omega⟩
    simp only [spec_GrdDo.l0]
    rw [if_neg (by omega), List.drop_of_length_le (by omega)]
    rfl
  | succ d ih =>
    intro k i hi hk
    obtain ⟨k, rfl⟩ : ∃ q, k = q + 1 + 1 := ⟨k - 2, by omega⟩
    have hl : i < R.length := by omega
    simp only [spec_GrdDo.l0, rdB_nat R i hl]
    rw [if_pos (by omega), if_pos (by omega), specFits_eq _ _ _ _ _ _ _ _ hw, Option.bind_some, List.drop_eq_getElem_cons hl]
    by_cases hf : fitsR m R[i] = true
    · rw [List.find?_cons_of_pos hf, if_pos (show fitsB R[i].f0 R[i].f1 R[i].f2 R[i].f3 R[i].f4 R[i].f5 R[i].f6 m = true from hf), copy_eq m hm, Option.bind_some]
      by_cases h5 : R[i].f5 ≥ 0
      · rw [if_pos h5]
        exact specJ2_eq R m hm i hl hf _ _ (by rw [decide_eq_decide]; omega)
      · rw [if_neg h5]
        exact specJ2_eq R m hm i hl hf _ _ (by symm; rw [decide_eq_false_iff_not]; omega)
    · rw [List.find?_cons_of_neg hf, if_neg (show ¬ fitsB R[i].f0 R[i].f1 R[i].f2 R[i].f3 R[i].f4 R[i].f5 R[i].f6 m = true from hf), wrap_nat (by omega)]
      exact ih (k + 1) (i + 1) (by omega) (by omega)
theorem specDo_eq (R : List S46) (m : List Int) (hw : ∀ x ∈ m, (Lit.int .u8 x).wf = true) (k : Nat) (hk : 8 ≤ k) : spec_GrdDo.f k R m = some (doR R m) := by
  obtain ⟨k, rfl⟩ : ∃ q, k = q + 1 := ⟨k - 1, by omega⟩
  unfold spec_GrdDo.f spec_BytMessage.f doR
  rw [specRules_eq R _ (by omega), Option.bind_some]
  by_cases h1 : rulesB R = true
  · rw [if_pos h1, Option.bind_some]
    by_cases h2 : m.length ≤ 8
    · have hR : R.length ≤ 4 := by
        unfold rulesB at h1
        rw [Bool.and_eq_true] at h1
        exact of_decide_eq_true h1.1
      rw [if_pos ⟨h1, h2⟩, show (decide ((m.length : Int) ≤ 8)) = true from decide_eq_true (by omega)]
      have := specLoop_eq R m h2 hw hR R.length k 0 (by omega) (by omega)
      simp only [spec_GrdDo.j0]
      exact this
    · rw [if_neg (fun h => h2 h.2), show (decide ((m.length : Int) ≤ 8)) = false from decide_eq_false (by omega)]
      simp [spec_GrdDo.j0]
  · rw [if_neg h1, if_neg (fun h => h1 h.1)]
    simp [spec_GrdDo.j0]
theorem markRules_loop : ∀ (d k i : Nat) (a : Int) (y : List S46), i + d = y.length → d < k → 0 ≤ a → a + 7 * (d : Int) ≤ 1000000000 → y.length ≤ 1048576 →
    ∃ r, laws_markGrdRuleS.l0 k y a (i : Int) = some r ∧ a ≤ r.1 ∧ r.1 ≤ a + 7 * (d : Int) := by
  intro d
  induction d with
  | zero =>
    intro k i a y hi hk h0 h1 h2
    obtain ⟨k, rfl⟩ : ∃ q, k = q + 1 := ⟨k - 1, by omega⟩
    simp only [laws_markGrdRuleS.l0]
    rw [if_neg (by omega)]
    exact ⟨_, rfl, by simp, by simp⟩
  | succ d ih =>
    intro k i a y hi hk h0 h1 h2
    obtain ⟨k, rfl⟩ : ∃ q, k = q + 1 := ⟨k - 1, by omega⟩
    have w1 : wrap64 (a + 1) = a + 1 := wrap_in (by omega) (by omega)
    have w2 : wrap64 (a + 1 + 1) = a + 1 + 1 := wrap_in (by omega) (by omega)
    have w3 : wrap64 (a + 1 + 1 + 1) = a + 1 + 1 + 1 := wrap_in (by omega) (by omega)
    have w4 : wrap64 (a + 1 + 1 + 1 + 1) = a + 1 + 1 + 1 + 1 := wrap_in (by omega) (by omega)
    have w5 : wrap64 (a + 1 + 1 + 1 + 1 + 1) = a + 1 + 1 + 1 + 1 + 1 := wrap_in (by omega) (by omega)
    have w6 : wrap64 (a + 1 + 1 + 1 + 1 + 1 + 1) = a + 1 + 1 + 1 + 1 + 1 + 1 := wrap_in (by omega) (by omega)
    have w7 : wrap64 (a + 1 + 1 + 1 + 1 + 1 + 1 + 1) = a + 1 + 1 + 1 + 1 + 1 + 1 + 1 := wrap_in (by omega) (by omega)
    simp only [laws_markGrdRuleS.l0, Option.bind_some, w1, w2, w3, w4, w5, w6, w7]
    rw [if_pos (by omega), if_pos (by omega), wrap_nat (by omega)]
    refine Exists.imp (fun r h => ⟨h.1, by have := h.2; omega, by have := h.2; omega⟩) (ih k (i + 1) (a + 1 + 1 + 1 + 1 + 1 + 1 + 1) _ ?_ (by omega) (by omega) (by omega) ?_)
    · simp only [List.length_set]; omega
    · simp only [List.length_set]; omega
theorem markRules_eq (l : List S46) (a : Int) (h0 : 0 ≤ a) (h1 : a ≤ 1000000) (hl : l.length ≤ 1048576) (k : Nat) (hk : l.length < k) : ∃ r, laws_markGrdRuleS.f k l a = some r ∧ a ≤ r.1 ∧ r.1 ≤ a + 7 * (l.length : Int) :=
  markRules_loop l.length k 0 a l (by omega) hk h0 (by omega) hl
end FnExactGrdDo_
open FnExactGrdDo_
open Go.Proofs
theorem FnExactGrdDo : laws_FnExactGrdDo.Pure := by
  intro l0 m hl _ hm hw
  refine ⟨1048577 + 19 + 1 + 1 + 1, ?_⟩
  unfold laws_FnExactGrdDo.f
  by_cases hb : (m.length : Int) > 1048576
  · rw [if_pos hb]
  rw [if_neg hb, szRules_eq l0 _ hl (by omega) (by omega), Option.bind_some]
  by_cases h : (1048576 : Int) < (l0.length : Int)
  · rw [if_pos h, if_pos (by omega)]
  have hR : (l0.map conv).length ≤ 1048576 := by rw [List.length_map]; omega
  have tr : ∀ k, 1048577 ≤ k → laws_toGrdRuleS.f k l0 = some (l0.map conv) := fun k hk => toRules_eq l0 (by omega) k (by omega)
  have tb : ∀ k, 1048577 ≤ k → laws_toByteS.f k m = some m := fun k hk => toByteS_eq m (by omega) k (by omega)
  have hd := doR_length (l0.map conv) m
  have eb : ∀ k, 1048577 ≤ k → laws_eqByteS.f k (doR (l0.map conv) m).1 (doR (l0.map conv) m).1 = some true := fun k hk => eqByteS_self _ (by omega) k (by omega)
  obtain ⟨r, hr, h3, h4⟩ := markRules_eq (l0.map conv) 1 (by omega) (by omega) hR (1048577 + 19 + 1 + 1) (by omega)
  rw [if_neg h, if_neg (by omega), tr _ (by omega), Option.bind_some, tb _ (by omega), Option.bind_some, specDo_eq _ m hw _ (by omega), Option.bind_some, Option.bind_some, Option.bind_some, implDo_eq _ m hw, Option.bind_some, eb _ (by omega), Option.bind_some, if_pos rfl, bne_self_eq_false]
  simp only [laws_FnExactGrdDo.j0]
  rw [if_neg Bool.false_ne_true, tr _ (by omega), Option.bind_some, eqRules_self _ hR _ (by omega), Option.bind_some, if_pos rfl, tb _ (by omega), Option.bind_some, eqByteS_self m (by omega) _ (by omega), Option.bind_some, if_pos rfl, hr, Option.bind_some, markByte_eq m r.1 (by omega) (by omega) (by omega) _ (by omega), Option.bind_some, if_neg (by simp only; omega), eb _ (by omega), Option.bind_some, if_pos rfl, bne_self_eq_false]
  simp only [laws_FnExactGrdDo.j1]
  rw [if_neg Bool.false_ne_true, markByte_eq _ 1 (by omega) (by omega) (by omega) _ (by omega), Option.bind_some, heldByte_eq _ 1 (by omega) (by omega) (by omega) _ (by omega), Option.bind_some, if_neg (by omega), if_pos rfl, tr _ (by omega), Option.bind_some, tb _ (by omega), Option.bind_some, implDo_eq _ m hw, Option.bind_some, eb _ (by omega), Option.bind_some, if_pos rfl, bne_self_eq_false]
  simp only [laws_FnExactGrdDo.j2]
  rw [if_neg Bool.false_ne_true, heldByte_eq _ 1 (by omega) (by omega) (by omega) _ (by omega), Option.bind_some, if_neg (by omega), if_pos rfl]

end Go.Proofs.Ytlmlbodbloahlaa.Pure
