/- Plain lemmas on numbers, lists and loops with a counter. Nothing of a program stands here. -/
import Derived.Test.YtcnipdbommmkmaaVWords
import Derived.Test.YtcnipdbommmkmaaVMore
namespace Go.Proofs.YtcnipdbommmkmaaPl
open Go.RowKit Go.Proofs.YtcnipdbommmkmaaW.PrintWords Go.Proofs.YtcnipdbommmkmaaW.PrintMore

theorem wrap_in {x : Int} (h0 : -9223372036854775808 ≤ x) (h1 : x ≤ 9223372036854775807) : wrap64 x = x := by
  unfold wrap64
  omega
theorem wrap_nat {i : Nat} (h1 : i < 9223372036854775807) : wrap64 ((i : Int) + 1) = ((i + 1 : Nat) : Int) := by
  unfold wrap64
  omega
theorem rd_nat (xs : List Int) (i : Nat) (h : i < xs.length) : rd xs (i : Int) = xs[i] := by
  simp [rd, h]
theorem wf_i64 {x : Int} (h : (Lit.int .i64 x).wf = true) : -9223372036854775808 ≤ x ∧ x ≤ 9223372036854775807 := by
  have hmin : IntKind.i64.min = -9223372036854775808 := rfl
  have hmax : IntKind.i64.max = 9223372036854775807 := rfl
  simp only [Lit.wf, Bool.and_eq_true, decide_eq_true_eq] at h
  omega
theorem wf_u8 {x : Int} (h : (Lit.int .u8 x).wf = true) : 0 ≤ x ∧ x ≤ 255 := by
  have hmin : IntKind.u8.min = 0 := rfl
  have hmax : IntKind.u8.max = 255 := rfl
  simp only [Lit.wf, Bool.and_eq_true, decide_eq_true_eq] at h
  omega
theorem mx_eq (a b : Int) : mx a b = max a b := by
  unfold mx
  omega
theorem mn_eq (a b : Int) : mn a b = min a b := by
  unfold mn
  omega

/-- A loop that fills a row of its own, place by place, from another one. -/
theorem map_loop {α β : Type} (L : Nat → List β → Int → Option (List β)) (l : List α) (g : α → β)
    (hstep : ∀ (k : Nat) (y : List β) (i : Nat) (h : i < l.length), y.length = l.length → L (k + 1) y (i : Int) = L k (y.set i (g l[i])) ((i + 1 : Nat) : Int))
    (hend : ∀ (k : Nat) (y : List β), y.length = l.length → L (k + 1) y (l.length : Int) = some y) (k : Nat) (y : List β) (hy : y.length = l.length) (hk : l.length < k) :
    L k y 0 = some (l.map g) := by
  have key : ∀ (d : Nat) (k : Nat) (i : Nat) (y : List β), i + d = l.length → y.length = l.length → d < k → L k y (i : Int) = some (y.take i ++ (l.drop i).map g) := by
    intro d
    induction d with
    | zero =>
      intro k i y hi hy hk
      obtain ⟨k, rfl⟩ : ∃ m, k = m + 1 := ⟨k - 1, by omega⟩
      obtain rfl : i = l.length := by omega
      rw [hend k y hy, List.drop_length, List.map_nil, List.append_nil, List.take_of_length_le (by omega)]
    | succ d ih =>
      intro k i y hi hy hk
      obtain ⟨k, rfl⟩ : ∃ m, k = m + 1 := ⟨k - 1, by omega⟩
      have hlt : i < l.length := by omega
      rw [hstep k y i hlt hy, ih k (i + 1) _ (by omega) (by rw [List.length_set]; exact hy) (by omega)]
      congr 1
      rw [List.drop_eq_getElem_cons hlt, List.map_cons, List.take_succ_eq_append_getElem (by rw [List.length_set]; omega), List.getElem_set_self, List.take_set_of_le (Nat.le_refl i), List.append_assoc]
      rfl
  have h := key l.length k 0 y (by omega) hy hk
  rw [List.take_zero, List.drop_zero, List.nil_append] at h
  exact h

/-- A loop that asks at each place, and leaves with false where the answer is no. -/
theorem all_loop (L : Nat → Int → Option Bool) (n : Nat) (p : Nat → Bool)
    (hstep : ∀ (k i : Nat), i < n → L (k + 1) (i : Int) = if p i = true then L k ((i + 1 : Nat) : Int) else some false)
    (hend : ∀ k : Nat, L (k + 1) (n : Int) = some true) (k : Nat) (hk : n < k) : L k 0 = some ((List.range n).all p) := by
  have key : ∀ (d k i : Nat), i + d = n → d < k → L k (i : Int) = some ((List.range d).all fun j => p (i + j)) := by
    intro d
    induction d with
    | zero =>
      intro k i hi hk
      obtain ⟨k, rfl⟩ : ∃ m, k = m + 1 := ⟨k - 1, by omega⟩
      obtain rfl : i = n := by omega
      rw [hend k]
      rfl
    | succ d ih =>
      intro k i hi hk
      obtain ⟨k, rfl⟩ : ∃ m, k = m + 1 := ⟨k - 1, by omega⟩
      rw [hstep k i (by omega), List.range_succ_eq_map, List.all_cons, List.all_map]
      by_cases h : p i = true
      · rw [if_pos h, ih k (i + 1) (by omega) (by omega)]
        simp only [Nat.add_zero, h, Bool.true_and]
        congr 1
        apply List.all_congr rfl
        intro j
        simp only [Function.comp]
        congr 1
        omega
      · rw [if_neg h]
        simp [h]
  have h := key n k 0 (by omega) hk
  simp only [Nat.zero_add] at h
  exact h
theorem all_loop_true (L : Nat → Int → Option Bool) (n : Nat)
    (hstep : ∀ (k i : Nat), i < n → L (k + 1) (i : Int) = L k ((i + 1 : Nat) : Int))
    (hend : ∀ k : Nat, L (k + 1) (n : Int) = some true) (k : Nat) (hk : n < k) : L k 0 = some true := by
  have h := all_loop L n (fun _ => true) (fun k i hi => by rw [if_pos rfl]; exact hstep k i hi) hend k hk
  rw [h]
  simp

theorem wraps_i64 (n : Int) (h0 : 0 ≤ n) (h1 : n < 2 ^ 62) : IntKind.i64.wrap n = n := by
  rw [IntKind.wrap_i64]
  omega
theorem xor_i64 (a b : Nat) (ha : a < 2 ^ 62) (hb : b < 2 ^ 62) : Go.bits .xor .i64 (a : Int) (b : Int) = ((a ^^^ b : Nat) : Int) := by
  have ha' : a % 2 ^ IntKind.i64.bits = a := Nat.mod_eq_of_lt (Nat.lt_trans ha (by decide))
  have hb' : b % 2 ^ IntKind.i64.bits = b := Nat.mod_eq_of_lt (Nat.lt_trans hb (by decide))
  simp only [Go.bits, BitVec.ofInt_natCast, BitVec.toNat_xor, BitVec.toNat_ofNat, ha', hb']
  exact wraps_i64 _ (Int.natCast_nonneg _) (by exact_mod_cast Nat.xor_lt_two_pow ha hb)
theorem xor_nonneg (a b : Int) (ha0 : 0 ≤ a) (ha : a < 2 ^ 62) (hb0 : 0 ≤ b) (hb : b < 2 ^ 62) : 0 ≤ Go.bits .xor .i64 a b ∧ Go.bits .xor .i64 a b < 2 ^ 62 := by
  obtain ⟨m, rfl⟩ := Int.eq_ofNat_of_zero_le ha0
  obtain ⟨n, rfl⟩ := Int.eq_ofNat_of_zero_le hb0
  rw [xor_i64 m n (by omega) (by omega)]
  exact ⟨Int.natCast_nonneg _, by exact_mod_cast Nat.xor_lt_two_pow (by omega) (by omega)⟩
theorem rd_u8 {l : List Int} (hl : ∀ x ∈ l, (Lit.int .u8 x).wf = true) (i : Int) : 0 ≤ rd l i ∧ rd l i ≤ 255 := by
  unfold rd
  rw [List.getD_eq_getElem?_getD]
  by_cases h : i.toNat < l.length
  · rw [List.getElem?_eq_getElem h]
    exact wf_u8 (hl _ (List.getElem_mem h))
  · rw [List.getElem?_eq_none (by omega)]
    simp
theorem rd_in {l : List Int} {lo hi : Int} (hl : ∀ x ∈ l, lo ≤ x ∧ x ≤ hi) (h0 : lo ≤ 0) (h1 : 0 ≤ hi) (i : Int) : lo ≤ rd l i ∧ rd l i ≤ hi := by
  unfold rd
  rw [List.getD_eq_getElem?_getD]
  by_cases h : i.toNat < l.length
  · rw [List.getElem?_eq_getElem h]
    exact hl _ (List.getElem_mem h)
  · rw [List.getElem?_eq_none (by omega)]
    exact ⟨h0, h1⟩
end Go.Proofs.YtcnipdbommmkmaaPl
