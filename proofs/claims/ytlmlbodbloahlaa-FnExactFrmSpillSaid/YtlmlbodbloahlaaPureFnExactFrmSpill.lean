/- The pure statement of FnExactFrmSpill: the program's FrmSpill and the reference's read the same out of a body, in memory of its own, and the argument stays. Conditions: bytes. -/
import Derived.Test.YtlmlbodbloahlaaPFnExactFrmSpillx2
import Derived.Test.YtlmlbodbloahlaaPl
set_option linter.unusedSimpArgs false
set_option linter.unusedVariables false
namespace Go.Proofs.Ytlmlbodbloahlaa.Pure
open Go.RowKit Go.Proofs.Ytlmlbodbloahlaa.PFnExactFrmSpill Go.Proofs.YtlmlbodbloahlaaW.PrintWords Go.Proofs.YtlmlbodbloahlaaW.PrintLast Go.Proofs.YtlmlbodbloahlaaW.PrintMore Go.Proofs.YtlmlbodbloahlaaPl

namespace FnExactFrmSpill_
theorem toByteS_eq (l : List Int) (hl : l.length ≤ 1048576) (k : Nat) (hk : l.length < k) : laws_toByteS.f k l = some l := by
  unfold laws_toByteS.f
  rw [if_pos (by omega), if_pos (by omega)]
  have h := map_loop (fun k y i => laws_toByteS.l0 k l y i) l id (fun k y i hi hy => by
    simp only [laws_toByteS.l0]
    rw [if_pos (by omega), if_pos (by omega), if_pos (by omega), wrap_nat (by omega), rd_nat l i hi]
    rfl) (fun k y hy => by
    simp only [laws_toByteS.l0]
    rw [if_neg (by omega)]) k (List.replicate ((l.length : Int) : Int).toNat 0) (by simp) hk
  simpa using h
theorem eqByteS_self (l : List Int) (hl : l.length ≤ 1048576) (k : Nat) (hk : l.length < k) : laws_eqByteS.f k l l = some true := by
  unfold laws_eqByteS.f
  rw [if_pos rfl]
  exact all_loop_true (fun k i => laws_eqByteS.l0 k l l i) l.length (fun k i hi => by
    simp only [laws_eqByteS.l0]
    rw [if_pos (by omega), if_pos (by omega), if_pos (by omega), if_pos trivial, wrap_nat (by omega)]) (fun k => by
    simp only [laws_eqByteS.l0]
    rw [if_neg (by omega)]) k hk
/-- 'so many numbers, one behind the other'. -/
def from_ (a : Int) (n : Nat) : List Int := (List.range n).map fun (i : Nat) => (a + (i : Int)) % 256
theorem markByte_loop (l : List Int) (a : Int) (ha : 0 ≤ a) (hl : l.length ≤ 1048576) (ha1 : a ≤ 100000000) : ∀ (d k i : Nat) (y : List Int), i + d = l.length → y.length = l.length → d < k →
    laws_markByteS.l0 k y (a + (i : Int)) (i : Int) = some (a + (l.length : Int), y.take i ++ from_ (a + (i : Int)) d) := by
  intro d
  induction d with
  | zero =>
    intro k i y hi hy hk
    obtain ⟨k, rfl⟩ : ∃ m, k = m + 1 := ⟨k - 1, by omega⟩
    simp only [laws_markByteS.l0]
    rw [if_neg (by omega), List.take_of_length_le (by omega)]
    obtain rfl : i = l.length := by omega
    simp [from_]
  | succ d ih =>
    intro k i y hi hy hk
    obtain ⟨k, rfl⟩ : ∃ m, k = m + 1 := ⟨k - 1, by omega⟩
    simp only [laws_markByteS.l0]
    rw [if_pos (by omega), if_pos (by omega), wrap_nat (by omega), wrap_in (by omega) (by omega), show a + (i : Int) + 1 = a + ((i + 1 : Nat) : Int) by omega, ih k (i + 1) _ (by omega) (by rw [List.length_set]; exact hy) (by omega)]
    congr 2
    rw [List.take_succ_eq_append_getElem (by rw [List.length_set]; omega), List.append_assoc]
    have e1 : ((i : Int).toNat) = i := by omega
    simp only [e1]
    rw [List.getElem_set_self, List.take_set_of_le (Nat.le_refl i)]
    congr 1
    unfold from_
    rw [List.range_succ_eq_map, List.map_cons, List.map_map, List.singleton_append]
    congr 1
    · omega
    · apply List.map_congr_left
      intro j _
      simp only [Function.comp]
      omega
theorem markByte_eq (l : List Int) (a : Int) (ha : 0 ≤ a) (hl : l.length ≤ 1048576) (ha1 : a ≤ 100000000) (k : Nat) (hk : l.length < k) : laws_markByteS.f k l a = some (a + (l.length : Int), from_ a l.length) := by
  have h := markByte_loop l a ha hl ha1 l.length k 0 l (by omega) rfl hk
  unfold laws_markByteS.f
  simp only [List.take_zero, List.nil_append, Int.add_zero, Int.natCast_zero] at h
  exact h
theorem from_length (a : Int) (n : Nat) : (from_ a n).length = n := by simp [from_]
theorem heldByte_loop (n : Nat) (a : Int) (ha : 0 ≤ a) (hl : n ≤ 1048576) (ha1 : a ≤ 100000000) : ∀ (d k i : Nat), i + d = n → d < k →
    laws_heldByteS.l0 k (from_ a n) (a + (i : Int)) (i : Int) = some (a + (n : Int)) := by
  intro d
  induction d with
  | zero =>
    intro k i hi hk
    obtain ⟨k, rfl⟩ : ∃ m, k = m + 1 := ⟨k - 1, by omega⟩
    simp only [laws_heldByteS.l0, from_length]
    rw [if_neg (by omega)]
    obtain rfl : i = n := by omega
    rfl
  | succ d ih =>
    intro k i hi hk
    obtain ⟨k, rfl⟩ : ∃ m, k = m + 1 := ⟨k - 1, by omega⟩
    have hr : rd (from_ a n) (i : Int) = (a + (i : Int)) % 256 := by
      rw [rd_nat _ _ (by rw [from_length]; omega)]
      simp [from_]
    simp only [laws_heldByteS.l0, from_length]
    rw [if_pos (by omega), if_pos (by omega), if_pos hr, wrap_nat (by omega), wrap_in (by omega) (by omega), show a + (i : Int) + 1 = a + ((i + 1 : Nat) : Int) by omega]
    exact ih k (i + 1) (by omega) (by omega)
theorem heldByte_eq (n : Nat) (a : Int) (ha : 0 ≤ a) (hl : n ≤ 1048576) (ha1 : a ≤ 100000000) (k : Nat) (hk : n < k) : laws_heldByteS.f k (from_ a n) a = some (a + (n : Int)) := by
  have h := heldByte_loop n a ha hl ha1 n k 0 (by omega) hk
  unfold laws_heldByteS.f
  simpa using h
open Go.Proofs.YtlmlbodbloahlaaFrmSpill
theorem copy_eq (l : List Int) (h : l.length ≤ 100) : spec_l2Copy.f l = some l := by
  unfold spec_l2Copy.f
  rw [Option.bind_some, if_pos (by simp; omega)]
  rfl
theorem specSpill_loop (l : List Int) (h9 : l.length = 9) (n : Nat) (hn9 : n ≤ 9) : ∀ (d k i : Nat), i + d = 9 → 1 ≤ i → d < k →
    spec_FrmSpill.l0 k l (n : Int) (i : Int) = if (l.drop i).all (fun x => x == 0) = true then (if n = 0 then some ([], false, true) else some ((l.take n).drop 1, true, true)) else some ([], false, false) := by
  intro d
  induction d with
  | zero =>
    intro k i hi h1 hk
    obtain ⟨k, rfl⟩ : ∃ m, k = m + 1 := ⟨k - 1, by omega⟩
    simp only [spec_FrmSpill.l0]
    have e0 : l.drop i = [] := List.drop_eq_nil_of_le (by omega)
    rw [if_neg (by omega), e0]
    by_cases hz : n = 0
    · rw [if_pos (by omega)]
      simp [hz]
    · rw [if_neg (by omega), if_pos (by omega), if_pos (by omega), Int.toNat_natCast, copy_eq _ (by simp; omega)]
      simp [hz]
  | succ d ih =>
    intro k i hi h1 hk
    obtain ⟨k, rfl⟩ : ∃ m, k = m + 1 := ⟨k - 1, by omega⟩
    simp only [spec_FrmSpill.l0]
    have e0 : l.drop i = l[i] :: l.drop (i + 1) := List.drop_eq_getElem_cons (by omega)
    rw [if_pos (by omega), if_pos (by omega), if_pos (by omega), if_pos (by omega), rd_nat l i (by omega), e0, wrap_nat (by omega)]
    by_cases hx : l[i] = 0
    · rw [if_pos hx, ih k (i + 1) (by omega) (by omega) (by omega), hx]
      simp
    · have hx' : (l[i] == 0) = false := by simpa using hx
      rw [if_neg hx, List.all_cons, hx', Bool.false_and, if_neg (by simp)]
theorem specSpill_eq (l : List Int) (hb : ∀ x ∈ l, (Lit.int .u8 x).wf = true) (k : Nat) (hk : 15 ≤ k) : spec_FrmSpill.f k l = some (spillV l) := by
  obtain ⟨k, rfl⟩ : ∃ m, k = m + 1 + 1 := ⟨k - 2, by omega⟩
  have hr := rd_u8 hb 0
  unfold spec_FrmSpill.f spillV
  by_cases h9 : l.length = 9
  · rw [if_pos (by omega), if_pos (by omega)]
    simp only [spec_FrmSpill.j0]
    rw [wrap_in (by omega) (by omega)]
    by_cases hn : rd l 0 ≤ 9
    · rw [if_neg (by simp; omega), if_pos (by omega)]
      obtain ⟨n, e⟩ := Int.eq_ofNat_of_zero_le hr.1
      rw [e] at hn ⊢
      by_cases hz : n = 0
      · subst hz
        have s1 : start_ ((0 : Nat) : Int) = 1 := rfl
        have L := specSpill_loop l h9 0 (by omega) 8 k 1 (by omega) (by omega) (by omega)
        have e0 : spec_FrmSpill.l0 (k + 1) l ((0 : Nat) : Int) ((0 : Nat) : Int) = spec_FrmSpill.l0 k l ((0 : Nat) : Int) ((1 : Nat) : Int) := by
          rw [spec_FrmSpill.l0, if_pos (by omega), if_neg (by omega), wrap_in (by omega) (by omega)]
          rfl
        rw [if_pos rfl] at L
        rw [e0, L, s1]
        by_cases hq : zeros l 1 = true
        · have hq' : (l.drop 1).all (fun x => x == 0) = true := hq
          rw [if_pos hq', if_pos ⟨h9, hn, hq⟩]
          cases l <;> rfl
        · have hq' : ¬ (l.drop 1).all (fun x => x == 0) = true := hq
          rw [if_neg hq', if_neg (fun h => hq h.2.2)]
      · have s1 : start_ (n : Int) = n := by
          unfold Go.Proofs.YtlmlbodbloahlaaFrmSpill.start_
          rw [if_neg (by omega)]
          omega
        rw [specSpill_loop l h9 n (by omega) (9 - n) (k + 1) n (by omega) (by omega) (by omega), s1, if_neg hz]
        by_cases hq : zeros l n = true
        · have hq' := hq
          unfold zeros at hq'
          rw [if_pos hq', if_pos ⟨h9, hn, hq⟩, show ((n : Int) != 0) = true by rw [bne_iff_ne]; omega]
        · have hq' := hq
          unfold zeros at hq'
          rw [if_neg hq', if_neg (fun h => hq h.2.2)]
    · rw [if_pos (by simp; omega), if_neg (fun h => hn h.2.1)]
  · rw [if_neg (by omega), if_neg (fun h => h9 h.1)]
    simp only [spec_FrmSpill.j0]
    rfl
theorem implSpill_eq (l : List Int) (hb : ∀ x ∈ l, (Lit.int .u8 x).wf = true) : impl_FrmSpill.f l = some (spillV l) := by
  unfold impl_FrmSpill.f
  rw [if_pos (rd_u8 hb 0).1]
theorem spill_len (l : List Int) : (spillV l).1.length ≤ 9 := by
  unfold spillV
  split
  · rename_i h
    simp
    omega
  · simp
end FnExactFrmSpill_
open FnExactFrmSpill_
open Go.Proofs.YtlmlbodbloahlaaFrmSpill
theorem FnExactFrmSpill : laws_FnExactFrmSpill.Pure := by
  intro l hm hw
  obtain ⟨K, hK⟩ : ∃ K : Nat, 1048600 ≤ K := ⟨1048600, Nat.le_refl _⟩
  refine ⟨K + 1 + 1 + 1, ?_⟩
  unfold laws_FnExactFrmSpill.f
  by_cases hb : (l.length : Int) > 1048576
  · rw [if_pos hb]
  · have hl : l.length ≤ 1048576 := by omega
    have T : ∀ k, 1048577 ≤ k → laws_toByteS.f k l = some l := fun k hk => toByteS_eq l hl k (by omega)
    have E1 : ∀ k, 1048577 ≤ k → laws_eqByteS.f k l l = some true := fun k hk => eqByteS_self l hl k (by omega)
    have M1 : ∀ k, 1048577 ≤ k → laws_markByteS.f k l 1 = some (1 + (l.length : Int), from_ 1 l.length) := fun k hk => markByte_eq l 1 (by omega) hl (by omega) k (by omega)
    have hv := spill_len l
    have F : ∀ k, 1048577 ≤ k → spec_FrmSpill.f k l = some (spillV l) := fun k hk => specSpill_eq l hw k (by omega)
    have G := implSpill_eq l hw
    generalize spillV l = v at *
    obtain ⟨v, b1, b2⟩ := v
    replace hv : v.length ≤ 9 := hv
    have E2 : ∀ k, 1048577 ≤ k → laws_eqByteS.f k v v = some true := fun k hk => eqByteS_self v (by omega) k (by omega)
    have M2 : ∀ k, 1048577 ≤ k → laws_markByteS.f k v 1 = some (1 + (v.length : Int), from_ 1 v.length) := fun k hk => markByte_eq v 1 (by omega) (by omega) (by omega) k (by omega)
    have H2 : ∀ k, 1048577 ≤ k → laws_heldByteS.f k (from_ 1 v.length) 1 = some (1 + (v.length : Int)) := fun k hk => heldByte_eq v.length 1 (by omega) (by omega) (by omega) k (by omega)
    rw [if_neg hb, T _ (by omega)]
    simp only [Option.bind_some]
    rw [F _ (by omega)]
    simp only [Option.bind_some, G]
    rw [E2 _ (by omega)]
    simp only [Option.bind_some, if_true, bne_self_eq_false, Bool.false_eq_true, if_false, laws_FnExactFrmSpill.j0]
    rw [T _ (by omega)]
    simp only [Option.bind_some]
    rw [E1 _ (by omega)]
    simp only [Option.bind_some, if_true]
    rw [M1 _ (by omega)]
    simp only [Option.bind_some]
    rw [if_neg (by omega), E2 _ (by omega)]
    simp only [Option.bind_some, if_true, bne_self_eq_false, Bool.false_eq_true, if_false, laws_FnExactFrmSpill.j1]
    rw [M2 _ (by omega)]
    simp only [Option.bind_some]
    rw [H2 _ (by omega)]
    simp only [Option.bind_some]
    rw [if_neg (by omega), if_pos trivial, T _ (by omega)]
    simp only [Option.bind_some, G]
    rw [E2 _ (by omega)]
    simp only [Option.bind_some, if_true, bne_self_eq_false, Bool.false_eq_true, if_false, laws_FnExactFrmSpill.j2]
    rw [H2 _ (by omega)]
    simp only [Option.bind_some]
    rw [if_neg (by omega), if_pos trivial]

end Go.Proofs.Ytlmlbodbloahlaa.Pure
