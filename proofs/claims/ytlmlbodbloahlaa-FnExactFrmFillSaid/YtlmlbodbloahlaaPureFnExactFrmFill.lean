/- The pure statement of FnExactFrmFill: the program's FrmFill and the reference's make the same body, in memory of its own, and the argument stays. Conditions: bytes. -/
import Derived.Test.YtlmlbodbloahlaaPFnExactFrmFillx2
import Derived.Test.YtlmlbodbloahlaaPl
namespace Go.Proofs.Ytlmlbodbloahlaa.Pure
open Go.RowKit Go.Proofs.Ytlmlbodbloahlaa.PFnExactFrmFill Go.Proofs.YtlmlbodbloahlaaW.PrintWords Go.Proofs.YtlmlbodbloahlaaW.PrintLast Go.Proofs.YtlmlbodbloahlaaW.PrintMore Go.Proofs.YtlmlbodbloahlaaPl

namespace FnExactFrmFill_
theorem toByteS_eq (l : List Int) (hl : l.length ≤ 1048576) (k : Nat) (hk : l.length < k) : laws_toByteS.f k l = some l := by
  unfold laws_toByteS.f
  rw [if_pos (by omega), if_pos (by omega)]
  have h := map_loop (fun k y i => laws_toByteS.l0 k l y i) l id (fun k y i hi hy => by
    simp only [laws_toByteS.l0]
    rw [if_pos (by omega), if_pos (by omega), if_pos (by omega), wrap_nat (by omega), rd_nat l i hi]
    rfl) (fun k y hy => by
    simp only [laws_toByteS.l0]
    rw [if_neg (by omega)]) k (List.replicate ((l.length : Int) : Int).toNat 0) (by simp) hk
  simpa using h
theorem eqByteS_self (l : List Int) (hl : l.length ≤ 1048576) (k : Nat) (hk : l.length < k) : laws_eqByteS.f k l l = some true := by
  unfold laws_eqByteS.f
  rw [if_pos rfl]
  exact all_loop_true (fun k i => laws_eqByteS.l0 k l l i) l.length (fun k i hi => by
    simp only [laws_eqByteS.l0]
    rw [if_pos (by omega), if_pos (by omega), if_pos (by omega), if_pos trivial, wrap_nat (by omega)]) (fun k => by
    simp only [laws_eqByteS.l0]
    rw [if_neg (by omega)]) k hk
/-- 'so many numbers, one behind the other'. -/
def from_ (a : Int) (n : Nat) : List Int := (List.range n).map fun (i : Nat) => (a + (i : Int)) % 256
theorem markByte_loop (l : List Int) (a : Int) (ha : 0 ≤ a) (hl : l.length ≤ 1048576) (ha1 : a ≤ 100000000) : ∀ (d k i : Nat) (y : List Int), i + d = l.length → y.length = l.length → d < k →
    laws_markByteS.l0 k y (a + (i : Int)) (i : Int) = some (a + (l.length : Int), y.take i ++ from_ (a + (i : Int)) d) := by
  intro d
  induction d with
  | zero =>
    intro k i y hi hy hk
    obtain ⟨k, rfl⟩ : ∃ m, k = m + 1 := ⟨k - 1, by omega⟩
    simp only [laws_markByteS.l0]
    rw [if_neg (by omega), List.take_of_length_le (by omega)]
    obtain rfl : i = l.length := by omega
    simp [from_]
  | succ d ih =>
    intro k i y hi hy hk
    obtain ⟨k, rfl⟩ : ∃ m, k = m + 1 := ⟨k - 1, by omega⟩
    simp only [laws_markByteS.l0]
    rw [if_pos (by omega), if_pos (by omega), wrap_nat (by omega), wrap_in (by omega) (by omega), show a + (i : Int) + 1 = a + ((i + 1 : Nat) : Int) by omega, ih k (i + 1) _ (by omega) (by rw [List.length_set]; exact hy) (by omega)]
    congr 2
    rw [List.take_succ_eq_append_getElem (by rw [List.length_set]; omega), List.append_assoc]
    have e1 : ((i : Int).toNat) = i := by omega
    simp only [e1]
    rw [List.getElem_set_self, List.take_set_of_le (Nat.le_refl i)]
    congr 1
    unfold from_
    rw [List.range_succ_eq_map, List.map_cons, List.map_map, List.singleton_append]
    congr 1
    · omega
    · apply List.map_congr_left
      intro j _
      simp only [Function.comp]
      omega
theorem markByte_eq (l : List Int) (a : Int) (ha : 0 ≤ a) (hl : l.length ≤ 1048576) (ha1 : a ≤ 100000000) (k : Nat) (hk : l.length < k) : laws_markByteS.f k l a = some (a + (l.length : Int), from_ a l.length) := by
  have h := markByte_loop l a ha hl ha1 l.length k 0 l (by omega) rfl hk
  unfold laws_markByteS.f
  simp only [List.take_zero, List.nil_append, Int.add_zero, Int.natCast_zero] at h
  exact h
theorem from_length (a : Int) (n : Nat) : (from_ a n).length = n := by simp [from_]
theorem heldByte_loop (n : Nat) (a : Int) (ha : 0 ≤ a) (hl : n ≤ 1048576) (ha1 : a ≤ 100000000) : ∀ (d k i : Nat), i + d = n → d < k →
    laws_heldByteS.l0 k (from_ a n) (a + (i : Int)) (i : Int) = some (a + (n : Int)) := by
  intro d
  induction d with
  | zero =>
    intro k i hi hk
    obtain ⟨k, rfl⟩ : ∃ m, k = m + 1 := ⟨k - 1, by omega⟩
    simp only [laws_heldByteS.l0, from_length]
    rw [if_neg (by omega)]
    obtain rfl : i = n := by omega
    rfl
  | succ d ih =>
    intro k i hi hk
    obtain ⟨k, rfl⟩ : ∃ m, k = m + 1 := ⟨k - 1, by omega⟩
    have hr : rd (from_ a n) (i : Int) = (a + (i : Int)) % 256 := by
      rw [rd_nat _ _ (by rw [from_length]; omega)]
      simp [from_]
    simp only [laws_heldByteS.l0, from_length]
    rw [if_pos (by omega), if_pos (by omega), if_pos hr, wrap_nat (by omega), wrap_in (by omega) (by omega), show a + (i : Int) + 1 = a + ((i + 1 : Nat) : Int) by omega]
    exact ih k (i + 1) (by omega) (by omega)
theorem heldByte_eq (n : Nat) (a : Int) (ha : 0 ≤ a) (hl : n ≤ 1048576) (ha1 : a ≤ 100000000) (k : Nat) (hk : n < k) : laws_heldByteS.f k (from_ a n) a = some (a + (n : Int)) := by
  have h := heldByte_loop n a ha hl ha1 n k 0 (by omega) hk
  unfold laws_heldByteS.f
  simpa using h
open Go.Proofs.YtlmlbodbloahlaaFrmFill
theorem pad_loop : ∀ (d k : Nat) (y : List Int), y.length + d = 9 → d < k → spec_FrmFill.l0 k y = some (y ++ List.replicate d 0) := by
  intro d
  induction d with
  | zero =>
    intro k y hy hk
    obtain ⟨k, rfl⟩ : ∃ m, k = m + 1 := ⟨k - 1, by omega⟩
    simp only [spec_FrmFill.l0]
    rw [if_neg (by omega)]
    simp
  | succ d ih =>
    intro k y hy hk
    obtain ⟨k, rfl⟩ : ∃ m, k = m + 1 := ⟨k - 1, by omega⟩
    simp only [spec_FrmFill.l0]
    rw [if_pos (by omega), if_pos (by omega), ih k (y ++ [0]) (by rw [List.length_append, List.length_singleton]; omega) (by omega), List.append_assoc]
    rfl
theorem specFill_eq (l : List Int) (r : Bool) (k : Nat) (hk : 15 ≤ k) : spec_FrmFill.f k l r = some (fill l r) := by
  obtain ⟨k, rfl⟩ : ∃ m, k = m + 1 + 1 := ⟨k - 2, by omega⟩
  unfold spec_FrmFill.f spec_BytMessage.f fill
  simp only [Option.bind_some, spec_FrmFill.j0, spec_FrmFill.j1]
  by_cases h8 : l.length ≤ 8
  · rw [if_pos (by simpa using (by omega : (l.length : Int) ≤ 8)), if_pos h8]
    have e : wrap64 ((l.length : Int) + 1) % 256 = (l.length : Int) + 1 := by
      rw [wrap_in (by omega) (by omega)]
      omega
    cases r
    · by_cases h0 : l.length = 0
      · obtain rfl := List.eq_nil_of_length_eq_zero h0
        rw [if_neg (by simp), if_neg (by simp), if_neg (by simp), if_pos (by simp), pad_loop 8 _ _ (by simp) (by omega)]
        rfl
      · rw [if_neg (by simp), if_pos (by simpa using (by omega : 0 < l.length)), if_neg (by simp), if_neg h0]
    · rw [if_pos rfl, if_neg (by simp), if_pos rfl, if_pos (by simp), if_pos rfl]
      simp only [Int.toNat_zero, List.set_cons_zero, e]
      rw [if_pos (by simp; omega), pad_loop (8 - l.length) _ _ (by simp; omega) (by omega)]
      simp
  · rw [if_neg (by simpa using (by omega : 8 < (l.length : Int))), if_pos trivial, if_neg h8]
theorem implFill_eq (l : List Int) (r : Bool) : impl_FrmFill.f l r = some (fill l r) := rfl
theorem fill_len (l : List Int) (r : Bool) : (fill l r).length ≤ 9 := by
  unfold fill
  split
  · split
    · simp
      omega
    · split <;> simp
  · simp
end FnExactFrmFill_
open FnExactFrmFill_
open Go.Proofs.YtlmlbodbloahlaaFrmFill
theorem FnExactFrmFill : laws_FnExactFrmFill.Pure := by
  intro l r hm _
  obtain ⟨K, hK⟩ : ∃ K : Nat, 1048600 ≤ K := ⟨1048600, Nat.le_refl _⟩
  refine ⟨K + 1, ?_⟩
  unfold laws_FnExactFrmFill.f
  by_cases hb : (l.length : Int) > 1048576
  · rw [if_pos hb]
  · have hl : l.length ≤ 1048576 := by omega
    have T : ∀ k, 1048577 ≤ k → laws_toByteS.f k l = some l := fun k hk => toByteS_eq l hl k (by omega)
    have E1 : ∀ k, 1048577 ≤ k → laws_eqByteS.f k l l = some true := fun k hk => eqByteS_self l hl k (by omega)
    have hv := fill_len l r
    have F : ∀ k, 1048577 ≤ k → spec_FrmFill.f k l r = some (fill l r) := fun k hk => specFill_eq l r k (by omega)
    have G := implFill_eq l r
    generalize fill l r = v at *
    have E2 : ∀ k, 1048577 ≤ k → laws_eqByteS.f k v v = some true := fun k hk => eqByteS_self v (by omega) k (by omega)
    have M1 : ∀ k, 1048577 ≤ k → laws_markByteS.f k l 1 = some (1 + (l.length : Int), from_ 1 l.length) := fun k hk => markByte_eq l 1 (by omega) hl (by omega) k (by omega)
    have M2 : ∀ k, 1048577 ≤ k → laws_markByteS.f k v 1 = some (1 + (v.length : Int), from_ 1 v.length) := fun k hk => markByte_eq v 1 (by omega) (by omega) (by omega) k (by omega)
    have H2 : ∀ k, 1048577 ≤ k → laws_heldByteS.f k (from_ 1 v.length) 1 = some (1 + (v.length : Int)) := fun k hk => heldByte_eq v.length 1 (by omega) (by omega) (by omega) k (by omega)
    rw [if_neg hb, T _ (by omega)]
    simp only [Option.bind_some]
    rw [F _ (by omega)]
    simp only [Option.bind_some, G]
    rw [E2 _ (by omega)]
    simp only [Option.bind_some, if_true]
    rw [E1 _ (by omega)]
    simp only [Option.bind_some, if_true]
    rw [M1 _ (by omega)]
    simp only [Option.bind_some]
    rw [if_neg (by omega)]
    simp only [laws_FnExactFrmFill.j0]
    rw [if_neg (by simp), M2 _ (by omega)]
    simp only [Option.bind_some]
    rw [H2 _ (by omega)]
    simp only [Option.bind_some]
    rw [if_neg (by omega), if_pos trivial, T _ (by omega)]
    simp only [Option.bind_some, G]
    rw [E2 _ (by omega)]
    simp only [Option.bind_some, if_true]
    rw [if_neg (by omega)]

end Go.Proofs.Ytlmlbodbloahlaa.Pure
