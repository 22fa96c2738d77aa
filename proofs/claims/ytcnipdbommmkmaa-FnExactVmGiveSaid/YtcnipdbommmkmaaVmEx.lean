/- What the laws of the machine's answers call, each for every world: copies, comparisons, numbers; and both answers, alike. Conditions: rows of bounded length. -/
import Derived.Test.YtcnipdbommmkmaaPVmExx1
import Derived.Test.YtcnipdbommmkmaaPVmExx2
import Derived.Test.YtcnipdbommmkmaaPVmExx3
import Derived.Test.YtcnipdbommmkmaaPVmExx4
import Derived.Test.YtcnipdbommmkmaaPVmExx5
import Derived.Test.YtcnipdbommmkmaaPVmExx6
import Derived.Test.YtcnipdbommmkmaaPVmExx7
import Derived.Test.YtcnipdbommmkmaaVPl
import Derived.Test.YtcnipdbommmkmaaVVmOk
set_option linter.unusedVariables false
set_option linter.unusedSimpArgs false
namespace Go.Proofs.YtcnipdbommmkmaaVmEx
open Go.RowKit Go.Proofs.YtcnipdbommmkmaaW.PrintWords Go.Proofs.YtcnipdbommmkmaaPl Go.Proofs.Ytcnipdbommmkmaa.PVmEx Go.Proofs
theorem l1In_eq (a b c : Int) : spec_l1In.f a b c = some (decide (b ≤ a ∧ a ≤ c)) := by
  unfold spec_l1In.f
  by_cases h1 : b ≤ a
  · rw [if_pos h1]
    simp [h1]
  · rw [if_neg h1]
    simp [h1]
theorem toIntS_eq (l : List Int) (hl : l.length ≤ 1048576) (k : Nat) (hk : l.length < k) : laws_toIntS.f k l = some l := by
  unfold laws_toIntS.f
  rw [if_pos (by omega), if_pos (by omega)]
  have h := map_loop (fun k y i => laws_toIntS.l0 k l y i) l id (fun k y i hi hy => by
    simp only [laws_toIntS.l0]
    rw [if_pos (by omega), if_pos (by omega), if_pos (by omega), wrap_nat (by omega), rd_nat l i hi]
    rfl) (fun k y hy => by
    simp only [laws_toIntS.l0]
    rw [if_neg (by omega)]) k (List.replicate ((l.length : Int) : Int).toNat 0) (by simp) hk
  simpa using h
theorem eqIntS_self (l : List Int) (hl : l.length ≤ 1048576) (k : Nat) (hk : l.length < k) : laws_eqIntS.f k l l = some true := by
  unfold laws_eqIntS.f
  rw [if_pos rfl]
  exact all_loop_true (fun k i => laws_eqIntS.l0 k l l i) l.length (fun k i hi => by
    simp only [laws_eqIntS.l0]
    rw [if_pos (by omega), if_pos (by omega), if_pos (by omega), if_pos trivial, wrap_nat (by omega)]) (fun k => by
    simp only [laws_eqIntS.l0]
    rw [if_neg (by omega)]) k hk
theorem toByteS_eq (l : List Int) (hl : l.length ≤ 1048576) (k : Nat) (hk : l.length < k) : laws_toByteS.f k l = some l := by
  unfold laws_toByteS.f
  rw [if_pos (by omega), if_pos (by omega)]
  have h := map_loop (fun k y i => laws_toByteS.l0 k l y i) l id (fun k y i hi hy => by
    simp only [laws_toByteS.l0]
    rw [if_pos (by omega), if_pos (by omega), if_pos (by omega), wrap_nat (by omega), rd_nat l i hi]
    rfl) (fun k y hy => by
    simp only [laws_toByteS.l0]
    rw [if_neg (by omega)]) k (List.replicate ((l.length : Int) : Int).toNat 0) (by simp) hk
  simpa using h
theorem eqByteS_self (l : List Int) (hl : l.length ≤ 1048576) (k : Nat) (hk : l.length < k) : laws_eqByteS.f k l l = some true := by
  unfold laws_eqByteS.f
  rw [if_pos rfl]
  exact all_loop_true (fun k i => laws_eqByteS.l0 k l l i) l.length (fun k i hi => by
    simp only [laws_eqByteS.l0]
    rw [if_pos (by omega), if_pos (by omega), if_pos (by omega), if_pos trivial, wrap_nat (by omega)]) (fun k => by
    simp only [laws_eqByteS.l0]
    rw [if_neg (by omega)]) k hk
open Go.Proofs.YtcnipdbommmkmaaVmOk
theorem szIntS_eq (x : List Int) (b : Int) (hx : x.length ≤ maxLen) (hb0 : 0 ≤ b) (hb1 : b ≤ 1048576) : laws_szIntS.f x b = some (if (x.length : Int) ≤ b then b - (x.length : Int) else -1) := by
  unfold laws_szIntS.f
  have : maxLen = 9223372036854775807 := rfl
  rw [wrap_in (by omega) (by omega)]
  by_cases h : (x.length : Int) ≤ b
  · rw [if_neg (by omega), if_pos h]
  · rw [if_pos (by omega), if_neg h]
theorem szVm_eq (pc h : Int) (l1 l2 : List Int) (h1 : l1.length ≤ maxLen) (h2 : l2.length ≤ maxLen) (b : Int) (hb0 : 0 ≤ b) (hb1 : b ≤ 1048576) :
    ∃ r, laws_szVmState.f pc l1 l2 h b = some r ∧ r ≤ 1048576 ∧ (r < 0 ∨ (l1.length ≤ 1048576 ∧ l2.length ≤ 1048576)) := by
  unfold laws_szVmState.f
  rw [szIntS_eq _ _ h1 hb0 hb1]
  simp only [Option.bind_some]
  by_cases c : (l1.length : Int) ≤ b
  · rw [if_pos c, if_neg (by omega), szIntS_eq _ _ h2 (by omega) (by omega)]
    simp only [Option.bind_some]
    by_cases c2 : (l2.length : Int) ≤ b - (l1.length : Int)
    · rw [if_pos c2, if_neg (by omega)]
      exact ⟨_, rfl, by omega, Or.inr (by omega)⟩
    · rw [if_neg c2, if_pos (by omega)]
      exact ⟨_, rfl, by omega, Or.inl (by omega)⟩
  · rw [if_neg c, if_pos (by omega)]
    exact ⟨_, rfl, by omega, Or.inl (by omega)⟩
theorem toVm_eq (pc h : Int) (l1 l2 : List Int) (h1 : l1.length ≤ 1048576) (h2 : l2.length ≤ 1048576) (k : Nat) (hk : 1048577 ≤ k) : laws_toVmState.f k pc l1 l2 h = some (pc, l1, l2, h) := by
  unfold laws_toVmState.f
  rw [toIntS_eq _ h1 k (by omega), Option.bind_some, toIntS_eq _ h2 k (by omega), Option.bind_some]
theorem eqVm_self (pc h : Int) (l1 l2 : List Int) (h1 : l1.length ≤ 1048576) (h2 : l2.length ≤ 1048576) (k : Nat) (hk : 1048577 ≤ k) : laws_eqVmState.f k pc l1 l2 h pc l1 l2 h = some true := by
  unfold laws_eqVmState.f
  rw [if_pos rfl, eqIntS_self _ h1 k (by omega), Option.bind_some, if_pos rfl, eqIntS_self _ h2 k (by omega), Option.bind_some, if_pos rfl, if_pos rfl]
theorem all_range (l : List Int) (f : Int → Bool) : ((List.range l.length).all fun j => f (rd l (j : Int))) = l.all f := by
  rw [Bool.eq_iff_iff, List.all_eq_true, List.all_eq_true]
  constructor
  · intro h x hx
    obtain ⟨i, hi, rfl⟩ := List.mem_iff_getElem.mp hx
    have := h i (List.mem_range.mpr hi)
    rwa [rd_nat l i hi] at this
  · intro h i hi
    have hi := List.mem_range.mp hi
    rw [rd_nat l i hi]
    exact h _ (List.getElem_mem hi)
theorem bytes_eq (l : List Int) (n : Nat) (hn : n ≤ 100) (k : Nat) (hk : 101 ≤ k) : spec_l6Bytes.f k l (n : Int) = some (decide (l.length = n) && l.all byteB) := by
  unfold spec_l6Bytes.f
  by_cases h : l.length = n
  · rw [if_pos (by omega), decide_eq_true h, Bool.true_and, ← all_range l byteB]
    exact all_loop (fun k i => spec_l6Bytes.l0 k l i) l.length (fun j => byteB (rd l (j : Int))) (fun k i hi => by
      simp only [spec_l6Bytes.l0]
      rw [if_pos (by omega), if_pos (by omega), l1In_eq, wrap_nat (by omega)]
      rfl) (fun k => by
      simp only [spec_l6Bytes.l0]
      rw [if_neg (by omega)]) k (by omega)
  · rw [if_neg (by omega), decide_eq_false h, Bool.false_and]
theorem specVmOk_eq (pc h : Int) (l1 l2 : List Int) (k : Nat) (hk : 101 ≤ k) : spec_VmOk.f k pc l1 l2 h = some (okB pc l1 l2 h) := by
  have e1 := bytes_eq l1 4 (by omega) k hk
  have e2 := bytes_eq l2 8 (by omega) k hk
  have eh : (h == 0 || (h == 1 || h == 2)) = decide (0 ≤ h ∧ h ≤ 2) := by
    rw [Bool.eq_iff_iff]
    simp
    omega
  unfold spec_VmOk.f okB
  rw [l1In_eq]
  simp only [Option.bind_some]
  rw [show ((4 : Nat) : Int) = 4 from rfl] at e1
  rw [show ((8 : Nat) : Int) = 8 from rfl] at e2
  rw [e1]
  simp only [Option.bind_some]
  rw [e2]
  simp only [Option.bind_some, l1In_eq, eh]
  cases decide (0 ≤ pc ∧ pc ≤ 24) <;> cases decide (l1.length = 4) <;> cases decide (l2.length = 8) <;> cases l1.all byteB <;> cases l2.all byteB <;> rfl
theorem implVmOk_eq (pc h : Int) (l1 l2 : List Int) : impl_VmOk.f pc l1 l2 h = some (okB pc l1 l2 h) := rfl
/-- 'so many numbers, one behind the other'. -/
def from_ (a : Int) (n : Nat) : List Int := (List.range n).map fun (i : Nat) => a + (i : Int)
theorem markInt_loop (l : List Int) (a : Int) (ha : 0 ≤ a) (hl : l.length ≤ 1048576) (ha1 : a ≤ 100000000) : ∀ (d k i : Nat) (y : List Int), i + d = l.length → y.length = l.length → d < k →
    laws_markIntS.l0 k y (a + (i : Int)) (i : Int) = some (a + (l.length : Int), y.take i ++ from_ (a + (i : Int)) d) := by
  intro d
  induction d with
  | zero =>
    intro k i y hi hy hk
    obtain ⟨k, rfl⟩ : ∃ m, k = m + 1 := ⟨k - 1, by omega⟩
    simp only [laws_markIntS.l0]
    rw [if_neg (by omega), List.take_of_length_le (by omega)]
    obtain rfl : i = l.length := by omega
    simp [from_]
  | succ d ih =>
    intro k i y hi hy hk
    obtain ⟨k, rfl⟩ : ∃ m, k = m + 1 := ⟨k - 1, by omega⟩
    simp only [laws_markIntS.l0]
    rw [if_pos (by omega), if_pos (by omega), wrap_nat (by omega), wrap_in (by omega) (by omega), show a + (i : Int) + 1 = a + ((i + 1 : Nat) : Int) by omega, ih k (i + 1) _ (by omega) (by rw [List.length_set]; exact hy) (by omega)]
    congr 2
    rw [List.take_succ_eq_append_getElem (by rw [List.length_set]; omega), List.append_assoc]
    have e1 : ((i : Int).toNat) = i := by omega
    simp only [e1]
    rw [List.getElem_set_self, List.take_set_of_le (Nat.le_refl i)]
    congr 1
    unfold from_
    rw [List.range_succ_eq_map, List.map_cons, List.map_map, List.singleton_append]
    congr 1
    · omega
    · apply List.map_congr_left
      intro j _
      simp only [Function.comp]
      omega
theorem markInt_eq (l : List Int) (a : Int) (ha : 0 ≤ a) (hl : l.length ≤ 1048576) (ha1 : a ≤ 100000000) (k : Nat) (hk : l.length < k) : laws_markIntS.f k l a = some (a + (l.length : Int), from_ a l.length) := by
  have h := markInt_loop l a ha hl ha1 l.length k 0 l (by omega) rfl hk
  unfold laws_markIntS.f
  simp only [List.take_zero, List.nil_append, Int.add_zero, Int.natCast_zero] at h
  exact h
theorem from_length (a : Int) (n : Nat) : (from_ a n).length = n := by simp [from_]
theorem heldInt_loop (n : Nat) (a : Int) (ha : 0 ≤ a) (hl : n ≤ 1048576) (ha1 : a ≤ 100000000) : ∀ (d k i : Nat), i + d = n → d < k →
    laws_heldIntS.l0 k (from_ a n) (a + (i : Int)) (i : Int) = some (a + (n : Int)) := by
  intro d
  induction d with
  | zero =>
    intro k i hi hk
    obtain ⟨k, rfl⟩ : ∃ m, k = m + 1 := ⟨k - 1, by omega⟩
    simp only [laws_heldIntS.l0, from_length]
    rw [if_neg (by omega)]
    obtain rfl : i = n := by omega
    rfl
  | succ d ih =>
    intro k i hi hk
    obtain ⟨k, rfl⟩ : ∃ m, k = m + 1 := ⟨k - 1, by omega⟩
    have hr : rd (from_ a n) (i : Int) = a + (i : Int) := by
      rw [rd_nat _ _ (by rw [from_length]; omega)]
      simp [from_]
    simp only [laws_heldIntS.l0, from_length]
    rw [if_pos (by omega), if_pos (by omega), if_pos hr, wrap_nat (by omega), wrap_in (by omega) (by omega), show a + (i : Int) + 1 = a + ((i + 1 : Nat) : Int) by omega]
    exact ih k (i + 1) (by omega) (by omega)
theorem heldInt_eq (n : Nat) (a : Int) (ha : 0 ≤ a) (hl : n ≤ 1048576) (ha1 : a ≤ 100000000) (k : Nat) (hk : n < k) : laws_heldIntS.f k (from_ a n) a = some (a + (n : Int)) := by
  have h := heldInt_loop n a ha hl ha1 n k 0 (by omega) hk
  unfold laws_heldIntS.f
  simpa using h
namespace B
/-- 'so many numbers, one behind the other'. -/
def from_ (a : Int) (n : Nat) : List Int := (List.range n).map fun (i : Nat) => (a + (i : Int)) % 256
theorem markByte_loop (l : List Int) (a : Int) (ha : 0 ≤ a) (hl : l.length ≤ 1048576) (ha1 : a ≤ 100000000) : ∀ (d k i : Nat) (y : List Int), i + d = l.length → y.length = l.length → d < k →
    laws_markByteS.l0 k y (a + (i : Int)) (i : Int) = some (a + (l.length : Int), y.take i ++ from_ (a + (i : Int)) d) := by
  intro d
  induction d with
  | zero =>
    intro k i y hi hy hk
    obtain ⟨k, rfl⟩ : ∃ m, k = m + 1 := ⟨k - 1, by omega⟩
    simp only [laws_markByteS.l0]
    rw [if_neg (by omega), List.take_of_length_le (by omega)]
    obtain rfl : i = l.length := by omega
    simp [from_]
  | succ d ih =>
    intro k i y hi hy hk
    obtain ⟨k, rfl⟩ : ∃ m, k = m + 1 := ⟨k - 1, by omega⟩
    simp only [laws_markByteS.l0]
    rw [if_pos (by omega), if_pos (by omega), wrap_nat (by omega), wrap_in (by omega) (by omega), show a + (i : Int) + 1 = a + ((i + 1 : Nat) : Int) by omega, ih k (i + 1) _ (by omega) (by rw [List.length_set]; exact hy) (by omega)]
    congr 2
    rw [List.take_succ_eq_append_getElem (by rw [List.length_set]; omega), List.append_assoc]
    have e1 : ((i : Int).toNat) = i := by omega
    simp only [e1]
    rw [List.getElem_set_self, List.take_set_of_le (Nat.le_refl i)]
    congr 1
    unfold from_
    rw [List.range_succ_eq_map, List.map_cons, List.map_map, List.singleton_append]
    congr 1
    · omega
    · apply List.map_congr_left
      intro j _
      simp only [Function.comp]
      omega
theorem markByte_eq (l : List Int) (a : Int) (ha : 0 ≤ a) (hl : l.length ≤ 1048576) (ha1 : a ≤ 100000000) (k : Nat) (hk : l.length < k) : laws_markByteS.f k l a = some (a + (l.length : Int), from_ a l.length) := by
  have h := markByte_loop l a ha hl ha1 l.length k 0 l (by omega) rfl hk
  unfold laws_markByteS.f
  simp only [List.take_zero, List.nil_append, Int.add_zero, Int.natCast_zero] at h
  exact h
theorem from_length (a : Int) (n : Nat) : (from_ a n).length = n := by simp [from_]
end B
theorem szByteS_eq (x : List Int) (b : Int) (hx : x.length ≤ maxLen) (hb0 : 0 ≤ b) (hb1 : b ≤ 1048576) : laws_szByteS.f x b = some (if (x.length : Int) ≤ b then b - (x.length : Int) else -1) := by
  unfold laws_szByteS.f
  have : maxLen = 9223372036854775807 := rfl
  rw [wrap_in (by omega) (by omega)]
  by_cases h : (x.length : Int) ≤ b
  · rw [if_neg (by omega), if_pos h]
  · rw [if_pos (by omega), if_neg h]
theorem szAsk_eq (a b : Int) (l : List Int) (c d e : Int) (hl : l.length ≤ maxLen) (r : Int) (h0 : 0 ≤ r) (h1 : r ≤ 1048576) : ∃ q, laws_szVmAsk.f a b l c d e r = some q ∧ (q < 0 ∨ l.length ≤ 1048576) := by
  unfold laws_szVmAsk.f
  rw [szByteS_eq _ _ hl h0 h1, Option.bind_some]
  by_cases h : (l.length : Int) ≤ r
  · rw [if_pos h, if_neg (by omega)]
    exact ⟨_, rfl, Or.inr (by omega)⟩
  · rw [if_neg h, if_pos (by omega)]
    exact ⟨_, rfl, Or.inl (by omega)⟩

/-! ### both answers, alike -/
theorem askOk_eq (a b : Int) (l : List Int) (c d e : Int) : ∃ q, impl_vmAskOk.f a b l c d e = some q ∧ spec_l6AskOk.f a b l c d e = some q ∧ (q = true → 0 ≤ a ∧ a ≤ 5 ∧ 0 ≤ c ∧ c ≤ 255 ∧ 0 ≤ d ∧ d ≤ 3 ∧ 0 ≤ e ∧ e ≤ 3) := by
  by_cases h : (0 ≤ a ∧ a ≤ 5) ∧ (0 ≤ b ∧ b ≤ 9) ∧ ((l.length : Int) ≤ 8) ∧ (0 ≤ c ∧ c ≤ 255) ∧ (0 ≤ d ∧ d ≤ 3) ∧ (0 ≤ e ∧ e ≤ 3)
  · obtain ⟨h1, h2, h3, h4, h5, h6⟩ := h
    refine ⟨true, ?_, ?_, fun _ => by omega⟩
    · unfold impl_vmAskOk.f impl_BytMessage.f impl_vmByte.f impl_vmRegister.f
      simp [show a ≥ 0 by omega, h1.2, show b ≥ 0 by omega, h2.2, h3, show c ≥ 0 by omega, h4.2, show d ≥ 0 by omega, show d < 4 by omega, show e ≥ 0 by omega, show e < 4 by omega]
    · unfold spec_l6AskOk.f spec_BytMessage.f
      simp only [l1In_eq, Option.bind_some, decide_eq_true h1, decide_eq_true h2, decide_eq_true h3, decide_eq_true h4, decide_eq_true h5, decide_eq_true h6, if_pos]
  · refine ⟨false, ?_, ?_, fun h => by cases h⟩
    · unfold impl_vmAskOk.f impl_BytMessage.f impl_vmByte.f impl_vmRegister.f
      by_cases h1 : a ≥ 0
      · rw [if_pos h1]
        by_cases h2 : a ≤ 5
        · rw [if_pos h2]
          by_cases h3 : b ≥ 0
          · rw [if_pos h3]
            by_cases h4 : b ≤ 9
            · rw [if_pos h4, Option.bind_some]
              by_cases h5 : (l.length : Int) ≤ 8
              · rw [decide_eq_true h5, if_pos rfl]
                by_cases h6 : c ≥ 0
                · rw [if_pos h6, Option.bind_some]
                  by_cases h7 : c ≤ 255
                  · rw [decide_eq_true h7, if_pos rfl]
                    by_cases h8 : d ≥ 0
                    · rw [if_pos h8, Option.bind_some]
                      by_cases h9 : d < 4
                      · rw [decide_eq_true h9, if_pos rfl]
                        by_cases h10 : e ≥ 0
                        · rw [if_pos h10, Option.bind_some, Option.some.injEq]
                          exact decide_eq_false (fun h11 => h ⟨⟨h1, h2⟩, ⟨h3, h4⟩, h5, ⟨h6, h7⟩, ⟨h8, by omega⟩, ⟨h10, by omega⟩⟩)
                        · rw [if_neg h10, Option.bind_some]
                      · rw [decide_eq_false h9, if_neg (by simp)]
                    · rw [if_neg h8, Option.bind_some, if_neg (by simp)]
                  · rw [decide_eq_false h7, if_neg (by simp)]
                · rw [if_neg h6, Option.bind_some, if_neg (by simp)]
              · rw [decide_eq_false h5, if_neg (by simp)]
            · rw [if_neg h4]
          · rw [if_neg h3]
        · rw [if_neg h2]
      · rw [if_neg h1]
    · unfold spec_l6AskOk.f spec_BytMessage.f
      simp only [l1In_eq, Option.bind_some]
      by_cases h1 : 0 ≤ a ∧ a ≤ 5
      · rw [decide_eq_true h1, if_pos rfl]
        by_cases h2 : 0 ≤ b ∧ b ≤ 9
        · rw [decide_eq_true h2, if_pos rfl]
          by_cases h3 : (l.length : Int) ≤ 8
          · rw [decide_eq_true h3, if_pos rfl]
            by_cases h4 : 0 ≤ c ∧ c ≤ 255
            · rw [decide_eq_true h4, if_pos rfl]
              by_cases h5 : 0 ≤ d ∧ d ≤ 3
              · rw [decide_eq_true h5, if_pos rfl, decide_eq_false (fun h6 => h ⟨h1, h2, h3, h4, h5, h6⟩)]
              · rw [decide_eq_false h5, if_neg (by simp)]
            · rw [decide_eq_false h4, if_neg (by simp)]
          · rw [decide_eq_false h3, if_neg (by simp)]
        · rw [decide_eq_false h2, if_neg (by simp)]
      · rw [decide_eq_false h1, if_neg (by simp)]
theorem lay_eq (m : List Int) (at_ : Int) (h0 : 0 ≤ at_) (hm : m.length ≤ 8) (hat : at_ + (m.length : Int) ≤ 8) (p h a0 a1 : Int) (l3 : List Int) (rg fl : Int) (l1 : List Int) (hr0 : 0 ≤ rg) (hr1 : rg < (l1.length : Int)) : ∀ (d i k : Nat) (l2 : List Int), i + d = m.length → l2.length = 8 → d < k →
    ∃ y : List Int, y.length = 8 ∧ spec_l6Lay.l0 k at_ m (i : Int) p l1 l2 h = some (p, l1, y, h) ∧ impl_vmAnswer.l0 k m m (m.length : Int) (i : Int) p l1 l2 h a0 a1 l3 at_ rg fl = some (p, l1.set rg.toNat (wrap64 ((m.length : Int) + 1)), y, h) := by
  intro d
  induction d with
  | zero =>
    intro i k l2 hi hl hk
    obtain ⟨k, rfl⟩ : ∃ m, k = m + 1 := ⟨k - 1, by omega⟩
    refine ⟨l2, hl, ?_, ?_⟩
    · simp only [spec_l6Lay.l0]
      rw [if_neg (by omega)]
    · simp only [impl_vmAnswer.l0]
      rw [if_neg (by omega), if_pos hr0, if_pos hr1]
  | succ d ih =>
    intro i k l2 hi hl hk
    obtain ⟨k, rfl⟩ : ∃ m, k = m + 1 := ⟨k - 1, by omega⟩
    have ew : wrap64 (at_ + (i : Int)) = at_ + (i : Int) := wrap_in (by omega) (by omega)
    obtain ⟨y, h1, h2, h3⟩ := ih (i + 1) k (l2.set (at_ + (i : Int)).toNat (wrap64 (rd m (i : Int)))) (by omega) (by rw [List.length_set]; exact hl) (by omega)
    refine ⟨y, h1, ?_, ?_⟩
    · simp only [spec_l6Lay.l0]
      rw [if_pos (by omega), if_pos (by omega), ew, if_pos (by omega), if_pos (by omega), wrap_nat (by omega)]
      exact h2
    · simp only [impl_vmAnswer.l0]
      rw [if_pos (by omega), if_pos (by omega), if_pos (by omega), ew, if_pos (by omega), if_pos (by omega), wrap_nat (by omega)]
      exact h3
theorem lay_one (m : List Int) (at_ p h : Int) (l1 l2 : List Int) (K : Nat) (y' y : List Int) (e' : spec_l6Lay.l0 K at_ m ((0 : Nat) : Int) p l1 l2 h = some (p, l1, y', h)) (e : spec_l6Lay.l0 (K + 1) at_ m ((0 : Nat) : Int) p l1 l2 h = some (p, l1, y, h)) : y' = y := by
  have := (spec_l6Lay.mono_l K _ _ _ _ _ _ _) _ e'
  rw [e] at this
  simpa using this.symm
theorem ok_lens {p h : Int} {l1 l2 : List Int} (c : okB p l1 l2 h = true) : l1.length = 4 ∧ l2.length = 8 := by
  unfold okB at c
  rw [Bool.and_eq_true, Bool.and_eq_true, Bool.and_eq_true, decide_eq_true_eq, decide_eq_true_eq, decide_eq_true_eq] at c
  exact ⟨c.2.1, c.2.2.1⟩
theorem give_eq (p h : Int) (l1 l2 : List Int) (a0 a1 : Int) (l3 : List Int) (at_ rg fl : Int) (m : List Int) (yes : Bool) (K : Nat) (hK : 150 ≤ K) : ∃ p' l1' l2' h', impl_VmGive.f K p l1 l2 h a0 a1 l3 at_ rg fl m yes = some (p', l1', l2', h') ∧ spec_VmGive.f K p l1 l2 h a0 a1 l3 at_ rg fl m yes = some (p', l1', l2', h') ∧ l1'.length ≤ 4 ∧ l2'.length ≤ 8 := by
  obtain ⟨q, e1, e2, hq⟩ := askOk_eq a0 a1 l3 at_ rg fl
  unfold impl_VmGive.f spec_VmGive.f impl_BytMessage.f spec_BytMessage.f
  rw [specVmOk_eq _ _ _ _ K (by omega), implVmOk_eq, e1, e2]
  simp only [Option.bind_some]
  obtain ⟨K, rfl⟩ : ∃ m, K = m + 1 := ⟨K - 1, by omega⟩
  have bad : ∃ p' l1' l2' h', impl_VmGive.j0 (K + 1) m yes true p l1 l2 h a0 a1 l3 at_ rg fl = some (p', l1', l2', h') ∧ spec_VmGive.j0 (K + 1) m yes true p l1 l2 h a0 a1 l3 at_ rg fl = some (p', l1', l2', h') ∧ l1'.length ≤ 4 ∧ l2'.length ≤ 8 := by
    refine ⟨0, [], [], 0, ?_, ?_, by simp, by simp⟩
    · simp only [impl_VmGive.j0, if_pos]
    · simp only [spec_VmGive.j0, if_pos]
  by_cases c1 : okB p l1 l2 h = true
  · rw [if_pos c1, if_pos c1]
    by_cases c2 : q = true
    · rw [if_pos c2, if_pos c2]
      by_cases c3 : (m.length : Int) ≤ 8
      · rw [decide_eq_true c3]
        obtain ⟨g1, g2, g3, g4, g5, g6, g7, g8⟩ := hq c2
        have hl : l1.length = 4 ∧ l2.length = 8 := ok_lens c1
        have hc : impl_vmCopy.f p l1 l2 h = some (p, l1, l2, h) := by
          unfold impl_vmCopy.f impl_vmNumbers.f
          rw [if_pos (by omega), Option.bind_some, if_pos (by omega), Option.bind_some]
        have hc2 : spec_l6Copy.f p l1 l2 h = some (p, l1, l2, h) := by
          unfold spec_l6Copy.f
          rw [Option.bind_some, if_pos (by simp; omega), Option.bind_some, if_pos (by simp; omega)]
          rfl
        simp only [Bool.not_true, impl_VmGive.j0, spec_VmGive.j0, Bool.false_eq_true, if_false, hc, hc2, Option.bind_some]
        unfold impl_vmAnswer.f
        by_cases c4 : h = 0
        · rw [if_pos c4, if_pos c4]
          by_cases c5 : a0 = 1
          · rw [if_pos c5, if_pos c5, if_pos g5, if_pos (by omega), Option.bind_some]
            by_cases c6 : yes = true
            · rw [if_pos c6, if_pos c6, if_pos g5, if_pos (by omega), Option.bind_some, List.set_set]
              exact ⟨_, _, _, _, rfl, rfl, by first | (simp; done) | (simp; omega) | omega, by first | (simp; done) | (simp; omega) | omega⟩
            · rw [if_neg c6, if_neg c6, if_pos g5, if_pos (by omega), Option.bind_some]
              exact ⟨_, _, _, _, rfl, rfl, by first | (simp; done) | (simp; omega) | omega, by first | (simp; done) | (simp; omega) | omega⟩
          · rw [if_neg c5, if_neg c5]
            by_cases c7 : a0 = 2
            · rw [if_pos c7, if_pos c7]
              by_cases c6 : yes = true
              · rw [if_pos c6, if_pos c6]
                have ew : wrap64 (at_ + (m.length : Int)) = at_ + (m.length : Int) := wrap_in (by omega) (by omega)
                rw [ew]
                obtain ⟨K, rfl⟩ : ∃ m, K = m + 1 := ⟨K - 1, by omega⟩
                by_cases c8 : at_ + (m.length : Int) > 8
                · rw [if_pos c8, decide_eq_true c8, Option.bind_some]
                  simp only [spec_VmGive.j1, if_pos, spec_l6Fall.f, Option.bind_some]
                  exact ⟨_, _, _, _, rfl, rfl, by first | (simp; done) | (simp; omega) | omega, by first | (simp; done) | (simp; omega) | omega⟩
                · rw [if_neg c8, decide_eq_false c8]
                  obtain ⟨y, y1, y2, y3⟩ := lay_eq m at_ g3 (by omega) (by omega) p h a0 a1 l3 rg fl l1 g5 (by omega) m.length 0 (K + 1) l2 (by omega) hl.2 (by omega)
                  obtain ⟨y', y1', y2', y3'⟩ := lay_eq m at_ g3 (by omega) (by omega) p h a0 a1 l3 rg fl l1 g5 (by omega) m.length 0 K l2 (by omega) hl.2 (by omega)
                  have ey : y' = y := lay_one m at_ p h l1 l2 K y' y y2' y2
                  subst ey
                  rw [show ((0 : Nat) : Int) = 0 from rfl] at y3 y2'
                  rw [y3, Option.bind_some]
                  simp only [spec_VmGive.j1, Bool.false_eq_true, if_false, if_pos c6, spec_l6Lay.f]
                  rw [y2', Option.bind_some]
                  simp only [if_pos g5, if_pos (show rg < (l1.length : Int) by omega)]
                  exact ⟨_, _, _, _, rfl, rfl, by first | (simp; done) | (simp; omega) | omega, by first | (simp; done) | (simp; omega) | omega⟩
              · rw [if_neg c6, if_neg c6, if_pos g5, if_pos (by omega), Option.bind_some]
                obtain ⟨K, rfl⟩ : ∃ m, K = m + 1 := ⟨K - 1, by omega⟩
                simp only [spec_VmGive.j1, Bool.false_eq_true, if_false, if_neg c6]
                rw [if_pos g5, if_pos (by omega)]
                exact ⟨_, _, _, _, rfl, rfl, by first | (simp; done) | (simp; omega) | omega, by first | (simp; done) | (simp; omega) | omega⟩
            · rw [if_neg c7, if_neg c7]
              have hrg : rg < (l1.length : Int) := by omega
              have hfl : fl < (l1.length : Int) := by omega
              by_cases c9 : a0 = 3
              · by_cases c6 : yes = true
                · by_cases c10 : (m.length : Int) > 0
                  · have c11 : 0 < (m.length : Int) := c10
                    simp only [if_pos c9, if_pos c6, if_pos c10, if_pos c11, if_pos g5, if_pos g7, if_pos hrg, if_pos hfl, Option.bind_some]
                    exact ⟨_, _, _, _, rfl, rfl, by first | (simp; done) | (simp; omega) | omega, by first | (simp; done) | (simp; omega) | omega⟩
                  · simp only [if_pos c9, if_pos c6, if_neg c10, if_pos g5, if_pos g7, if_pos hrg, if_pos hfl, Option.bind_some]
                    exact ⟨_, _, _, _, rfl, rfl, by first | (simp; done) | (simp; omega) | omega, by first | (simp; done) | (simp; omega) | omega⟩
                · simp only [if_pos c9, if_neg c6, if_pos g5, if_pos g7, if_pos hrg, if_pos hfl, Option.bind_some]
                  exact ⟨_, _, _, _, rfl, rfl, by first | (simp; done) | (simp; omega) | omega, by first | (simp; done) | (simp; omega) | omega⟩
              · simp only [if_neg c9, Option.bind_some]
                exact ⟨_, _, _, _, rfl, rfl, by first | (simp; done) | (simp; omega) | omega, by first | (simp; done) | (simp; omega) | omega⟩
        · rw [if_neg c4, if_neg c4, Option.bind_some]
          exact ⟨_, _, _, _, rfl, rfl, by first | (simp; done) | (simp; omega) | omega, by first | (simp; done) | (simp; omega) | omega⟩
      · rw [decide_eq_false c3]
        exact bad
    · rw [if_neg c2, if_neg c2]
      exact bad
  · rw [if_neg c1, if_neg c1]
    exact bad

/-! ### what the law holds in its hands -/
def In (lo hi : Nat) (k : Nat) : Prop := lo ≤ k ∧ k < hi
abbrev KI : Kd Int := Kd.int .i64
abbrev KU : Kd Int := Kd.int .u8
/-- A machine's two rows: of the call's own, apart, their blocks within bounds. -/
def Vs (N : Nat) (W : World) (lo hi : Nat) (v1 v2 : Value) (l1 l2 : List Int) : Prop := Kd.R KI 3 W N (fun k => In lo hi k ∧ some k ≠ v2.ownBlock) v1 l1 ∧ Kd.R KI 3 W N (fun k => In lo hi k ∧ some k ≠ v1.ownBlock) v2 l2 ∧ hi ≤ W.heap.size
theorem Vs.below {N : Nat} {W W1 : World} {lo hi : Nat} {v1 v2 : Value} {l1 l2 : List Int} (h : Vs N W lo hi v1 v2 l1 l2) (hb : Below W.heap.size W W1) : Vs N W1 lo hi v1 v2 l1 l2 := ⟨Kd.R_below h.1 hb, Kd.R_below h.2.1 hb, Nat.le_trans h.2.2 hb.size⟩
theorem Vs.kept {N : Nat} {W W1 : World} {lo hi lo' hi' : Nat} {v1 v2 : Value} {l1 l2 : List Int} (h : Vs N W lo hi v1 v2 l1 l2) (hk : Kept W W1 (In lo' hi')) (ha : hi ≤ lo' ∨ hi' ≤ lo) : Vs N W1 lo hi v1 v2 l1 l2 :=
  ⟨Kd.R_kept h.1 hk (fun k h1 h2 => by have := h1.1.1; have := h1.1.2; have := h2.1; have := h2.2; omega), Kd.R_kept h.2.1 hk (fun k h1 h2 => by have := h1.1.1; have := h1.1.2; have := h2.1; have := h2.2; omega), Nat.le_trans h.2.2 hk.1⟩
theorem Vs.new {N : Nat} {W W1 : World} {v1 v2 : Value} {l1 l2 : List Int} (h1 : Kd.R KI 3 W1 W.heap.size (fun k => some k ≠ v2.ownBlock) v1 l1) (h2 : Kd.R KI 3 W1 W.heap.size (fun k => some k ≠ v1.ownBlock) v2 l2) (hN : N ≤ W.heap.size) : Vs N W1 W.heap.size W1.heap.size v1 v2 l1 l2 :=
  ⟨Kd.R_mono (Kd.R_lower (Kd.R_bound h1) hN) (fun k hk => ⟨⟨hk.2.1, hk.2.2.1⟩, hk.1⟩), Kd.R_mono (Kd.R_lower (Kd.R_bound h2) hN) (fun k hk => ⟨⟨hk.2.1, hk.2.2.1⟩, hk.1⟩), Nat.le_refl _⟩
theorem Vs.C1 {N : Nat} {W : World} {lo hi n c : Nat} {A : Option Addr} {v2 : Value} {l1 l2 : List Int} (h : Vs N W lo hi (.slice A n c) v2 l1 l2) : n = l1.length ∧ n ≤ c ∧ Kd.C KI W A l1.length l1 := Kd.R_reads' h.1
theorem Vs.C2 {N : Nat} {W : World} {lo hi n c : Nat} {A : Option Addr} {v1 : Value} {l1 l2 : List Int} (h : Vs N W lo hi v1 (.slice A n c) l1 l2) : n = l2.length ∧ n ≤ c ∧ Kd.C KI W A l2.length l2 := Kd.R_reads' h.2.1
/-- A row of bytes of the call's own. -/
def Rb (N : Nat) (W : World) (lo hi : Nat) (v : Value) (l : List Int) : Prop := Kd.R KU 5 W N (In lo hi) v l ∧ hi ≤ W.heap.size
theorem Rb.below {N : Nat} {W W1 : World} {lo hi : Nat} {v : Value} {l : List Int} (h : Rb N W lo hi v l) (hb : Below W.heap.size W W1) : Rb N W1 lo hi v l := ⟨Kd.R_below h.1 hb, Nat.le_trans h.2 hb.size⟩
theorem Rb.kept {N : Nat} {W W1 : World} {lo hi lo' hi' : Nat} {v : Value} {l : List Int} (h : Rb N W lo hi v l) (hk : Kept W W1 (In lo' hi')) (ha : hi ≤ lo' ∨ hi' ≤ lo) : Rb N W1 lo hi v l :=
  ⟨Kd.R_kept h.1 hk (fun k h1 h2 => by have := h1.1; have := h1.2; have := h2.1; have := h2.2; omega), Nat.le_trans h.2 hk.1⟩
theorem Rb.new {N : Nat} {W W1 : World} {v : Value} {l : List Int} (h : Kd.R KU 5 W1 W.heap.size (fun _ => True) v l) (hN : N ≤ W.heap.size) : Rb N W1 W.heap.size W1.heap.size v l :=
  ⟨Kd.R_mono (Kd.R_lower (Kd.R_bound h) hN) (fun k hk => ⟨hk.2.1, hk.2.2.1⟩), Nat.le_refl _⟩
theorem Rb.C {N : Nat} {W : World} {lo hi n c : Nat} {A : Option Addr} {l : List Int} (h : Rb N W lo hi (.slice A n c) l) : n = l.length ∧ n ≤ c ∧ Kd.C KU W A l.length l := Kd.R_reads' h.1
theorem box_kept {W W1 : World} {g lo hi : Nat} {o : Obj} (hX : W.heap[g]? = some o) (hk : Kept W W1 (In lo hi)) (h : g < lo ∨ hi ≤ g) : W1.heap[g]? = some o := blk_kept hX hk (fun hp => by have := hp.1; have := hp.2; omega)

section
variable (w : World) (p h : Int) (A1 : Option Addr) (c1 : Nat) (l1 : List Int) (A2 : Option Addr) (c2 : Nat) (l2 : List Int)
theorem to_any (b1 : l1.length ≤ 1048576) (b2 : l2.length ≤ 1048576) (hc1 : l1.length ≤ c1) (hc2 : l2.length ≤ c2) (hr1 : Kd.C KI w A1 l1.length l1) (hr2 : Kd.C KI w A2 l2.length l2) (W : World) (hB : Below w.heap.size w W) :
    Calls Try.prog 14 #[.agg #[.int .i64 p, .slice A1 l1.length c1, .slice A2 l2.length c2, .int .i64 h]] W fun e W' => ∃ B1 d1 B2 d2, e = .returned (.agg #[.int .i64 p, .slice B1 l1.length d1, .slice B2 l2.length d2, .int .i64 h]) ∧ Vs w.heap.size W' W.heap.size W'.heap.size (.slice B1 l1.length d1) (.slice B2 l2.length d2) l1 l2 ∧ Below W.heap.size W W' := by
  refine (laws_toVmState.calls 1048600 p A1 c1 l1 A2 c2 l2 h p l1 l2 h W (Kd.C_below hr1 hB) hc1 (Kd.C_below hr2 hB) hc2 (toVm_eq _ _ _ _ b1 b2 _ (by omega))).mono ?_
  rintro e W' ⟨v1, v2, rfl, h1, h2, hb⟩
  obtain ⟨B1, d1, rfl⟩ := Kd.R_slice h1
  obtain ⟨B2, d2, rfl⟩ := Kd.R_slice h2
  exact ⟨B1, d1, B2, d2, rfl, Vs.new h1 h2 hB.size, hb⟩
end
theorem ask_any (w : World) (a b : Int) (A : Option Addr) (c : Nat) (l : List Int) (x y z : Int) (hl : l.length ≤ 1048576) (hc : l.length ≤ c) (hr : Kd.C KU w A l.length l) (W : World) (hB : Below w.heap.size w W) :
    Calls Try.prog 15 #[.agg #[.int .i64 a, .int .i64 b, .slice A l.length c, .int .i64 x, .int .i64 y, .int .i64 z]] W fun e W' => ∃ B d, e = .returned (.agg #[.int .i64 a, .int .i64 b, .slice B l.length d, .int .i64 x, .int .i64 y, .int .i64 z]) ∧ Rb w.heap.size W' W.heap.size W'.heap.size (.slice B l.length d) l ∧ Below W.heap.size W W' := by
  refine (laws_toVmAsk.calls 1048600 a b A c l x y z a b l x y z W (Kd.C_below hr hB) hc (by
    unfold laws_toVmAsk.f
    rw [toByteS_eq _ hl _ (by omega), Option.bind_some])).mono ?_
  rintro e W' ⟨v, rfl, h1, hb⟩
  obtain ⟨B, d, rfl⟩ := Kd.R_slice h1
  exact ⟨B, d, rfl, Rb.new h1 hB.size, hb⟩
theorem tob_any (w : World) (A : Option Addr) (c : Nat) (l : List Int) (hl : l.length ≤ 1048576) (hc : l.length ≤ c) (hr : Kd.C KU w A l.length l) (W : World) (hB : Below w.heap.size w W) :
    Calls Try.prog 16 #[.slice A l.length c] W fun e W' => ∃ B d, e = .returned (.slice B l.length d) ∧ Rb w.heap.size W' W.heap.size W'.heap.size (.slice B l.length d) l ∧ Below W.heap.size W W' := by
  refine (laws_toByteS.calls (l.length + 1) A c l l W (Kd.C_below hr hB) hc (toByteS_eq l hl _ (by omega))).mono ?_
  rintro e W' ⟨v, rfl, hS, hb⟩
  obtain ⟨B, d, rfl⟩ := Kd.R_slice hS
  exact ⟨B, d, rfl, Rb.new hS hB.size, hb⟩
theorem eq_any (N : Nat) (p h : Int) (l1 l2 : List Int) (b1 : l1.length ≤ 1048576) (b2 : l2.length ≤ 1048576) (W : World) (lo hi : Nat) (A1 : Option Addr) (c1 : Nat) (A2 : Option Addr) (c2 : Nat) (lo' hi' : Nat) (B1 : Option Addr) (d1 : Nat) (B2 : Option Addr) (d2 : Nat) (h0 : Vs N W lo hi (.slice A1 l1.length c1) (.slice A2 l2.length c2) l1 l2) (h1 : Vs N W lo' hi' (.slice B1 l1.length d1) (.slice B2 l2.length d2) l1 l2) :
    Calls Try.prog 18 #[.agg #[.int .i64 p, .slice A1 l1.length c1, .slice A2 l2.length c2, .int .i64 h], .agg #[.int .i64 p, .slice B1 l1.length d1, .slice B2 l2.length d2, .int .i64 h]] W fun e W' => e = .returned (.bool true) ∧ Below W.heap.size W W' :=
  laws_eqVmState.calls 1048600 p A1 c1 l1 A2 c2 l2 h p B1 d1 l1 B2 d2 l2 h true W h0.C1.2.2 h0.C1.2.1 h0.C2.2.2 h0.C2.2.1 h1.C1.2.2 h1.C1.2.1 h1.C2.2.2 h1.C2.2.1 (eqVm_self _ _ _ _ b1 b2 _ (by omega))
theorem eqAsk_any (N : Nat) (a b : Int) (l : List Int) (x y z : Int) (hl : l.length ≤ 1048576) (W : World) (lo hi : Nat) (A : Option Addr) (c : Nat) (lo' hi' : Nat) (B : Option Addr) (d : Nat) (h0 : Rb N W lo hi (.slice A l.length c) l) (h1 : Rb N W lo' hi' (.slice B l.length d) l) :
    Calls Try.prog 19 #[.agg #[.int .i64 a, .int .i64 b, .slice A l.length c, .int .i64 x, .int .i64 y, .int .i64 z], .agg #[.int .i64 a, .int .i64 b, .slice B l.length d, .int .i64 x, .int .i64 y, .int .i64 z]] W fun e W' => e = .returned (.bool true) ∧ Below W.heap.size W W' :=
  laws_eqVmAsk.calls 1048600 a b A c l x y z a b B d l x y z true W h0.C.2.2 h0.C.2.1 h1.C.2.2 h1.C.2.1 (by
    unfold laws_eqVmAsk.f
    rw [if_pos rfl, if_pos rfl, eqByteS_self _ hl _ (by omega), Option.bind_some, if_pos rfl, if_pos rfl, if_pos rfl, if_pos rfl])
theorem eqb_any (N : Nat) (l : List Int) (hl : l.length ≤ 1048576) (W : World) (lo hi : Nat) (A : Option Addr) (c : Nat) (lo' hi' : Nat) (B : Option Addr) (d : Nat) (h0 : Rb N W lo hi (.slice A l.length c) l) (h1 : Rb N W lo' hi' (.slice B l.length d) l) :
    Calls Try.prog 20 #[.slice A l.length c, .slice B l.length d] W fun e W' => e = .returned (.bool true) ∧ Below W.heap.size W W' := by
  refine (laws_eqByteS.calls (l.length + 1) A c l B d l true W h0.C.2.2 h0.C.2.1 h1.C.2.2 h1.C.2.1 (eqByteS_self l hl _ (by omega))).mono ?_
  rintro e W' ⟨rfl, hd⟩
  exact ⟨rfl, hd.below⟩
theorem markVm_any (w : World) (p h : Int) (l1 l2 : List Int) (b1 : l1.length ≤ 1048576) (b2 : l2.length ≤ 1048576) (W : World) (lo hi : Nat) (A1 : Option Addr) (c1 : Nat) (A2 : Option Addr) (c2 : Nat) (hB : Below w.heap.size w W) (h0 : Vs w.heap.size W lo hi (.slice A1 l1.length c1) (.slice A2 l2.length c2) l1 l2) :
    Calls Try.prog 21 #[.agg #[.int .i64 p, .slice A1 l1.length c1, .slice A2 l2.length c2, .int .i64 h], .int .i64 1] W fun e W' => e = .returned (.int .i64 (1 + (l1.length : Int) + (l2.length : Int))) ∧ Vs w.heap.size W' lo hi (.slice A1 l1.length c1) (.slice A2 l2.length c2) (from_ 1 l1.length) (from_ (1 + (l1.length : Int)) l2.length) ∧ Kept W W' (In lo hi) ∧ Below w.heap.size w W' := by
  have t1 := Kd.R_tight rfl h0.1
  have t2 := Kd.R_tight rfl h0.2.1
  have ap : ∀ k, some k = (.slice A1 l1.length c1 : Value).ownBlock → ¬ some k = (.slice A2 l2.length c2 : Value).ownBlock := fun k hk => (h0.1.1 k hk.symm).2
  refine (laws_markVmState.calls 1048600 p (fun k => some k = (.slice A1 l1.length c1 : Value).ownBlock) (.slice A1 l1.length c1) l1 (fun k => some k = (.slice A2 l2.length c2 : Value).ownBlock) (.slice A2 l2.length c2) l2 h 1 (1 + (l1.length : Int) + (l2.length : Int)) (from_ 1 l1.length) (from_ (1 + (l1.length : Int)) l2.length) w W hB t1 ap t2 (fun k h2 h1 => ap k h1 h2) (by
    unfold laws_markVmState.f
    rw [markInt_eq l1 1 (by omega) b1 (by omega) _ (by omega), Option.bind_some, markInt_eq l2 _ (by omega) b2 (by omega) _ (by omega), Option.bind_some])).mono ?_
  rintro e W' ⟨rfl, hR1, hR2, hb, hk⟩
  refine ⟨rfl, ⟨Kd.R_mono (Kd.R_tight rfl hR1) (fun k hk => h0.1.1 k hk.symm), Kd.R_mono (Kd.R_tight rfl hR2) (fun k hk => h0.2.1.1 k hk.symm), Nat.le_trans h0.2.2 hk.1⟩, Kept.mono hk (fun k hk => hk.elim (fun h1 => (h0.1.1 k h1.symm).1) (fun h2 => (h0.2.1.1 k h2.symm).1)), hb⟩
theorem markAsk_any (w : World) (a b : Int) (l : List Int) (x y z : Int) (s : Int) (hs : 0 ≤ s) (hs1 : s ≤ 100000000) (hl : l.length ≤ 1048576) (W : World) (lo hi : Nat) (A : Option Addr) (c : Nat) (hB : Below w.heap.size w W) (h0 : Rb w.heap.size W lo hi (.slice A l.length c) l) :
    Calls Try.prog 22 #[.agg #[.int .i64 a, .int .i64 b, .slice A l.length c, .int .i64 x, .int .i64 y, .int .i64 z], .int .i64 s] W fun e W' => e = .returned (.int .i64 (s + (l.length : Int))) ∧ Rb w.heap.size W' lo hi (.slice A l.length c) (B.from_ s l.length) ∧ Kept W W' (In lo hi) ∧ Below w.heap.size w W' := by
  refine (laws_markVmAsk.calls 1048600 a b (In lo hi) (.slice A l.length c) l x y z s (s + (l.length : Int)) (B.from_ s l.length) w W hB h0.1 (by
    unfold laws_markVmAsk.f
    rw [B.markByte_eq l s hs hl hs1 _ (by omega), Option.bind_some])).mono ?_
  rintro e W' ⟨rfl, hR, hb, hk⟩
  exact ⟨rfl, ⟨Kd.R_mono (Kd.R_tight rfl hR) (fun k hk => h0.1.1 k hk.symm), Nat.le_trans h0.2 hk.1⟩, hk, hb⟩
theorem markb_any (w : World) (l : List Int) (s : Int) (hs : 0 ≤ s) (hs1 : s ≤ 100000000) (hl : l.length ≤ 1048576) (W : World) (lo hi : Nat) (A : Option Addr) (c : Nat) (hB : Below w.heap.size w W) (h0 : Rb w.heap.size W lo hi (.slice A l.length c) l) :
    Calls Try.prog 23 #[.slice A l.length c, .int .i64 s] W fun e W' => e = .returned (.int .i64 (s + (l.length : Int))) ∧ Rb w.heap.size W' lo hi (.slice A l.length c) (B.from_ s l.length) ∧ Kept W W' (In lo hi) ∧ Below w.heap.size w W' := by
  refine (laws_markByteS.calls (l.length + 1) (In lo hi) (.slice A l.length c) l s _ _ w W hB h0.1 (B.markByte_eq l s hs hl hs1 _ (by omega))).mono ?_
  rintro e W' ⟨rfl, hR, hb, hk⟩
  exact ⟨rfl, ⟨Kd.R_mono (Kd.R_tight rfl hR) (fun k hk => h0.1.1 k hk.symm), Nat.le_trans h0.2 hk.1⟩, hk, hb⟩
theorem held_any (N : Nat) (p h : Int) (l1 l2 : List Int) (b1 : l1.length ≤ 1048576) (b2 : l2.length ≤ 1048576) (W : World) (lo hi : Nat) (A1 : Option Addr) (c1 : Nat) (A2 : Option Addr) (c2 : Nat) (h0 : Vs N W lo hi (.slice A1 l1.length c1) (.slice A2 l2.length c2) (from_ 1 l1.length) (from_ (1 + (l1.length : Int)) l2.length)) :
    Calls Try.prog 24 #[.agg #[.int .i64 p, .slice A1 l1.length c1, .slice A2 l2.length c2, .int .i64 h], .int .i64 1] W fun e W' => e = .returned (.int .i64 (1 + (l1.length : Int) + (l2.length : Int))) ∧ Below W.heap.size W W' := by
  have h := laws_heldVmState.calls 1048600 p A1 c1 (from_ 1 l1.length) A2 c2 (from_ (1 + (l1.length : Int)) l2.length) h 1 (1 + (l1.length : Int) + (l2.length : Int)) W h0.C1.2.2 (by rw [from_length]; exact h0.C1.2.1) h0.C2.2.2 (by rw [from_length]; exact h0.C2.2.1) (by
    unfold laws_heldVmState.f
    rw [heldInt_eq l1.length 1 (by omega) b1 (by omega) _ (by omega), Option.bind_some, if_neg (by omega), heldInt_eq l2.length _ (by omega) b2 (by omega) _ (by omega), Option.bind_some, if_neg (by omega)])
  rw [from_length, from_length] at h
  exact h
theorem im_any (w : World) (p h : Int) (l1 l2 : List Int) (a b : Int) (l3 : List Int) (x y z : Int) (m : List Int) (yes : Bool) (p' : Int) (l1' l2' : List Int) (h' : Int) (K : Nat) (e : impl_VmGive.f K p l1 l2 h a b l3 x y z m yes = some (p', l1', l2', h')) (W : World) (lo hi : Nat) (A1 : Option Addr) (c1 : Nat) (A2 : Option Addr) (c2 : Nat) (lo1 hi1 : Nat) (B1 : Option Addr) (d1 : Nat) (lo2 hi2 : Nat) (B2 : Option Addr) (d2 : Nat) (h0 : Vs w.heap.size W lo hi (.slice A1 l1.length c1) (.slice A2 l2.length c2) l1 l2) (h1 : Rb w.heap.size W lo1 hi1 (.slice B1 l3.length d1) l3) (h2 : Rb w.heap.size W lo2 hi2 (.slice B2 m.length d2) m) (hB : Below w.heap.size w W) :
    Calls Try.prog 17 #[.agg #[.int .i64 p, .slice A1 l1.length c1, .slice A2 l2.length c2, .int .i64 h], .agg #[.int .i64 a, .int .i64 b, .slice B1 l3.length d1, .int .i64 x, .int .i64 y, .int .i64 z], .slice B2 m.length d2, .bool yes] W fun e W' => ∃ E1 f1 E2 f2, e = .returned (.agg #[.int .i64 p', .slice E1 l1'.length f1, .slice E2 l2'.length f2, .int .i64 h']) ∧ Vs w.heap.size W' W.heap.size W'.heap.size (.slice E1 l1'.length f1) (.slice E2 l2'.length f2) l1' l2' ∧ Below W.heap.size W W' := by
  refine (impl_VmGive.calls K p A1 c1 l1 A2 c2 l2 h a b B1 d1 l3 x y z B2 d2 m yes p' l1' l2' h' W h0.C1.2.2 h0.C1.2.1 h0.C2.2.2 h0.C2.2.1 h1.C.2.2 h1.C.2.1 h2.C.2.2 h2.C.2.1 e).mono ?_
  rintro e W' ⟨v1, v2, rfl, h1, h2, hb⟩
  obtain ⟨B1, d1, rfl⟩ := Kd.R_slice h1
  obtain ⟨B2, d2, rfl⟩ := Kd.R_slice h2
  exact ⟨B1, d1, B2, d2, rfl, Vs.new h1 h2 hB.size, hb⟩
theorem sp_any (w : World) (p h : Int) (l1 l2 : List Int) (a b : Int) (l3 : List Int) (x y z : Int) (m : List Int) (yes : Bool) (p' : Int) (l1' l2' : List Int) (h' : Int) (K : Nat) (e : spec_VmGive.f K p l1 l2 h a b l3 x y z m yes = some (p', l1', l2', h')) (W : World) (lo hi : Nat) (A1 : Option Addr) (c1 : Nat) (A2 : Option Addr) (c2 : Nat) (lo1 hi1 : Nat) (B1 : Option Addr) (d1 : Nat) (lo2 hi2 : Nat) (B2 : Option Addr) (d2 : Nat) (h0 : Vs w.heap.size W lo hi (.slice A1 l1.length c1) (.slice A2 l2.length c2) l1 l2) (h1 : Rb w.heap.size W lo1 hi1 (.slice B1 l3.length d1) l3) (h2 : Rb w.heap.size W lo2 hi2 (.slice B2 m.length d2) m) (hB : Below w.heap.size w W) :
    Calls Try.prog 13 #[.agg #[.int .i64 p, .slice A1 l1.length c1, .slice A2 l2.length c2, .int .i64 h], .agg #[.int .i64 a, .int .i64 b, .slice B1 l3.length d1, .int .i64 x, .int .i64 y, .int .i64 z], .slice B2 m.length d2, .bool yes] W fun e W' => ∃ E1 f1 E2 f2, e = .returned (.agg #[.int .i64 p', .slice E1 l1'.length f1, .slice E2 l2'.length f2, .int .i64 h']) ∧ Vs w.heap.size W' W.heap.size W'.heap.size (.slice E1 l1'.length f1) (.slice E2 l2'.length f2) l1' l2' ∧ Below W.heap.size W W' := by
  refine (spec_VmGive.calls K p A1 c1 l1 A2 c2 l2 h a b B1 d1 l3 x y z B2 d2 m yes p' l1' l2' h' W h0.C1.2.2 h0.C1.2.1 h0.C2.2.2 h0.C2.2.1 h1.C.2.2 h1.C.2.1 h2.C.2.2 h2.C.2.1 e).mono ?_
  rintro e W' ⟨v1, v2, rfl, h1, h2, hb⟩
  obtain ⟨B1, d1, rfl⟩ := Kd.R_slice h1
  obtain ⟨B2, d2, rfl⟩ := Kd.R_slice h2
  exact ⟨B1, d1, B2, d2, rfl, Vs.new h1 h2 hB.size, hb⟩
end Go.Proofs.YtcnipdbommmkmaaVmEx
