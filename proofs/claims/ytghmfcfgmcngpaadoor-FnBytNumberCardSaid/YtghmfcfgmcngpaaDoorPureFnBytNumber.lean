/- The pure statement of FnBytNumber: numbers as bytes, there and back; what is written stands in the order of the numbers. Conditions: bytes. -/
import Derived.Test.YtghmfcfgmcngpaaDoorPFnBytNumberx2
import Derived.Test.YtghmfcfgmcngpaaDoorPl
import Derived.Test.YtghmfcfgmcngpaaDoorBytPut
import Derived.Test.YtghmfcfgmcngpaaDoorBytTake
set_option linter.unusedSimpArgs false
set_option linter.unusedVariables false
namespace Go.Proofs.YtghmfcfgmcngpaaDoor.Pure
open Go.RowKit Go.Proofs.YtghmfcfgmcngpaaDoor.PFnBytNumber Go.Proofs.YtghmfcfgmcngpaaDoorW.PrintWords Go.Proofs.YtghmfcfgmcngpaaDoorW.PrintLast Go.Proofs.YtghmfcfgmcngpaaDoorW.PrintMore Go.Proofs.YtghmfcfgmcngpaaDoorPl

namespace FnBytNumber_
open Go.Proofs.YtghmfcfgmcngpaaDoorSealTag Go.Proofs.YtghmfcfgmcngpaaDoorBytLay Go.Proofs.YtghmfcfgmcngpaaDoorBytPut Go.Proofs.YtghmfcfgmcngpaaDoorBytRead Go.Proofs.YtghmfcfgmcngpaaDoorBytTake
theorem l1In_eq (a b c : Int) : spec_l1In.f a b c = some (decide (b ≤ a ∧ a ≤ c)) := by
  unfold spec_l1In.f
  by_cases h1 : b ≤ a
  · rw [if_pos h1]
    simp [h1]
  · rw [if_neg h1]
    simp [h1]
theorem putL_cons (n : Int) (j : Nat) : putL n (j + 1) = (n / 256 ^ j % 256) :: putL n j := by
  unfold putL
  rw [List.range_succ_eq_map, List.map_cons, List.map_map]
  congr 1
  apply List.map_congr_left
  intro i hi
  have := List.mem_range.1 hi
  simp only [Function.comp]
  rw [show j + 1 - 1 - (i + 1) = j - 1 - i by omega]
theorem size_eq (j : Nat) (hj : j ≤ 4) (k : Nat) (hk : 6 ≤ k) : spec_l2Size.f k (j : Int) = some (256 ^ j) := by
  obtain ⟨m, rfl⟩ : ∃ m, k = m + 6 := ⟨k - 6, by omega⟩
  obtain rfl | rfl | rfl | rfl | rfl : j = 0 ∨ j = 1 ∨ j = 2 ∨ j = 3 ∨ j = 4 := by omega
  all_goals kernel_rfl
theorem pow_in (j : Nat) (hj : j ≤ 4) : (1 : Int) ≤ 256 ^ j ∧ (256 : Int) ^ j ≤ 4294967296 := by
  obtain rfl | rfl | rfl | rfl | rfl : j = 0 ∨ j = 1 ∨ j = 2 ∨ j = 3 ∨ j = 4 := by omega
  all_goals decide
theorem put_loop (n : Int) (h0 : 0 ≤ n) (h1 : n ≤ 4294967295) (j : Nat) : j ≤ 4 → ∀ (k : Nat) (x : List Int), j + 10 ≤ k → x.length + j ≤ 1000 → spec_BytPut.l0 k n x ((j : Int) - 1) = some (x ++ putL n j) := by
  induction j with
  | zero =>
    intro _ k x hk hx
    obtain ⟨k, rfl⟩ : ∃ m, k = m + 1 := ⟨k - 1, by omega⟩
    simp only [spec_BytPut.l0]
    rw [if_neg (by omega)]
    simp [putL]
  | succ j ih =>
    intro hj k x hk hx
    obtain ⟨k, rfl⟩ : ∃ m, k = m + 1 := ⟨k - 1, by omega⟩
    have hp := pow_in j (by omega)
    simp only [spec_BytPut.l0]
    rw [if_pos (by omega), show ((j + 1 : Nat) : Int) - 1 = (j : Int) by omega, size_eq j (by omega) k (by omega), Option.bind_some, if_neg (by omega), if_pos (by omega), wrap_in (x := (j : Int) - 1) (by omega) (by omega),
      ih (by omega) k _ (by omega) (by rw [List.length_append, List.length_singleton]; omega), putL_cons, List.append_assoc, List.singleton_append, Int.tdiv_eq_ediv_of_nonneg h0]
    have hd0 : 0 ≤ n / 256 ^ j := Int.ediv_nonneg h0 (by omega)
    have hd1 : n / 256 ^ j ≤ n := Int.ediv_le_self _ h0
    rw [wrap_in (by omega) (by omega), Int.tmod_eq_emod_of_nonneg hd0, Int.emod_emod_of_dvd _ (Int.dvd_refl 256)]
theorem specPut_eq (k : Nat) (hk : 20 ≤ k) (n s : Int) : spec_BytPut.f k n s = some (putZ n s) := by
  unfold spec_BytPut.f
  rw [l1In_eq, Option.bind_some]
  by_cases hs : 1 ≤ s ∧ s ≤ 4
  · rw [decide_eq_true hs, if_pos rfl]
    obtain ⟨j, rfl⟩ := Int.eq_ofNat_of_zero_le (show 0 ≤ s by omega)
    have hp := pow_in j (by omega)
    rw [size_eq j (by omega) k (by omega), Option.bind_some, l1In_eq, Option.bind_some, wrap_in (by omega) (by omega)]
    obtain ⟨k, rfl⟩ : ∃ m, k = m + 1 := ⟨k - 1, by omega⟩
    simp only [spec_BytPut.j0]
    by_cases hn : 0 ≤ n ∧ n ≤ 256 ^ j - 1
    · rw [decide_eq_true hn, if_neg (by decide), wrap_in (by omega) (by omega), put_loop n hn.1 (by omega) j (by omega) k [] (by omega) (by simp; omega), List.nil_append]
      unfold putZ
      rw [if_pos ⟨hs, hn.1, by rw [Int.toNat_natCast]; omega⟩, Int.toNat_natCast]
    · rw [decide_eq_false hn, if_pos (by decide)]
      unfold putZ
      rw [if_neg (fun hh => hn ⟨hh.2.1, by have := hh.2.2; rw [Int.toNat_natCast] at this; omega⟩)]
  · rw [decide_eq_false hs, if_neg (by decide)]
    obtain ⟨k, rfl⟩ : ∃ m, k = m + 1 := ⟨k - 1, by omega⟩
    simp only [spec_BytPut.j0]
    unfold putZ
    rw [if_pos trivial, if_neg (fun hh => hs hh.1)]
theorem foldl_put (n : Int) (j : Nat) (h1 : 1 ≤ j) (h4 : j ≤ 4) (h0 : 0 ≤ n) (hn : n < 256 ^ j) : takeV (putL n j) = n := by
  obtain rfl | rfl | rfl | rfl : j = 1 ∨ j = 2 ∨ j = 3 ∨ j = 4 := by omega
  · have h : n < 256 := hn
    simp only [putL_cons, takeV, List.foldl_cons, show putL n 0 = [] from rfl, List.foldl_nil]
    omega
  · have h : n < 65536 := hn
    simp only [putL_cons, takeV, List.foldl_cons, show putL n 0 = [] from rfl, List.foldl_nil]
    omega
  · have h : n < 16777216 := hn
    simp only [putL_cons, takeV, List.foldl_cons, show putL n 0 = [] from rfl, List.foldl_nil]
    omega
  · have h : n < 4294967296 := hn
    simp only [putL_cons, takeV, List.foldl_cons, show putL n 0 = [] from rfl, List.foldl_nil]
    omega
theorem putZ_good {n s : Int} (h : (1 ≤ s ∧ s ≤ 4) ∧ 0 ≤ n ∧ n < 256 ^ s.toNat) : putZ n s = putL n s.toNat := if_pos h
theorem putZ_bad {n s : Int} (h : ¬ ((1 ≤ s ∧ s ≤ 4) ∧ 0 ≤ n ∧ n < 256 ^ s.toNat)) : putZ n s = [] := if_neg h
theorem putL_bytes (n : Int) (j : Nat) : isBytes (putL n j) = true := by
  refine List.all_eq_true.2 fun x hx => decide_eq_true ?_
  unfold putL at hx
  obtain ⟨k, _, rfl⟩ := List.mem_map.1 hx
  omega
theorem putZ_bytes (n s : Int) : isBytes (putZ n s) = true := by
  unfold putZ
  split
  · exact putL_bytes _ _
  · rfl
def Bytes (l : List Int) : Prop := (∀ x ∈ l, (Lit.int .u8 x).wf = true) ∧ l.length ≤ 2000
theorem pick_ok {l : List Int} (hl : Bytes l) {p : Int} (hp0 : 0 ≤ p) (hp1 : p ≤ 1000000) {n : Int} (hn0 : 1 ≤ n) (k : Nat) (hk : 1 ≤ k) :
    ∃ r, spec_l30Rd_pick.f k l p n = some (r, p + 1) ∧ 0 ≤ r ∧ r < n := by
  obtain ⟨k, rfl⟩ : ∃ m, k = m + 1 := ⟨k - 1, by omega⟩
  obtain ⟨hb, hlen⟩ := hl
  unfold spec_l30Rd_pick.f
  rw [if_neg (by omega), wrap_in (by omega) (by omega)]
  simp only [spec_l30Rd_pick.j0]
  by_cases h0 : l.length = 0
  · rw [if_pos (by simp [h0])]
    exact ⟨0, rfl, by omega, by omega⟩
  · rw [if_neg (by simpa using h0), show wrap64 (p + 1 - 1) = p by rw [wrap_in (by omega) (by omega)]; omega]
    by_cases h1 : p < (l.length : Int)
    · rw [if_pos h1, if_pos hp0, if_neg (by omega), wrap_in (by have := rd_u8 hb p; omega) (by have := rd_u8 hb p; omega)]
      have := rd_u8 hb p
      exact ⟨_, rfl, Int.tmod_nonneg _ (by omega), Int.tmod_lt_of_pos _ (by omega)⟩
    · rw [if_neg h1, if_neg (by omega)]
      have hpos : (0 : Int) < (l.length : Int) := by omega
      have m1 : 0 ≤ Int.tmod p (l.length : Int) ∧ Int.tmod p (l.length : Int) < (l.length : Int) := ⟨Int.tmod_nonneg _ hp0, Int.tmod_lt_of_pos _ hpos⟩
      have e7 : wrap64 (p * 7) = p * 7 := wrap_in (by omega) (by omega)
      have e73 : wrap64 (p * 7 + 3) = p * 7 + 3 := wrap_in (by omega) (by omega)
      have m2 : 0 ≤ Int.tmod (p * 7 + 3) (l.length : Int) ∧ Int.tmod (p * 7 + 3) (l.length : Int) < (l.length : Int) := ⟨Int.tmod_nonneg _ (by omega), Int.tmod_lt_of_pos _ hpos⟩
      rw [e7, e73, if_pos m1.1, if_pos m1.2, if_pos m2.1, if_pos m2.2, if_neg (by omega)]
      have b1 := rd_u8 hb (Int.tmod p (l.length : Int))
      have b2 := rd_u8 hb (Int.tmod (p * 7 + 3) (l.length : Int))
      have d0 : 0 ≤ Int.tdiv p (l.length : Int) ∧ Int.tdiv p (l.length : Int) ≤ p := ⟨Int.tdiv_nonneg hp0 (by omega), Int.tdiv_le_self _ hp0⟩
      generalize rd l (Int.tmod p (l.length : Int)) = a at *
      generalize rd l (Int.tmod (p * 7 + 3) (l.length : Int)) = b at *
      generalize Int.tdiv p (l.length : Int) = d at *
      have s1 : wrap64 (wrap64 a * 131) = a * 131 := by rw [wrap_in (x := a) (by omega) (by omega)]; exact wrap_in (by omega) (by omega)
      have s2 : wrap64 (wrap64 b * 1117) = b * 1117 := by rw [wrap_in (x := b) (by omega) (by omega)]; exact wrap_in (by omega) (by omega)
      have s3 : wrap64 (p * 29) = p * 29 := wrap_in (by omega) (by omega)
      have s4 : wrap64 (wrap64 d * 53) = d * 53 := by rw [wrap_in (x := d) (by omega) (by omega)]; exact wrap_in (by omega) (by omega)
      rw [s1, s2, s3, s4, wrap_in (x := a * 131 + b * 1117) (by omega) (by omega), wrap_in (x := a * 131 + b * 1117 + p * 29) (by omega) (by omega), wrap_in (x := a * 131 + b * 1117 + p * 29 + d * 53) (by omega) (by omega)]
      have hx0 : 0 ≤ a * 131 + b * 1117 + p * 29 + d * 53 := by omega
      have hx1 : a * 131 + b * 1117 + p * 29 + d * 53 < 1000000000 := by omega
      generalize a * 131 + b * 1117 + p * 29 + d * 53 = x at *
      have q0 : 0 ≤ Int.tdiv x 64 ∧ Int.tdiv x 64 ≤ x := ⟨Int.tdiv_nonneg hx0 (by omega), Int.tdiv_le_self _ hx0⟩
      rw [wrap_in (x := Int.tdiv x 64) (by omega) (by omega)]
      have := xor_nonneg x (Int.tdiv x 64) hx0 (by omega) q0.1 (by omega)
      exact ⟨_, rfl, Int.tmod_nonneg _ this.1, Int.tmod_lt_of_pos _ (by omega)⟩
theorem open_ok (l : List Int) (hl : ∀ x ∈ l, (Lit.int .u8 x).wf = true) : ∃ m, spec_l30Open.f l = some (m, 0) ∧ Bytes m := by
  unfold spec_l30Open.f
  by_cases h : (l.length : Int) > 2000
  · rw [if_pos h, if_pos (by omega)]
    exact ⟨_, rfl, fun x hx => hl x (List.mem_of_mem_take hx), by rw [List.length_take]; omega⟩
  · rw [if_neg h]
    exact ⟨_, rfl, hl, by omega⟩
theorem num_ok {s : List Int} (hs : Bytes s) {p : Int} (hp0 : 0 ≤ p) (hp1 : p ≤ 900000) (k : Nat) (hk : 1 ≤ k) : ∃ r, spec_l30Num.f k s p = some (r, p + 3) := by
  unfold spec_l30Num.f
  obtain ⟨a, ea, ha⟩ := pick_ok hs hp0 (by omega) (n := 256) (by omega) k hk
  obtain ⟨b, eb, hb⟩ := pick_ok hs (p := p + 1) (by omega) (by omega) (n := 256) (by omega) k hk
  obtain ⟨c, ec, hc⟩ := pick_ok hs (p := p + 1 + 1) (by omega) (by omega) (n := 12) (by omega) k hk
  rw [ea, Option.bind_some]
  simp only []
  rw [eb, Option.bind_some, Option.bind_some]
  simp only []
  rw [ec, Option.bind_some]
  simp only []
  rw [if_pos hc.1, if_pos (by simpa using hc.2)]
  exact ⟨_, by rw [show p + 1 + 1 + 1 = p + 3 by omega]⟩
theorem drawPut_ok (l : List Int) (hl : ∀ x ∈ l, (Lit.int .u8 x).wf = true) (k : Nat) (hk : 1 ≤ k) : ∃ n s, spec_DrawBytPut.f k l = some (n, s) := by
  obtain ⟨m, em, hm⟩ := open_ok l hl
  obtain ⟨a, ea⟩ := num_ok hm (p := 0) (by omega) (by omega) k (by omega)
  obtain ⟨b, eb, hb⟩ := pick_ok hm (p := 0 + 3) (by omega) (by omega) (n := 9) (by omega) k hk
  unfold spec_DrawBytPut.f
  rw [em, Option.bind_some]
  simp only []
  rw [ea, Option.bind_some, Option.bind_some]
  simp only []
  rw [eb, Option.bind_some]
  simp only []
  rw [if_pos hb.1, if_pos (by simpa using hb.2)]
  exact ⟨_, _, rfl⟩
theorem less_eq : ∀ (a b : List Int), isBytes a = true → isBytes b = true → a.length = b.length → Op.bytesLess (a.map fun n => UInt8.ofNat n.toNat) (b.map fun n => UInt8.ofNat n.toNat) = decide (takeV a < takeV b) := by
  have key : ∀ (a b : List Int) (x y : Int), isBytes a = true → isBytes b = true → a.length = b.length →
      decide (a.foldl (fun n x => n * 256 + x) x < b.foldl (fun n x => n * 256 + x) y) = (decide (x < y) || (decide (x = y) && Op.bytesLess (a.map fun n => UInt8.ofNat n.toNat) (b.map fun n => UInt8.ofNat n.toNat))) := by
    intro a
    induction a with
    | nil =>
      intro b x y _ _ hl
      obtain rfl : b = [] := List.eq_nil_of_length_eq_zero (by simpa using hl.symm)
      rw [Bool.eq_iff_iff]
      simp [Op.bytesLess]
      exact decide_eq_true_iff
    | cons p a ih =>
      intro b x y ha hb hl
      cases b with
      | nil => simp at hl
      | cons q b =>
        have hp := of_decide_eq_true (List.all_eq_true.1 ha p (by simp))
        have hq := of_decide_eq_true (List.all_eq_true.1 hb q (by simp))
        have ha' : isBytes a = true := List.all_eq_true.2 fun z hz => List.all_eq_true.1 ha z (by simp [hz])
        have hb' : isBytes b = true := List.all_eq_true.2 fun z hz => List.all_eq_true.1 hb z (by simp [hz])
        rw [List.foldl_cons, List.foldl_cons, ih b _ _ ha' hb' (by simpa using hl), List.map_cons, List.map_cons]
        simp only [Op.bytesLess]
        have e1 : (UInt8.ofNat p.toNat < UInt8.ofNat q.toNat) = (p < q) := by
          rw [UInt8.lt_iff_toNat_lt]
          simp only [UInt8.toNat_ofNat']
          rw [Nat.mod_eq_of_lt (by omega), Nat.mod_eq_of_lt (by omega)]
          exact propext ⟨fun h => by omega, fun h => by omega⟩
        have e2 : (UInt8.ofNat p.toNat == UInt8.ofNat q.toNat) = decide (p = q) := by
          rw [Bool.eq_iff_iff, beq_iff_eq, decide_eq_true_eq, ← UInt8.toNat_inj]
          simp only [UInt8.toNat_ofNat']
          rw [Nat.mod_eq_of_lt (by omega), Nat.mod_eq_of_lt (by omega)]
          exact ⟨fun h => by omega, fun h => by omega⟩
        rw [e2]
        simp only [e1]
        by_cases h1 : x < y
        · have h2 : x * 256 + p < y * 256 + q := by omega
          simp [h1, h2]
        · by_cases h3 : x = y
          · subst h3
            have g1 : (x * 256 + p < x * 256 + q) ↔ p < q := by omega
            have g2 : (x * 256 + p = x * 256 + q) ↔ p = q := by omega
            simp [g1, g2]
          · have h2 : ¬ x * 256 + p < y * 256 + q := by omega
            have h4 : ¬ x * 256 + p = y * 256 + q := by omega
            simp [h1, h2, h3, h4]
  intro a b ha hb hl
  have h := key a b 0 0 ha hb hl
  simp only [show ¬ ((0 : Int) < 0) by decide, decide_false, Bool.false_or, decide_true, Bool.true_and] at h
  exact h.symm
theorem ca_self (l : List Int) : laws_caBytes.f l l = some true := by
  unfold laws_caBytes.f
  simp
theorem toList_of (l : List Int) : (strOfNums l).toList = l.map fun n => UInt8.ofNat n.toNat := by
  rw [ByteArray.toList_eq]
  rfl
end FnBytNumber_
open FnBytNumber_
open Go.Proofs.YtghmfcfgmcngpaaDoorSealTag Go.Proofs.YtghmfcfgmcngpaaDoorBytLay Go.Proofs.YtghmfcfgmcngpaaDoorBytPut Go.Proofs.YtghmfcfgmcngpaaDoorBytRead Go.Proofs.YtghmfcfgmcngpaaDoorBytTake
theorem FnBytNumber : laws_FnBytNumber.Pure := by
  intro l r _ hl _ hr
  refine ⟨300, ?_⟩
  unfold laws_FnBytNumber.f
  have main : ∀ q, laws_FnBytNumber.j0 300 l r q = some true := by
    intro q
    simp only [laws_FnBytNumber.j0]
    cases q
    · obtain ⟨n, s, e⟩ := drawPut_ok l hl 299 (by omega)
      obtain ⟨m, t, e2⟩ := drawPut_ok r hr 299 (by omega)
      rw [if_neg (by decide), e, Option.bind_some]
      simp only []
      rw [e2, Option.bind_some]
      simp only [impl_BytPut.f]
      rw [Option.bind_some, Option.bind_some, specPut_eq _ (by omega), Option.bind_some, ca_self, Option.bind_some, if_pos rfl, specPut_eq _ (by omega), Option.bind_some, ca_self, Option.bind_some]
      simp only [laws_FnBytNumber.j1, Bool.not_true, Bool.false_eq_true, if_false]
      by_cases hn : (1 ≤ s ∧ s ≤ 4) ∧ 0 ≤ n ∧ n < 256 ^ s.toNat
      · have hz := putZ_good hn
        obtain ⟨j, rfl⟩ := Int.eq_ofNat_of_zero_le (show 0 ≤ s by omega)
        rw [Int.toNat_natCast] at hz hn
        have hl1 : (putZ n (j : Int)).length = j := by rw [hz, putL_length]
        have hb1 := putZ_bytes n (j : Int)
        have hv1 : takeV (putZ n (j : Int)) = n := by rw [hz]; exact foldl_put n j (by omega) (by omega) hn.2.1 hn.2.2
        have ht : takeR (putZ n (j : Int)) 0 (j : Int) = (n, true) := by
          unfold takeR
          rw [if_pos ⟨by omega, by decide, by rw [hl1]; omega⟩, Int.toNat_natCast]
          show (takeV (((putZ n (j : Int)).take (0 + j)).drop 0), true) = _
          rw [List.drop_zero, Nat.zero_add, List.take_of_length_le (by omega), hv1]
        unfold impl_BytTake.f
        rw [hl1, if_neg (by omega), if_pos hb1, Option.bind_some, ht]
        simp only []
        rw [if_pos trivial, if_pos trivial, if_pos trivial]
        by_cases hm : 0 ≤ m ∧ m < 256 ^ j
        · have hz2 := putZ_good (n := m) (s := (j : Int)) ⟨by omega, by rw [Int.toNat_natCast]; exact hm⟩
          rw [Int.toNat_natCast] at hz2
          have hl2 : (putZ m (j : Int)).length = j := by rw [hz2, putL_length]
          have hv2 : takeV (putZ m (j : Int)) = m := by rw [hz2]; exact foldl_put m j (by omega) (by omega) hm.1 hm.2
          have ho := less_eq (putZ n (j : Int)) (putZ m (j : Int)) hb1 (putZ_bytes m (j : Int)) (by omega)
          rw [hv1, hv2] at ho
          rw [hl2, if_neg (by omega), toList_of, toList_of, ho]
          simp
        · have hz2 : putZ m (j : Int) = [] := putZ_bad (fun hh => hm (by rw [Int.toNat_natCast] at hh; exact hh.2))
          rw [hz2, if_pos (show ((([] : List Int).length : Nat) : Int) = 0 from rfl)]
      · rw [putZ_bad hn, if_pos (show ((([] : List Int).length : Nat) : Int) = 0 from rfl), show impl_BytPut.f 258 2 = some (putZ 258 2) from rfl, Option.bind_some, show putZ 258 2 = [1, 2] by decide +kernel, ca_self]
        rfl
    · rfl
  split
  · exact main _
  · exact main _

end Go.Proofs.YtghmfcfgmcngpaaDoor.Pure
