/- The pure statement of FnExactSealTag: the program's SealTag and the reference's tell the same, and the arguments stay. Conditions: whole numbers of 64 bits, bytes. -/
import Derived.Test.YtghmfcfgmcngpaaPFnExactSealTagx1
import Derived.Test.YtghmfcfgmcngpaaPl
import Derived.Test.YtghmfcfgmcngpaaSealTag
set_option linter.unusedSimpArgs false
set_option linter.unusedVariables false
namespace Go.Proofs.Ytghmfcfgmcngpaa.Pure
open Go.RowKit Go.Proofs.Ytghmfcfgmcngpaa.PFnExactSealTag Go.Proofs.YtghmfcfgmcngpaaW.PrintWords Go.Proofs.YtghmfcfgmcngpaaW.PrintLast Go.Proofs.YtghmfcfgmcngpaaW.PrintMore Go.Proofs.YtghmfcfgmcngpaaPl

namespace FnExactSealTag_
open Go.Proofs.YtghmfcfgmcngpaaSeal Go.Proofs.YtghmfcfgmcngpaaSealTag
theorem l1In_eq (a b c : Int) : spec_l1In.f a b c = some (decide (b ≤ a ∧ a ≤ c)) := by
  unfold spec_l1In.f
  by_cases h1 : b ≤ a
  · rw [if_pos h1]
    simp [h1]
  · rw [if_neg h1]
    simp [h1]
theorem toByteS_eq (l : List Int) (hl : l.length ≤ 1048576) (k : Nat) (hk : l.length < k) : laws_toByteS.f k l = some l := by
  unfold laws_toByteS.f
  rw [if_pos (by omega), if_pos (by omega)]
  have h := map_loop (fun k y i => laws_toByteS.l0 k l y i) l id (fun k y i hi hy => by
    simp only [laws_toByteS.l0]
    rw [if_pos (by omega), if_pos (by omega), if_pos (by omega), wrap_nat (by omega), rd_nat l i hi]
    rfl) (fun k y hy => by
    simp only [laws_toByteS.l0]
    rw [if_neg (by omega)]) k (List.replicate ((l.length : Int) : Int).toNat 0) (by simp) hk
  simpa using h
theorem eqByteS_self (l : List Int) (hl : l.length ≤ 1048576) (k : Nat) (hk : l.length < k) : laws_eqByteS.f k l l = some true := by
  unfold laws_eqByteS.f
  rw [if_pos rfl]
  exact all_loop_true (fun k i => laws_eqByteS.l0 k l l i) l.length (fun k i hi => by
    simp only [laws_eqByteS.l0]
    rw [if_pos (by omega), if_pos (by omega), if_pos (by omega), if_pos trivial, wrap_nat (by omega)]) (fun k => by
    simp only [laws_eqByteS.l0]
    rw [if_neg (by omega)]) k hk
theorem xor_u32 (a b : Nat) (ha : a < 4294967296) (hb : b < 4294967296) : Go.bits .xor .u32 (a : Int) (b : Int) = ((a ^^^ b : Nat) : Int) := by
  have ha' : a % 2 ^ IntKind.u32.bits = a := Nat.mod_eq_of_lt ha
  have hb' : b % 2 ^ IntKind.u32.bits = b := Nat.mod_eq_of_lt hb
  have hx : a ^^^ b < 4294967296 := Nat.xor_lt_two_pow (n := 32) ha hb
  simp only [Go.bits, BitVec.ofInt_natCast, BitVec.toNat_xor, BitVec.toNat_ofNat, ha', hb', IntKind.wrap_u32]
  omega
theorem xors (p q : Int) (p0 : 0 ≤ p) (p1 : p ≤ 4294967295) (q0 : 0 ≤ q) (q1 : q ≤ 4294967295) : Go.bits .xor .i64 p q = Go.bits .xor .u32 p q := by
  obtain ⟨a, rfl⟩ := Int.eq_ofNat_of_zero_le p0
  obtain ⟨b, rfl⟩ := Int.eq_ofNat_of_zero_le q0
  rw [xor_u32 a b (by omega) (by omega), xor_i64 a b (by omega) (by omega)]
theorem tmod32 (c : Int) (h : 0 ≤ c) : Int.tmod c 4294967296 = c % 4294967296 := Int.tmod_eq_emod_of_nonneg h
theorem l3_mix (x y : Int) (hx0 : 0 ≤ x) (hx1 : x ≤ 4294967295) (hy0 : 0 ≤ y) (hy1 : y ≤ 1000000) : spec_l3Mix.f x y = some (mixZ x y) := by
  unfold spec_l3Mix.f mixZ
  rw [xors x y hx0 hx1 hy0 (by omega)]
  have hc := bits_u32 x y
  generalize Go.bits .xor .u32 x y = c at *
  rw [show Int.tmod c 4294967296 = c by rw [tmod32 c hc.1]; omega, show wrap64 (c * 69069) = c * 69069 from wrap_in (by omega) (by omega), show wrap64 (c * 69069 + 1) = c * 69069 + 1 from wrap_in (by omega) (by omega), tmod32 (c * 69069 + 1) (by omega)]
  have hd : 0 ≤ (c * 69069 + 1) % 4294967296 ∧ (c * 69069 + 1) % 4294967296 ≤ 4294967295 := by omega
  generalize (c * 69069 + 1) % 4294967296 = d at *
  rw [show Int.tdiv d 65536 = d / 65536 from Int.tdiv_eq_ediv_of_nonneg hd.1, show wrap64 (d / 65536) = d / 65536 from wrap_in (by omega) (by omega), xors d (d / 65536) hd.1 hd.2 (by omega) (by omega)]
  have he := bits_u32 d (d / 65536)
  generalize Go.bits .xor .u32 d (d / 65536) = e at *
  rw [show wrap64 (e * 40503) = e * 40503 from wrap_in (by omega) (by omega), show wrap64 (e * 40503 + y) = e * 40503 + y from wrap_in (by omega) (by omega), show wrap64 (e * 40503 + y + 7) = e * 40503 + y + 7 from wrap_in (by omega) (by omega), tmod32 (e * 40503 + y + 7) (by omega)]
  have hf : 0 ≤ (e * 40503 + y + 7) % 4294967296 ∧ (e * 40503 + y + 7) % 4294967296 ≤ 4294967295 := by omega
  generalize (e * 40503 + y + 7) % 4294967296 = f at *
  rw [show Int.tdiv f 8192 = f / 8192 from Int.tdiv_eq_ediv_of_nonneg hf.1, show wrap64 (f / 8192) = f / 8192 from wrap_in (by omega) (by omega), xors f (f / 8192) hf.1 hf.2 (by omega) (by omega)]
theorem rd_getD (l : List Int) (k : Nat) : rd l (k : Int) = l.getD k 0 := by simp [rd]
theorem may_eq (key seq : Int) (head coded : List Int) : spec_l3Ok.f key seq head coded = some (mayB key seq head.length coded.length) := by
  unfold spec_l3Ok.f mayB
  simp only [l1In_eq, Option.bind_some]
  have e3 : ((head.length : Int) ≤ 64) ↔ head.length ≤ 64 := by omega
  have e4 : ((coded.length : Int) ≤ 64) ↔ coded.length ≤ 64 := by omega
  simp only [e3, e4]
  by_cases h1 : 0 ≤ key ∧ key ≤ 4294967295 <;> by_cases h2 : 0 ≤ seq ∧ seq ≤ 65535 <;> by_cases h3 : head.length ≤ 64 <;> by_cases h4 : coded.length ≤ 64 <;> simp [h1, h2, h3, h4]
theorem tag_l1 (coded : List Int) (hc : isBytes coded = true) (hl : coded.length ≤ 64) (pre : List Int) (key : Int) (k0 : 0 ≤ key) (k1 : key ≤ 4294967295) : ∀ (d k j : Nat), j + d = coded.length → d < k →
    spec_SealTag.l1 k coded (foldZ key (pre ++ (coded.take j).map (600 + ·))) (j : Int) = some (foldZ key (pre ++ (coded.take coded.length).map (600 + ·))) := by
  intro d
  induction d with
  | zero =>
    intro k j hj hk
    obtain ⟨k, rfl⟩ : ∃ m, k = m + 1 := ⟨k - 1, by omega⟩
    obtain rfl : j = coded.length := by omega
    simp only [spec_SealTag.l1]
    rw [if_neg (by omega)]
  | succ d ih =>
    intro k j hj hk
    obtain ⟨k, rfl⟩ : ∃ m, k = m + 1 := ⟨k - 1, by omega⟩
    have hx := isBytes_at hc j
    have hf := foldZ_in (pre ++ (coded.take j).map (600 + ·)) key k0 k1
    simp only [spec_SealTag.l1]
    rw [if_pos (by omega), if_pos (by omega), rd_getD, wrap_in (x := coded.getD j 0) (by omega) (by omega), wrap_in (x := 600 + coded.getD j 0) (by omega) (by omega), l3_mix _ _ hf.1 hf.2 (by omega) (by omega), Option.bind_some, wrap_nat (by omega),
      ← foldZ_snoc, List.append_assoc, ← ih k (j + 1) (by omega) (by omega), take_snoc coded j (by omega), List.map_append]
    rfl
theorem tag_l0 (head coded : List Int) (hh : isBytes head = true) (hc : isBytes coded = true) (hl : head.length ≤ 64) (hl2 : coded.length ≤ 64) (pre : List Int) (key : Int) (k0 : 0 ≤ key) (k1 : key ≤ 4294967295) : ∀ (d k j : Nat), j + d = head.length → d + 70 < k →
    spec_SealTag.l0 k head coded (foldZ key (pre ++ (head.take j).map (1 + ·))) (j : Int) = some (foldZ key (pre ++ (head.take head.length).map (1 + ·) ++ [500000 + (coded.length : Int)] ++ (coded.take coded.length).map (600 + ·))) := by
  intro d
  induction d with
  | zero =>
    intro k j hj hk
    obtain ⟨k, rfl⟩ : ∃ m, k = m + 1 := ⟨k - 1, by omega⟩
    obtain rfl : j = head.length := by omega
    have hf := foldZ_in (pre ++ (head.take head.length).map (1 + ·)) key k0 k1
    simp only [spec_SealTag.l0]
    rw [if_neg (by omega), wrap_in (x := 500000 + (coded.length : Int)) (by omega) (by omega), l3_mix _ _ hf.1 hf.2 (by omega) (by omega), Option.bind_some, ← foldZ_snoc]
    have h := tag_l1 coded hc hl2 (pre ++ (head.take head.length).map (1 + ·) ++ [500000 + (coded.length : Int)]) key k0 k1 coded.length k 0 (by omega) (by omega)
    rw [List.take_zero, List.map_nil, List.append_nil] at h
    exact h
  | succ d ih =>
    intro k j hj hk
    obtain ⟨k, rfl⟩ : ∃ m, k = m + 1 := ⟨k - 1, by omega⟩
    have hx := isBytes_at hh j
    have hf := foldZ_in (pre ++ (head.take j).map (1 + ·)) key k0 k1
    simp only [spec_SealTag.l0]
    rw [if_pos (by omega), if_pos (by omega), rd_getD, wrap_in (x := head.getD j 0) (by omega) (by omega), wrap_in (x := 1 + head.getD j 0) (by omega) (by omega), l3_mix _ _ hf.1 hf.2 (by omega) (by omega), Option.bind_some, wrap_nat (by omega),
      ← foldZ_snoc, List.append_assoc, ← ih k (j + 1) (by omega) (by omega), take_snoc head j (by omega), List.map_append]
    rfl
theorem specTag_eq (key seq : Int) (head coded : List Int) (hh : isBytes head = true) (hc : isBytes coded = true) (k : Nat) (hk : 200 ≤ k) : spec_SealTag.f k key seq head coded = some (tagZ key seq head coded) := by
  unfold spec_SealTag.f
  rw [may_eq, Option.bind_some]
  cases hmay : mayB key seq head.length coded.length
  · rw [if_neg (by decide), tagZ_bad hmay]
  · have hb := of_decide_eq_true hmay
    obtain ⟨⟨⟨k0, k1⟩, s0, s1⟩, n64, m64⟩ := hb
    have m1 := mixZ_in key (300000 + seq)
    have m2 := mixZ_in (mixZ key (300000 + seq)) 11
    rw [if_pos rfl, tagZ_good hmay, wrap_in (x := 300000 + seq) (by omega) (by omega), l3_mix _ _ k0 k1 (by omega) (by omega), Option.bind_some, l3_mix _ _ m1.1 m1.2 (by omega) (by omega), Option.bind_some,
      wrap_in (x := 400000 + (head.length : Int)) (by omega) (by omega), l3_mix _ _ m2.1 m2.2 (by omega) (by omega), Option.bind_some]
    have h := tag_l0 head coded hh hc n64 m64 [300000 + seq, 11, 400000 + (head.length : Int)] key k0 k1 head.length k 0 (by omega) (by omega)
    rw [List.take_zero, List.map_nil, List.append_nil] at h
    exact h
theorem isBytes_of {l : List Int} (h : ∀ x ∈ l, (Lit.int .u8 x).wf = true) : isBytes l = true := List.all_eq_true.2 fun x hx => decide_eq_true (wf_u8 (h x hx))
end FnExactSealTag_
open FnExactSealTag_
open Go.Proofs.YtghmfcfgmcngpaaSeal Go.Proofs.YtghmfcfgmcngpaaSealTag
theorem FnExactSealTag : laws_FnExactSealTag.Pure := by
  intro key seq head coded _ _ _ h2 _ h3
  obtain ⟨K, hK⟩ : ∃ K : Nat, 1048600 ≤ K := ⟨1048600, Nat.le_refl _⟩
  refine ⟨K + 1, ?_⟩
  have b2 := isBytes_of h2
  have b3 := isBytes_of h3
  unfold laws_FnExactSealTag.f
  by_cases l2 : (head.length : Int) > 1048576
  · rw [if_pos l2]
  · by_cases l3 : (coded.length : Int) > 1048576
    · rw [if_neg l2, if_pos l3]
    · rw [if_neg l2, if_neg l3, toByteS_eq head (by omega) _ (by omega), Option.bind_some, toByteS_eq coded (by omega) _ (by omega), Option.bind_some, specTag_eq key seq head coded b2 b3 _ (by omega), Option.bind_some, Option.bind_some, Option.bind_some]
      unfold impl_SealTag.f
      rw [if_pos b2, if_pos b3, Option.bind_some, if_pos rfl, Option.bind_some, eqByteS_self head (by omega) _ (by omega), Option.bind_some, if_pos rfl, Option.bind_some, eqByteS_self coded (by omega) _ (by omega), Option.bind_some, if_pos rfl]

end Go.Proofs.Ytghmfcfgmcngpaa.Pure
