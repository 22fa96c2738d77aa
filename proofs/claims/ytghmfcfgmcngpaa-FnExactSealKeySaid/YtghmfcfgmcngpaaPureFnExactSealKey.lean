/- The pure statement of FnExactSealKey: the program's SealKey and the reference's tell the same. Conditions: the arguments are whole numbers of 64 bits. -/
import Derived.Test.YtghmfcfgmcngpaaPFnExactSealKeyx1
import Derived.Test.YtghmfcfgmcngpaaPl
import Derived.Test.YtghmfcfgmcngpaaSealKey
set_option linter.unusedSimpArgs false
set_option linter.unusedVariables false
namespace Go.Proofs.Ytghmfcfgmcngpaa.Pure
open Go.RowKit Go.Proofs.Ytghmfcfgmcngpaa.PFnExactSealKey Go.Proofs.YtghmfcfgmcngpaaW.PrintWords Go.Proofs.YtghmfcfgmcngpaaW.PrintLast Go.Proofs.YtghmfcfgmcngpaaW.PrintMore Go.Proofs.YtghmfcfgmcngpaaPl

namespace FnExactSealKey_
open Go.Proofs.YtghmfcfgmcngpaaSeal Go.Proofs.YtghmfcfgmcngpaaSealKey
theorem l1In_eq (a b c : Int) : spec_l1In.f a b c = some (decide (b ≤ a ∧ a ≤ c)) := by
  unfold spec_l1In.f
  by_cases h1 : b ≤ a
  · rw [if_pos h1]
    simp [h1]
  · rw [if_neg h1]
    simp [h1]
theorem xor_u32 (a b : Nat) (ha : a < 4294967296) (hb : b < 4294967296) : Go.bits .xor .u32 (a : Int) (b : Int) = ((a ^^^ b : Nat) : Int) := by
  have ha' : a % 2 ^ IntKind.u32.bits = a := Nat.mod_eq_of_lt ha
  have hb' : b % 2 ^ IntKind.u32.bits = b := Nat.mod_eq_of_lt hb
  have hx : a ^^^ b < 4294967296 := Nat.xor_lt_two_pow (n := 32) ha hb
  simp only [Go.bits, BitVec.ofInt_natCast, BitVec.toNat_xor, BitVec.toNat_ofNat, ha', hb', IntKind.wrap_u32]
  omega
theorem xors (p q : Int) (p0 : 0 ≤ p) (p1 : p ≤ 4294967295) (q0 : 0 ≤ q) (q1 : q ≤ 4294967295) : Go.bits .xor .i64 p q = Go.bits .xor .u32 p q := by
  obtain ⟨a, rfl⟩ := Int.eq_ofNat_of_zero_le p0
  obtain ⟨b, rfl⟩ := Int.eq_ofNat_of_zero_le q0
  rw [xor_u32 a b (by omega) (by omega), xor_i64 a b (by omega) (by omega)]
theorem tmod32 (c : Int) (h : 0 ≤ c) : Int.tmod c 4294967296 = c % 4294967296 := Int.tmod_eq_emod_of_nonneg h
theorem l3_mix (x y : Int) (hx0 : 0 ≤ x) (hx1 : x ≤ 4294967295) (hy0 : 0 ≤ y) (hy1 : y ≤ 1000000) : spec_l3Mix.f x y = some (mixZ x y) := by
  unfold spec_l3Mix.f mixZ
  rw [xors x y hx0 hx1 hy0 (by omega)]
  have hc := bits_u32 x y
  generalize Go.bits .xor .u32 x y = c at *
  rw [show Int.tmod c 4294967296 = c by rw [tmod32 c hc.1]; omega, show wrap64 (c * 69069) = c * 69069 from wrap_in (by omega) (by omega), show wrap64 (c * 69069 + 1) = c * 69069 + 1 from wrap_in (by omega) (by omega), tmod32 (c * 69069 + 1) (by omega)]
  have hd : 0 ≤ (c * 69069 + 1) % 4294967296 ∧ (c * 69069 + 1) % 4294967296 ≤ 4294967295 := by omega
  generalize (c * 69069 + 1) % 4294967296 = d at *
  rw [show Int.tdiv d 65536 = d / 65536 from Int.tdiv_eq_ediv_of_nonneg hd.1, show wrap64 (d / 65536) = d / 65536 from wrap_in (by omega) (by omega), xors d (d / 65536) hd.1 hd.2 (by omega) (by omega)]
  have he := bits_u32 d (d / 65536)
  generalize Go.bits .xor .u32 d (d / 65536) = e at *
  rw [show wrap64 (e * 40503) = e * 40503 from wrap_in (by omega) (by omega), show wrap64 (e * 40503 + y) = e * 40503 + y from wrap_in (by omega) (by omega), show wrap64 (e * 40503 + y + 7) = e * 40503 + y + 7 from wrap_in (by omega) (by omega), tmod32 (e * 40503 + y + 7) (by omega)]
  have hf : 0 ≤ (e * 40503 + y + 7) % 4294967296 ∧ (e * 40503 + y + 7) % 4294967296 ≤ 4294967295 := by omega
  generalize (e * 40503 + y + 7) % 4294967296 = f at *
  rw [show Int.tdiv f 8192 = f / 8192 from Int.tdiv_eq_ediv_of_nonneg hf.1, show wrap64 (f / 8192) = f / 8192 from wrap_in (by omega) (by omega), xors f (f / 8192) hf.1 hf.2 (by omega) (by omega)]
theorem specKey_eq (k : Nat) (s f t b p e : Int) : spec_SealKey.f (k + 1) s f t b p e = some (keyZ s f t b p e) := by
  unfold spec_SealKey.f
  simp only [Option.bind_some, l1In_eq, spec_SealKey.j0]
  by_cases hok : okK s f t b p e = true
  · have h := of_decide_eq_true hok
    unfold keyZ
    rw [if_pos hok]
    obtain ⟨hs, hf, ht, he, hb, hp⟩ := h
    rw [decide_eq_true hs, decide_eq_true hf, decide_eq_true ht, decide_eq_true he, decide_eq_true hb, decide_eq_true hp]
    simp only [if_true, Bool.not_true, Bool.false_eq_true, if_false, Option.bind_some]
    have m1 := mixZ_in s (1 + f)
    have m2 := mixZ_in (mixZ s (1 + f)) (300 + t)
    have m3 := mixZ_in (mixZ (mixZ s (1 + f)) (300 + t)) (1000 + b)
    have m4 := mixZ_in (mixZ (mixZ (mixZ s (1 + f)) (300 + t)) (1000 + b)) (70000 + p)
    have m5 := mixZ_in (mixZ (mixZ (mixZ (mixZ s (1 + f)) (300 + t)) (1000 + b)) (70000 + p)) (140000 + e)
    rw [wrap_in (x := 1 + f) (by omega) (by omega), wrap_in (x := 300 + t) (by omega) (by omega), wrap_in (x := 1000 + b) (by omega) (by omega), wrap_in (x := 70000 + p) (by omega) (by omega), wrap_in (x := 140000 + e) (by omega) (by omega)]
    rw [l3_mix _ _ hs.1 hs.2 (by omega) (by omega), Option.bind_some, l3_mix _ _ m1.1 m1.2 (by omega) (by omega), Option.bind_some, l3_mix _ _ m2.1 m2.2 (by omega) (by omega), Option.bind_some, l3_mix _ _ m3.1 m3.2 (by omega) (by omega), Option.bind_some, l3_mix _ _ m4.1 m4.2 (by omega) (by omega), Option.bind_some, l3_mix _ _ m5.1 m5.2 (by omega) (by omega), Option.bind_some]
    rfl
  · have hk : keyZ s f t b p e = 0 := by
      unfold keyZ
      rw [if_neg hok]
    rw [hk]
    have h : ¬ ((0 ≤ s ∧ s ≤ 4294967295) ∧ (0 ≤ f ∧ f ≤ 255) ∧ (0 ≤ t ∧ t ≤ 255) ∧ (0 ≤ e ∧ e ≤ 255) ∧ (0 ≤ b ∧ b ≤ 65535) ∧ (0 ≤ p ∧ p ≤ 65535)) := fun hh => hok (decide_eq_true hh)
    by_cases hs : 0 ≤ s ∧ s ≤ 4294967295 <;> by_cases hf : 0 ≤ f ∧ f ≤ 255 <;> by_cases ht : 0 ≤ t ∧ t ≤ 255 <;> by_cases hb : 0 ≤ b ∧ b ≤ 65535 <;> by_cases hp : 0 ≤ p ∧ p ≤ 65535 <;> by_cases he : 0 ≤ e ∧ e ≤ 255 <;>
      first | (simp [hs, hf, ht, hb, hp, he]; done) | exact absurd (And.intro hs (And.intro hf (And.intro ht (And.intro he (And.intro hb hp))))) h
end FnExactSealKey_
open FnExactSealKey_
open Go.Proofs.YtghmfcfgmcngpaaSeal Go.Proofs.YtghmfcfgmcngpaaSealKey
theorem FnExactSealKey : laws_FnExactSealKey.Pure := by
  intro s f t b p e _ _ _ _ _ _
  refine ⟨1, ?_⟩
  unfold laws_FnExactSealKey.f impl_SealKey.f
  simp only [specKey_eq, Option.bind_some]
  simp

end Go.Proofs.Ytghmfcfgmcngpaa.Pure
