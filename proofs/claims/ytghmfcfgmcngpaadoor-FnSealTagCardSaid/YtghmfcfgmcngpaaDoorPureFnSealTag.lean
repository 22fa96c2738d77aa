/- The pure statement of FnSealTag: it opens just if its last four bytes are its tag. Conditions: bytes. -/
import Derived.Test.YtghmfcfgmcngpaaDoorPFnSealTagx4
import Derived.Test.YtghmfcfgmcngpaaDoorPl
import Derived.Test.YtghmfcfgmcngpaaDoorBytPut
import Derived.Test.YtghmfcfgmcngpaaDoorSealHide
import Derived.Test.YtghmfcfgmcngpaaDoorBytTake
set_option linter.unusedSimpArgs false
set_option linter.unusedVariables false
namespace Go.Proofs.YtghmfcfgmcngpaaDoor.Pure
open Go.RowKit Go.Proofs.YtghmfcfgmcngpaaDoor.PFnSealTag Go.Proofs.YtghmfcfgmcngpaaDoorW.PrintWords Go.Proofs.YtghmfcfgmcngpaaDoorW.PrintLast Go.Proofs.YtghmfcfgmcngpaaDoorW.PrintMore Go.Proofs.YtghmfcfgmcngpaaDoorPl

namespace FnSealTag_
open Go.Proofs.YtghmfcfgmcngpaaDoorSeal Go.Proofs.YtghmfcfgmcngpaaDoorSealTag Go.Proofs.YtghmfcfgmcngpaaDoorSealHide Go.Proofs.YtghmfcfgmcngpaaDoorBytLay Go.Proofs.YtghmfcfgmcngpaaDoorBytPut Go.Proofs.YtghmfcfgmcngpaaDoorBytRead Go.Proofs.YtghmfcfgmcngpaaDoorBytTake
theorem l1In_eq (a b c : Int) : spec_l1In.f a b c = some (decide (b ≤ a ∧ a ≤ c)) := by
  unfold spec_l1In.f
  by_cases h1 : b ≤ a
  · rw [if_pos h1]
    simp [h1]
  · rw [if_neg h1]
    simp [h1]
theorem xor_u32 (a b : Nat) (ha : a < 4294967296) (hb : b < 4294967296) : Go.bits .xor .u32 (a : Int) (b : Int) = ((a ^^^ b : Nat) : Int) := by
  have ha' : a % 2 ^ IntKind.u32.bits = a := Nat.mod_eq_of_lt ha
  have hb' : b % 2 ^ IntKind.u32.bits = b := Nat.mod_eq_of_lt hb
  have hx : a ^^^ b < 4294967296 := Nat.xor_lt_two_pow (n := 32) ha hb
  simp only [Go.bits, BitVec.ofInt_natCast, BitVec.toNat_xor, BitVec.toNat_ofNat, ha', hb', IntKind.wrap_u32]
  omega
theorem xors (p q : Int) (p0 : 0 ≤ p) (p1 : p ≤ 4294967295) (q0 : 0 ≤ q) (q1 : q ≤ 4294967295) : Go.bits .xor .i64 p q = Go.bits .xor .u32 p q := by
  obtain ⟨a, rfl⟩ := Int.eq_ofNat_of_zero_le p0
  obtain ⟨b, rfl⟩ := Int.eq_ofNat_of_zero_le q0
  rw [xor_u32 a b (by omega) (by omega), xor_i64 a b (by omega) (by omega)]
theorem tmod32 (c : Int) (h : 0 ≤ c) : Int.tmod c 4294967296 = c % 4294967296 := Int.tmod_eq_emod_of_nonneg h
theorem l3_mix (x y : Int) (hx0 : 0 ≤ x) (hx1 : x ≤ 4294967295) (hy0 : 0 ≤ y) (hy1 : y ≤ 1000000) : spec_l3Mix.f x y = some (mixZ x y) := by
  unfold spec_l3Mix.f mixZ
  rw [xors x y hx0 hx1 hy0 (by omega)]
  have hc := bits_u32 x y
  generalize Go.bits .xor .u32 x y = c at *
  rw [show Int.tmod c 4294967296 = c by rw [tmod32 c hc.1]; omega, show wrap64 (c * 69069) = c * 69069 from wrap_in (by omega) (by omega), show wrap64 (c * 69069 + 1) = c * 69069 + 1 from wrap_in (by omega) (by omega), tmod32 (c * 69069 + 1) (by omega)]
  have hd : 0 ≤ (c * 69069 + 1) % 4294967296 ∧ (c * 69069 + 1) % 4294967296 ≤ 4294967295 := by omega
  generalize (c * 69069 + 1) % 4294967296 = d at *
  rw [show Int.tdiv d 65536 = d / 65536 from Int.tdiv_eq_ediv_of_nonneg hd.1, show wrap64 (d / 65536) = d / 65536 from wrap_in (by omega) (by omega), xors d (d / 65536) hd.1 hd.2 (by omega) (by omega)]
  have he := bits_u32 d (d / 65536)
  generalize Go.bits .xor .u32 d (d / 65536) = e at *
  rw [show wrap64 (e * 40503) = e * 40503 from wrap_in (by omega) (by omega), show wrap64 (e * 40503 + y) = e * 40503 + y from wrap_in (by omega) (by omega), show wrap64 (e * 40503 + y + 7) = e * 40503 + y + 7 from wrap_in (by omega) (by omega), tmod32 (e * 40503 + y + 7) (by omega)]
  have hf : 0 ≤ (e * 40503 + y + 7) % 4294967296 ∧ (e * 40503 + y + 7) % 4294967296 ≤ 4294967295 := by omega
  generalize (e * 40503 + y + 7) % 4294967296 = f at *
  rw [show Int.tdiv f 8192 = f / 8192 from Int.tdiv_eq_ediv_of_nonneg hf.1, show wrap64 (f / 8192) = f / 8192 from wrap_in (by omega) (by omega), xors f (f / 8192) hf.1 hf.2 (by omega) (by omega)]
theorem rd_getD (l : List Int) (k : Nat) : rd l (k : Int) = l.getD k 0 := by simp [rd]
theorem may_eq (key seq : Int) (head coded : List Int) : spec_l3Ok.f key seq head coded = some (mayB key seq head.length coded.length) := by
  unfold spec_l3Ok.f mayB
  simp only [l1In_eq, Option.bind_some]
  have e3 : ((head.length : Int) ≤ 64) ↔ head.length ≤ 64 := by omega
  have e4 : ((coded.length : Int) ≤ 64) ↔ coded.length ≤ 64 := by omega
  simp only [e3, e4]
  by_cases h1 : 0 ≤ key ∧ key ≤ 4294967295 <;> by_cases h2 : 0 ≤ seq ∧ seq ≤ 65535 <;> by_cases h3 : head.length ≤ 64 <;> by_cases h4 : coded.length ≤ 64 <;> simp [h1, h2, h3, h4]
theorem tag_l1 (coded : List Int) (hc : isBytes coded = true) (hl : coded.length ≤ 64) (pre : List Int) (key : Int) (k0 : 0 ≤ key) (k1 : key ≤ 4294967295) : ∀ (d k j : Nat), j + d = coded.length → d < k →
    spec_SealTag.l1 k coded (foldZ key (pre ++ (coded.take j).map (600 + ·))) (j : Int) = some (foldZ key (pre ++ (coded.take coded.length).map (600 + ·))) := by
  intro d
  induction d with
  | zero =>
    intro k j hj hk
    obtain ⟨k, rfl⟩ : ∃ m, k = m + 1 := ⟨k - 1, by omega⟩
    obtain rfl : j = coded.length := by omega
    simp only [spec_SealTag.l1]
    rw [if_neg (by omega)]
  | succ d ih =>
    intro k j hj hk
    obtain ⟨k, rfl⟩ : ∃ m, k = m + 1 := ⟨k - 1, by omega⟩
    have hx := isBytes_at hc j
    have hf := foldZ_in (pre ++ (coded.take j).map (600 + ·)) key k0 k1
    simp only [spec_SealTag.l1]
    rw [if_pos (by omega), if_pos (by omega), rd_getD, wrap_in (x := coded.getD j 0) (by omega) (by omega), wrap_in (x := 600 + coded.getD j 0) (by omega) (by omega), l3_mix _ _ hf.1 hf.2 (by omega) (by omega), Option.bind_some, wrap_nat (by omega),
      ← foldZ_snoc, List.append_assoc, ← ih k (j + 1) (by omega) (by omega), take_snoc coded j (by omega), List.map_append]
    rfl
theorem tag_l0 (head coded : List Int) (hh : isBytes head = true) (hc : isBytes coded = true) (hl : head.length ≤ 64) (hl2 : coded.length ≤ 64) (pre : List Int) (key : Int) (k0 : 0 ≤ key) (k1 : key ≤ 4294967295) : ∀ (d k j : Nat), j + d = head.length → d + 70 < k →
    spec_SealTag.l0 k head coded (foldZ key (pre ++ (head.take j).map (1 + ·))) (j : Int) = some (foldZ key (pre ++ (head.take head.length).map (1 + ·) ++ [500000 + (coded.length : Int)] ++ (coded.take coded.length).map (600 + ·))) := by
  intro d
  induction d with
  | zero =>
    intro k j hj hk
    obtain ⟨k, rfl⟩ : ∃ m, k = m + 1 := ⟨k - 1, by omega⟩
    obtain rfl : j = head.length := by omega
    have hf := foldZ_in (pre ++ (head.take head.length).map (1 + ·)) key k0 k1
    simp only [spec_SealTag.l0]
    rw [if_neg (by omega), wrap_in (x := 500000 + (coded.length : Int)) (by omega) (by omega), l3_mix _ _ hf.1 hf.2 (by omega) (by omega), Option.bind_some, ← foldZ_snoc]
    have h := tag_l1 coded hc hl2 (pre ++ (head.take head.length).map (1 + ·) ++ [500000 + (coded.length : Int)]) key k0 k1 coded.length k 0 (by omega) (by omega)
    rw [List.take_zero, List.map_nil, List.append_nil] at h
    exact h
  | succ d ih =>
    intro k j hj hk
    obtain ⟨k, rfl⟩ : ∃ m, k = m + 1 := ⟨k - 1, by omega⟩
    have hx := isBytes_at hh j
    have hf := foldZ_in (pre ++ (head.take j).map (1 + ·)) key k0 k1
    simp only [spec_SealTag.l0]
    rw [if_pos (by omega), if_pos (by omega), rd_getD, wrap_in (x := head.getD j 0) (by omega) (by omega), wrap_in (x := 1 + head.getD j 0) (by omega) (by omega), l3_mix _ _ hf.1 hf.2 (by omega) (by omega), Option.bind_some, wrap_nat (by omega),
      ← foldZ_snoc, List.append_assoc, ← ih k (j + 1) (by omega) (by omega), take_snoc head j (by omega), List.map_append]
    rfl
theorem specTag_eq (key seq : Int) (head coded : List Int) (hh : isBytes head = true) (hc : isBytes coded = true) (k : Nat) (hk : 200 ≤ k) : spec_SealTag.f k key seq head coded = some (tagZ key seq head coded) := by
  unfold spec_SealTag.f
  rw [may_eq, Option.bind_some]
  cases hmay : mayB key seq head.length coded.length
  · rw [if_neg (by decide), tagZ_bad hmay]
  · have hb := of_decide_eq_true hmay
    obtain ⟨⟨⟨k0, k1⟩, s0, s1⟩, n64, m64⟩ := hb
    have m1 := mixZ_in key (300000 + seq)
    have m2 := mixZ_in (mixZ key (300000 + seq)) 11
    rw [if_pos rfl, tagZ_good hmay, wrap_in (x := 300000 + seq) (by omega) (by omega), l3_mix _ _ k0 k1 (by omega) (by omega), Option.bind_some, l3_mix _ _ m1.1 m1.2 (by omega) (by omega), Option.bind_some,
      wrap_in (x := 400000 + (head.length : Int)) (by omega) (by omega), l3_mix _ _ m2.1 m2.2 (by omega) (by omega), Option.bind_some]
    have h := tag_l0 head coded hh hc n64 m64 [300000 + seq, 11, 400000 + (head.length : Int)] key k0 k1 head.length k 0 (by omega) (by omega)
    rw [List.take_zero, List.map_nil, List.append_nil] at h
    exact h
theorem isBytes_of {l : List Int} (h : ∀ x ∈ l, (Lit.int .u8 x).wf = true) : isBytes l = true := List.all_eq_true.2 fun x hx => decide_eq_true (wf_u8 (h x hx))
theorem putL_cons (n : Int) (j : Nat) : putL n (j + 1) = (n / 256 ^ j % 256) :: putL n j := by
  unfold putL
  rw [List.range_succ_eq_map, List.map_cons, List.map_map]
  congr 1
  apply List.map_congr_left
  intro i hi
  have := List.mem_range.1 hi
  simp only [Function.comp]
  rw [show j + 1 - 1 - (i + 1) = j - 1 - i by omega]
theorem size_eq (j : Nat) (hj : j ≤ 4) (k : Nat) (hk : 6 ≤ k) : spec_l2Size.f k (j : Int) = some (256 ^ j) := by
  obtain ⟨m, rfl⟩ : ∃ m, k = m + 6 := ⟨k - 6, by omega⟩
  obtain rfl | rfl | rfl | rfl | rfl : j = 0 ∨ j = 1 ∨ j = 2 ∨ j = 3 ∨ j = 4 := by omega
  all_goals kernel_rfl
theorem pow_in (j : Nat) (hj : j ≤ 4) : (1 : Int) ≤ 256 ^ j ∧ (256 : Int) ^ j ≤ 4294967296 := by
  obtain rfl | rfl | rfl | rfl | rfl : j = 0 ∨ j = 1 ∨ j = 2 ∨ j = 3 ∨ j = 4 := by omega
  all_goals decide
theorem put_loop (n : Int) (h0 : 0 ≤ n) (h1 : n ≤ 4294967295) (j : Nat) : j ≤ 4 → ∀ (k : Nat) (x : List Int), j + 10 ≤ k → x.length + j ≤ 1000 → spec_BytPut.l0 k n x ((j : Int) - 1) = some (x ++ putL n j) := by
  induction j with
  | zero =>
    intro _ k x hk hx
    obtain ⟨k, rfl⟩ : ∃ m, k = m + 1 := ⟨k - 1, by omega⟩
    simp only [spec_BytPut.l0]
    rw [if_neg (by omega)]
    simp [putL]
  | succ j ih =>
    intro hj k x hk hx
    obtain ⟨k, rfl⟩ : ∃ m, k = m + 1 := ⟨k - 1, by omega⟩
    have hp := pow_in j (by omega)
    simp only [spec_BytPut.l0]
    rw [if_pos (by omega), show ((j + 1 : Nat) : Int) - 1 = (j : Int) by omega, size_eq j (by omega) k (by omega), Option.bind_some, if_neg (by omega), if_pos (by omega), wrap_in (x := (j : Int) - 1) (by omega) (by omega),
      ih (by omega) k _ (by omega) (by rw [List.length_append, List.length_singleton]; omega), putL_cons, List.append_assoc, List.singleton_append, Int.tdiv_eq_ediv_of_nonneg h0]
    have hd0 : 0 ≤ n / 256 ^ j := Int.ediv_nonneg h0 (by omega)
    have hd1 : n / 256 ^ j ≤ n := Int.ediv_le_self _ h0
    rw [wrap_in (by omega) (by omega), Int.tmod_eq_emod_of_nonneg hd0, Int.emod_emod_of_dvd _ (Int.dvd_refl 256)]
theorem specPut_eq (k : Nat) (hk : 20 ≤ k) (n s : Int) : spec_BytPut.f k n s = some (putZ n s) := by
  unfold spec_BytPut.f
  rw [l1In_eq, Option.bind_some]
  by_cases hs : 1 ≤ s ∧ s ≤ 4
  · rw [decide_eq_true hs, if_pos rfl]
    obtain ⟨j, rfl⟩ := Int.eq_ofNat_of_zero_le (show 0 ≤ s by omega)
    have hp := pow_in j (by omega)
    rw [size_eq j (by omega) k (by omega), Option.bind_some, l1In_eq, Option.bind_some, wrap_in (by omega) (by omega)]
    obtain ⟨k, rfl⟩ : ∃ m, k = m + 1 := ⟨k - 1, by omega⟩
    simp only [spec_BytPut.j0]
    by_cases hn : 0 ≤ n ∧ n ≤ 256 ^ j - 1
    · rw [decide_eq_true hn, if_neg (by decide), wrap_in (by omega) (by omega), put_loop n hn.1 (by omega) j (by omega) k [] (by omega) (by simp; omega), List.nil_append]
      unfold putZ
      rw [if_pos ⟨hs, hn.1, by rw [Int.toNat_natCast]; omega⟩, Int.toNat_natCast]
    · rw [decide_eq_false hn, if_pos (by decide)]
      unfold putZ
      rw [if_neg (fun hh => hn ⟨hh.2.1, by have := hh.2.2; rw [Int.toNat_natCast] at this; omega⟩)]
  · rw [decide_eq_false hs, if_neg (by decide)]
    obtain ⟨k, rfl⟩ : ∃ m, k = m + 1 := ⟨k - 1, by omega⟩
    simp only [spec_BytPut.j0]
    unfold putZ
    rw [if_pos trivial, if_neg (fun hh => hs hh.1)]
theorem wrap_u8 (z : Int) : IntKind.u8.wrap z = z % 256 := by rw [IntKind.wrap_u8]
theorem xor_u8 (a b : Nat) (ha : a < 256) (hb : b < 256) : Go.bits .xor .u8 (a : Int) (b : Int) = ((a ^^^ b : Nat) : Int) ∧ a ^^^ b < 256 := by
  have ha' : a % 2 ^ IntKind.u8.bits = a := Nat.mod_eq_of_lt ha
  have hb' : b % 2 ^ IntKind.u8.bits = b := Nat.mod_eq_of_lt hb
  have hx : a ^^^ b < 256 := Nat.xor_lt_two_pow (n := 8) ha hb
  refine ⟨?_, hx⟩
  simp only [Go.bits, BitVec.ofInt_natCast, BitVec.toNat_xor, BitVec.toNat_ofNat, ha', hb', IntKind.wrap_u8]
  omega
theorem hidden_in (pad x : Int) (k : Nat) : 0 ≤ hidden pad x k ∧ hidden pad x k ≤ 255 := by
  unfold hidden bits
  simp only [IntKind.wrap_u8]
  omega
theorem hidden_twice (pad x : Int) (k : Nat) (h0 : 0 ≤ x) (h1 : x ≤ 255) : hidden pad (hidden pad x k) k = x := by
  unfold hidden
  rw [wrap_u8]
  obtain ⟨a, rfl⟩ := Int.eq_ofNat_of_zero_le h0
  obtain ⟨b, hb⟩ := Int.eq_ofNat_of_zero_le (show 0 ≤ mixZ pad (200000 + (k : Int)) % 256 by omega)
  rw [hb]
  have hb1 : b < 256 := by omega
  obtain ⟨e1, l1⟩ := xor_u8 a b (by omega) hb1
  rw [e1, (xor_u8 (a ^^^ b) b l1 hb1).1, Nat.xor_assoc, Nat.xor_self, Nat.xor_zero]
theorem hideZ_at (key seq : Int) (body : List Int) (j : Nat) (h : j < body.length) : (hideZ key seq body).getD j 0 = hidden (mixZ key (500 + seq)) (body.getD j 0) j := by simp [hideZ, h]
theorem hideZ_bytes (key seq : Int) (body : List Int) : isBytes (hideZ key seq body) = true := by
  refine List.all_eq_true.2 fun x hx => decide_eq_true ?_
  unfold hideZ at hx
  obtain ⟨k, _, rfl⟩ := List.mem_map.1 hx
  exact hidden_in _ _ _
theorem hideZ_twice (key seq : Int) (body : List Int) (h : isBytes body = true) : hideZ key seq (hideZ key seq body) = body := by
  apply List.ext_getElem
  · rw [hideZ_length, hideZ_length]
  · intro i h1 h2
    have e := hideZ_at key seq (hideZ key seq body) i (by rw [hideZ_length]; exact h2)
    rw [hideZ_at key seq body i h2] at e
    have hx := isBytes_at h i
    rw [hidden_twice _ _ _ hx.1 hx.2] at e
    rw [List.getD_eq_getElem?_getD, List.getElem?_eq_getElem h1, List.getD_eq_getElem?_getD, List.getElem?_eq_getElem h2] at e
    exact e
theorem stream_eq (key seq : Int) (k0 : 0 ≤ key) (k1 : key ≤ 4294967295) (s0 : 0 ≤ seq) (s1 : seq ≤ 65535) (j : Nat) (hj : j ≤ 100) : spec_l3Stream.f key seq (j : Int) = some (mixZ (mixZ key (500 + seq)) (200000 + (j : Int)) % 256) := by
  have hp := mixZ_in key (500 + seq)
  have hz := mixZ_in (mixZ key (500 + seq)) (200000 + (j : Int))
  unfold spec_l3Stream.f
  rw [wrap_in (x := 500 + seq) (by omega) (by omega), l3_mix _ _ k0 k1 (by omega) (by omega), Option.bind_some, wrap_in (x := 200000 + (j : Int)) (by omega) (by omega), l3_mix _ _ hp.1 hp.2 (by omega) (by omega), Option.bind_some, Int.tmod_eq_emod_of_nonneg hz.1]
theorem hide_loop (key seq : Int) (k0 : 0 ≤ key) (k1 : key ≤ 4294967295) (s0 : 0 ≤ seq) (s1 : seq ≤ 65535) (body : List Int) (hl : body.length ≤ 64) : ∀ (d k j : Nat), j + d = body.length → d < k →
    spec_l3Hide.l0 k key seq body ((hideZ key seq body).take j) (j : Int) = some (hideZ key seq body) := by
  intro d
  induction d with
  | zero =>
    intro k j hj hk
    obtain ⟨k, rfl⟩ : ∃ m, k = m + 1 := ⟨k - 1, by omega⟩
    obtain rfl : j = body.length := by omega
    simp only [spec_l3Hide.l0]
    rw [if_neg (by omega), List.take_of_length_le (by rw [hideZ_length]; omega)]
  | succ d ih =>
    intro k j hj hk
    obtain ⟨k, rfl⟩ : ∃ m, k = m + 1 := ⟨k - 1, by omega⟩
    simp only [spec_l3Hide.l0]
    have hl2 := hideZ_length key seq body
    rw [if_pos (by omega), if_pos (by omega), stream_eq key seq k0 k1 s0 s1 j (by omega), Option.bind_some, if_pos (by rw [List.length_take]; omega), wrap_nat (by omega), ← ih k (j + 1) (by omega) (by omega), take_snoc (hideZ key seq body) j (by omega), hideZ_at key seq body j (by omega), rd_getD, Int.emod_emod_of_dvd _ (Int.dvd_refl 256)]
    congr 1
theorem hideSpec_eq (key seq : Int) (k0 : 0 ≤ key) (k1 : key ≤ 4294967295) (s0 : 0 ≤ seq) (s1 : seq ≤ 65535) (body : List Int) (hl : body.length ≤ 64) (k : Nat) (hk : 70 ≤ k) : spec_l3Hide.f k key seq body = some (hideZ key seq body) := by
  unfold spec_l3Hide.f
  have h := hide_loop key seq k0 k1 s0 s1 body hl body.length k 0 (by omega) (by omega)
  rw [List.take_zero] at h
  exact h
theorem putZ_length (n s : Int) : (putZ n s).length ≤ 4 := by
  unfold putZ
  split
  · rw [putL_length]; omega
  · simp
theorem tagZ_in (key seq : Int) (head coded : List Int) : 0 ≤ tagZ key seq head coded ∧ tagZ key seq head coded ≤ 4294967295 := by
  unfold tagZ
  split
  · rename_i h
    have hb := of_decide_eq_true h
    exact foldZ_in _ _ hb.1.1.1 hb.1.1.2
  · exact ⟨by decide, by decide⟩
theorem putZ4_length (n : Int) (h0 : 0 ≤ n) (h1 : n ≤ 4294967295) : (putZ n 4).length = 4 := by
  unfold putZ
  rw [if_pos ⟨by decide, h0, by show n < 4294967296; omega⟩, putL_length]
  rfl
def shutZ (key seq : Int) (head body : List Int) : List Int := if mayB key seq head.length body.length = true then hideZ key seq body ++ putZ (tagZ key seq head (hideZ key seq body)) 4 else []
theorem shutZ_length (key seq : Int) (head body : List Int) : (mayB key seq head.length body.length = true → (shutZ key seq head body).length = body.length + 4) ∧ (mayB key seq head.length body.length = false → shutZ key seq head body = []) := by
  unfold shutZ
  refine ⟨fun h => ?_, fun h => ?_⟩
  · rw [if_pos h, List.length_append, hideZ_length, putZ4_length _ (tagZ_in _ _ _ _).1 (tagZ_in _ _ _ _).2]
  · rw [h]; rfl
theorem shutZ_le (key seq : Int) (head body : List Int) : (shutZ key seq head body).length ≤ 68 := by
  unfold shutZ
  split
  · rename_i h
    have hb := of_decide_eq_true h
    have := putZ_length (tagZ key seq head (hideZ key seq body)) 4
    rw [List.length_append, hideZ_length]
    omega
  · simp
theorem implMay_eq (key seq : Int) (head coded : List Int) : impl_sealMay.f key seq head coded = some (mayB key seq head.length coded.length) := by
  unfold impl_sealMay.f mayB
  have e3 : ((head.length : Int) ≤ 64) ↔ head.length ≤ 64 := by omega
  have e4 : ((coded.length : Int) ≤ 64) ↔ coded.length ≤ 64 := by omega
  simp only [e3, e4]
  by_cases h1 : 0 ≤ key <;> by_cases h1' : key ≤ 4294967295 <;> by_cases h2 : 0 ≤ seq <;> by_cases h2' : seq ≤ 65535 <;> by_cases h3 : head.length ≤ 64 <;> by_cases h4 : coded.length ≤ 64 <;> simp [h1, h2, h1', h2', h3, h4]
theorem implShut_eq (key seq : Int) (head body : List Int) (hh : isBytes head = true) (hb : isBytes body = true) : impl_SealShut.f key seq head body = some (shutZ key seq head body) := by
  unfold impl_SealShut.f
  rw [implMay_eq, Option.bind_some]
  cases hm : mayB key seq head.length body.length
  · rw [if_neg (by decide), (shutZ_length key seq head body).2 hm]
  · have h := of_decide_eq_true hm
    have hok : okH key seq body 4 = true := by
      unfold okH
      rw [Bool.and_eq_true]
      exact ⟨hb, decide_eq_true ⟨h.1.1, h.1.2, by omega, by decide, by decide⟩⟩
    unfold impl_sealHide.f impl_SealTag.f impl_BytPut.f
    have hl := putZ_length (tagZ key seq head (hideZ key seq body)) 4
    rw [if_pos rfl, if_pos hok, Option.bind_some, if_pos hh, if_pos (hideZ_bytes _ _ _), Option.bind_some, Option.bind_some, if_pos (by rw [hideZ_length]; omega)]
    unfold shutZ
    rw [if_pos hm]
theorem specShut_eq (key seq : Int) (head body : List Int) (hh : isBytes head = true) (hb : isBytes body = true) (k : Nat) (hk : 200 ≤ k) : spec_SealShut.f k key seq head body = some (shutZ key seq head body) := by
  unfold spec_SealShut.f
  rw [may_eq, Option.bind_some]
  cases hm : mayB key seq head.length body.length
  · rw [if_neg (by decide), (shutZ_length key seq head body).2 hm]
  · have h := of_decide_eq_true hm
    have hl := putZ_length (tagZ key seq head (hideZ key seq body)) 4
    rw [if_pos rfl, hideSpec_eq key seq h.1.1.1 h.1.1.2 h.1.2.1 h.1.2.2 body h.2.2 k (by omega), Option.bind_some, specTag_eq key seq head _ hh (hideZ_bytes _ _ _) k hk, Option.bind_some, specPut_eq k (by omega), Option.bind_some, if_pos (by rw [hideZ_length]; omega)]
    unfold shutZ
    rw [if_pos hm]
theorem take_loop (l : List Int) (hb : isBytes l = true) (a s : Nat) (h : a + s ≤ l.length) (h4 : s ≤ 4) (hl : l.length ≤ 9000000000000000000) : ∀ (d k j : Nat), j + d = s → d < k →
    spec_BytTake.l0 k l (a : Int) (s : Int) (takeV (((l.take (a + s)).drop a).take j)) (j : Int) = some (takeV ((l.take (a + s)).drop a), true) := by
  have hLB : isBytes ((l.take (a + s)).drop a) = true := isBytes_drop (isBytes_take hb _) _
  have hLl : ((l.take (a + s)).drop a).length = s := by rw [List.length_drop, List.length_take]; omega
  intro d
  induction d with
  | zero =>
    intro k j hj hk
    obtain ⟨k, rfl⟩ : ∃ m, k = m + 1 := ⟨k - 1, by omega⟩
    obtain rfl : j = s := by omega
    simp only [spec_BytTake.l0]
    rw [if_neg (by omega), List.take_of_length_le (by omega)]
  | succ d ih =>
    intro k j hj hk
    obtain ⟨k, rfl⟩ : ∃ m, k = m + 1 := ⟨k - 1, by omega⟩
    have hv := takeV_in (((l.take (a + s)).drop a).take j) (isBytes_take hLB _)
    have hlk : (((l.take (a + s)).drop a).take j).length = j := by rw [List.length_take, hLl]; omega
    rw [hlk] at hv
    have hv2 : takeV (((l.take (a + s)).drop a).take j) ≤ 16777215 := by
      have : (256 : Int) ^ j ≤ 16777216 := by
        obtain rfl | rfl | rfl | rfl : j = 0 ∨ j = 1 ∨ j = 2 ∨ j = 3 := by omega
        all_goals decide
      omega
    have hx := isBytes_at hb (a + j)
    have hat : ((l.take (a + s)).drop a).getD j 0 = l.getD (a + j) 0 := by
      rw [List.getD_eq_getElem?_getD, List.getD_eq_getElem?_getD, List.getElem?_drop, List.getElem?_take, if_pos (by omega)]
    simp only [spec_BytTake.l0]
    rw [if_pos (by omega), wrap_in (x := (a : Int) + (j : Int)) (by omega) (by omega), show (a : Int) + (j : Int) = ((a + j : Nat) : Int) by omega, if_pos (by omega), if_pos (by omega), rd_getD, wrap_in (x := l.getD (a + j) 0) (by omega) (by omega), wrap_in (x := takeV (((l.take (a + s)).drop a).take j) * 256) (by omega) (by omega),
      wrap_in (x := takeV (((l.take (a + s)).drop a).take j) * 256 + l.getD (a + j) 0) (by omega) (by omega), wrap_nat (by omega), ← hat, ← takeV_snoc, ← take_snoc _ j (by omega)]
    exact ih k (j + 1) (by omega) (by omega)
theorem specTake_eq (l : List Int) (hb : isBytes l = true) (hl : l.length ≤ 9000000000000000000) (a s : Int) (ha : a ≤ 9223372036854775807) (k : Nat) (hk : 10 ≤ k) : spec_BytTake.f k l a s = some (takeR l a s) := by
  unfold spec_BytTake.f
  rw [l1In_eq, Option.bind_some]
  obtain ⟨k, rfl⟩ : ∃ m, k = m + 1 := ⟨k - 1, by omega⟩
  by_cases hs : 1 ≤ s ∧ s ≤ 4
  · rw [decide_eq_true hs, if_pos rfl]
    by_cases h0 : a < 0
    · rw [if_pos h0]
      simp only [spec_BytTake.j0]
      unfold takeR
      rw [if_pos trivial, if_neg (fun hh => by omega)]
    · rw [if_neg h0, wrap_in (x := (l.length : Int) - s) (by omega) (by omega)]
      simp only [spec_BytTake.j0]
      by_cases h1 : a > (l.length : Int) - s
      · unfold takeR
        rw [decide_eq_true h1, if_pos rfl, if_neg (fun hh => by omega)]
      · unfold takeR
        rw [decide_eq_false h1, if_neg (by decide), if_pos ⟨hs, by omega, by omega⟩]
        obtain ⟨m, rfl⟩ := Int.eq_ofNat_of_zero_le (show 0 ≤ a by omega)
        obtain ⟨t, rfl⟩ := Int.eq_ofNat_of_zero_le (show 0 ≤ s by omega)
        rw [Int.toNat_natCast, Int.toNat_natCast]
        exact take_loop l hb m t (by omega) (by omega) hl t k 0 (by omega) (by omega)
  · rw [decide_eq_false hs, if_neg (by decide)]
    simp only [spec_BytTake.j0]
    unfold takeR
    rw [if_pos trivial, if_neg (fun hh => hs hh.1)]
theorem foldl_put (n : Int) (j : Nat) (h1 : 1 ≤ j) (h4 : j ≤ 4) (h0 : 0 ≤ n) (hn : n < 256 ^ j) : takeV (putL n j) = n := by
  obtain rfl | rfl | rfl | rfl : j = 1 ∨ j = 2 ∨ j = 3 ∨ j = 4 := by omega
  · have h : n < 256 := hn
    simp only [putL_cons, takeV, List.foldl_cons, show putL n 0 = [] from rfl, List.foldl_nil]
    omega
  · have h : n < 65536 := hn
    simp only [putL_cons, takeV, List.foldl_cons, show putL n 0 = [] from rfl, List.foldl_nil]
    omega
  · have h : n < 16777216 := hn
    simp only [putL_cons, takeV, List.foldl_cons, show putL n 0 = [] from rfl, List.foldl_nil]
    omega
  · have h : n < 4294967296 := hn
    simp only [putL_cons, takeV, List.foldl_cons, show putL n 0 = [] from rfl, List.foldl_nil]
    omega
theorem putZ_good {n s : Int} (h : (1 ≤ s ∧ s ≤ 4) ∧ 0 ≤ n ∧ n < 256 ^ s.toNat) : putZ n s = putL n s.toNat := if_pos h
theorem putL_bytes (n : Int) (j : Nat) : isBytes (putL n j) = true := by
  refine List.all_eq_true.2 fun x hx => decide_eq_true ?_
  unfold putL at hx
  obtain ⟨k, _, rfl⟩ := List.mem_map.1 hx
  omega
theorem putZ_bytes (n s : Int) : isBytes (putZ n s) = true := by
  unfold putZ
  split
  · exact putL_bytes _ _
  · rfl
theorem isBytes_append {a b : List Int} (h1 : isBytes a = true) (h2 : isBytes b = true) : isBytes (a ++ b) = true := by
  unfold isBytes at *
  rw [List.all_append, h1, h2]
  rfl
theorem shutZ_bytes (key seq : Int) (head body : List Int) : isBytes (shutZ key seq head body) = true := by
  unfold shutZ
  split
  · exact isBytes_append (hideZ_bytes _ _ _) (putZ_bytes _ _)
  · rfl
def openZ (key seq : Int) (head shut : List Int) : List Int × Bool :=
  if 4 ≤ shut.length ∧ mayB key seq head.length (shut.length - 4) = true ∧ (takeR shut ((shut.length : Int) - 4) 4).1 = tagZ key seq head (shut.take (shut.length - 4)) then (hideZ key seq (shut.take (shut.length - 4)), true) else ([], false)
theorem implOpen_eq (key seq : Int) (head shut : List Int) (hh : isBytes head = true) (hb : isBytes shut = true) (hl : shut.length ≤ 9000000000000000000) : impl_SealOpen.f key seq head shut = some (openZ key seq head shut) := by
  unfold impl_SealOpen.f
  rw [wrap_in (x := (shut.length : Int) - 4) (by omega) (by omega)]
  by_cases h4 : 4 ≤ shut.length
  · have e : ((shut.length : Int) - 4).toNat = shut.length - 4 := by omega
    have hlt : (shut.take (shut.length - 4)).length = shut.length - 4 := by rw [List.length_take]; omega
    have hbt := isBytes_take hb (shut.length - 4)
    rw [if_neg (by omega), if_pos (by omega), if_pos (by omega), e, implMay_eq, hlt, Option.bind_some]
    cases hm : mayB key seq head.length (shut.length - 4)
    · rw [if_neg (by decide)]
      unfold openZ
      rw [if_neg (fun hh => by rw [hm] at hh; exact absurd hh.2.1 (by decide))]
    · have h := of_decide_eq_true hm
      unfold impl_BytTake.f impl_SealTag.f
      rw [if_pos rfl, if_pos hb, Option.bind_some, if_pos hh, if_pos hbt, Option.bind_some]
      by_cases ht : (takeR shut ((shut.length : Int) - 4) 4).1 = tagZ key seq head (shut.take (shut.length - 4))
      · have hok : okH key seq (shut.take (shut.length - 4)) 0 = true := by
          unfold okH
          rw [Bool.and_eq_true]
          exact ⟨hbt, decide_eq_true ⟨h.1.1, h.1.2, by omega, by decide, by decide⟩⟩
        unfold impl_sealHide.f
        rw [if_pos ht, if_pos hok, Option.bind_some]
        unfold openZ
        rw [if_pos ⟨h4, hm, ht⟩]
      · rw [if_neg ht]
        unfold openZ
        rw [if_neg (fun hh => ht hh.2.2)]
  · rw [if_pos (by omega)]
    unfold openZ
    rw [if_neg (fun hh => h4 hh.1)]
theorem l2Copy_eq (l : List Int) (h : l.length ≤ 100000000) : spec_l2Copy.f l = some l := by
  unfold spec_l2Copy.f
  rw [Option.bind_some, if_pos (by simp; omega)]
  rfl
theorem specOpen_eq (key seq : Int) (head shut : List Int) (hh : isBytes head = true) (hb : isBytes shut = true) (hl : shut.length ≤ 10000000) (k : Nat) (hk : 200 ≤ k) : spec_SealOpen.f k key seq head shut = some (openZ key seq head shut) := by
  unfold spec_SealOpen.f
  by_cases h4 : 4 ≤ shut.length
  · have e : ((shut.length : Int) - 4).toNat = shut.length - 4 := by omega
    have hlt : (shut.take (shut.length - 4)).length = shut.length - 4 := by rw [List.length_take]; omega
    have hbt := isBytes_take hb (shut.length - 4)
    rw [if_neg (by omega), wrap_in (x := (shut.length : Int) - 4) (by omega) (by omega), if_pos (by omega), if_pos (by omega), e, l2Copy_eq _ (by omega), Option.bind_some, may_eq, hlt, Option.bind_some]
    cases hm : mayB key seq head.length (shut.length - 4)
    · rw [if_neg (by decide)]
      unfold openZ
      rw [if_neg (fun hh => by rw [hm] at hh; exact absurd hh.2.1 (by decide))]
    · have h := of_decide_eq_true hm
      rw [if_pos rfl, specTake_eq shut hb (by omega) _ 4 (by omega) k (by omega), Option.bind_some, specTag_eq key seq head _ hh hbt k hk, Option.bind_some]
      by_cases ht : (takeR shut ((shut.length : Int) - 4) 4).1 = tagZ key seq head (shut.take (shut.length - 4))
      · rw [if_pos ht, hideSpec_eq key seq h.1.1.1 h.1.1.2 h.1.2.1 h.1.2.2 _ (by omega) k (by omega), Option.bind_some]
        unfold openZ
        rw [if_pos ⟨h4, hm, ht⟩]
      · rw [if_neg ht]
        unfold openZ
        rw [if_neg (fun hh => ht hh.2.2)]
  · rw [if_pos (by omega)]
    unfold openZ
    rw [if_neg (fun hh => h4 hh.1)]
theorem openZ_le (key seq : Int) (head shut : List Int) : (openZ key seq head shut).1.length ≤ 64 := by
  unfold openZ
  split
  · rename_i h
    have hb := of_decide_eq_true h.2.1
    rw [hideZ_length, List.length_take]
    omega
  · simp
theorem shut_parts (key seq : Int) (head body : List Int) (hm : mayB key seq head.length body.length = true) :
    (shutZ key seq head body).length = body.length + 4 ∧ (shutZ key seq head body).take body.length = hideZ key seq body ∧ (takeR (shutZ key seq head body) (body.length : Int) 4).1 = tagZ key seq head (hideZ key seq body) := by
  have hs := (shutZ_length key seq head body).1 hm
  have ht : (shutZ key seq head body).take body.length = hideZ key seq body := by
    unfold shutZ
    rw [if_pos hm, List.take_append_of_le_length (by rw [hideZ_length]; omega), List.take_of_length_le (by rw [hideZ_length]; omega)]
  refine ⟨hs, ht, ?_⟩
  have hg := tagZ_in key seq head (hideZ key seq body)
  have hg2 : (1 ≤ (4 : Int) ∧ (4 : Int) ≤ 4) ∧ 0 ≤ tagZ key seq head (hideZ key seq body) ∧ tagZ key seq head (hideZ key seq body) < 256 ^ (4 : Int).toNat := ⟨by decide, hg.1, by show _ < (4294967296 : Int); omega⟩
  unfold takeR
  rw [if_pos ⟨by decide, by omega, by rw [hs]; omega⟩, Int.toNat_natCast]
  show takeV (((shutZ key seq head body).take (body.length + 4)).drop body.length) = _
  rw [List.take_of_length_le (by omega)]
  unfold shutZ
  rw [if_pos hm, List.drop_append_of_le_length (by rw [hideZ_length]; omega), List.drop_of_length_le (by rw [hideZ_length]; omega), List.nil_append, putZ_good hg2]
  exact foldl_put _ 4 (by decide) (by decide) hg.1 hg2.2.2
theorem open_shut (key seq : Int) (head body : List Int) (hm : mayB key seq head.length body.length = true) (hb : isBytes body = true) : openZ key seq head (shutZ key seq head body) = (body, true) := by
  obtain ⟨h1, h2, h3⟩ := shut_parts key seq head body hm
  unfold openZ
  rw [h1, show body.length + 4 - 4 = body.length by omega, show ((body.length + 4 : Nat) : Int) - 4 = (body.length : Int) by omega, h2, if_pos ⟨by omega, hm, h3⟩, hideZ_twice key seq body hb]
def Bytes (l : List Int) : Prop := (∀ x ∈ l, (Lit.int .u8 x).wf = true) ∧ l.length ≤ 2000
theorem pick_ok {l : List Int} (hl : Bytes l) {p : Int} (hp0 : 0 ≤ p) (hp1 : p ≤ 1000000) {n : Int} (hn0 : 1 ≤ n) (k : Nat) (hk : 1 ≤ k) :
    ∃ r, spec_l30Rd_pick.f k l p n = some (r, p + 1) ∧ 0 ≤ r ∧ r < n := by
  obtain ⟨k, rfl⟩ : ∃ m, k = m + 1 := ⟨k - 1, by omega⟩
  obtain ⟨hb, hlen⟩ := hl
  unfold spec_l30Rd_pick.f
  rw [if_neg (by omega), wrap_in (by omega) (by omega)]
  simp only [spec_l30Rd_pick.j0]
  by_cases h0 : l.length = 0
  · rw [if_pos (by simp [h0])]
    exact ⟨0, rfl, by omega, by omega⟩
  · rw [if_neg (by simpa using h0), show wrap64 (p + 1 - 1) = p by rw [wrap_in (by omega) (by omega)]; omega]
    by_cases h1 : p < (l.length : Int)
    · rw [if_pos h1, if_pos hp0, if_neg (by omega), wrap_in (by have := rd_u8 hb p; omega) (by have := rd_u8 hb p; omega)]
      have := rd_u8 hb p
      exact ⟨_, rfl, Int.tmod_nonneg _ (by omega), Int.tmod_lt_of_pos _ (by omega)⟩
    · rw [if_neg h1, if_neg (by omega)]
      have hpos : (0 : Int) < (l.length : Int) := by omega
      have m1 : 0 ≤ Int.tmod p (l.length : Int) ∧ Int.tmod p (l.length : Int) < (l.length : Int) := ⟨Int.tmod_nonneg _ hp0, Int.tmod_lt_of_pos _ hpos⟩
      have e7 : wrap64 (p * 7) = p * 7 := wrap_in (by omega) (by omega)
      have e73 : wrap64 (p * 7 + 3) = p * 7 + 3 := wrap_in (by omega) (by omega)
      have m2 : 0 ≤ Int.tmod (p * 7 + 3) (l.length : Int) ∧ Int.tmod (p * 7 + 3) (l.length : Int) < (l.length : Int) := ⟨Int.tmod_nonneg _ (by omega), Int.tmod_lt_of_pos _ hpos⟩
      rw [e7, e73, if_pos m1.1, if_pos m1.2, if_pos m2.1, if_pos m2.2, if_neg (by omega)]
      have b1 := rd_u8 hb (Int.tmod p (l.length : Int))
      have b2 := rd_u8 hb (Int.tmod (p * 7 + 3) (l.length : Int))
      have d0 : 0 ≤ Int.tdiv p (l.length : Int) ∧ Int.tdiv p (l.length : Int) ≤ p := ⟨Int.tdiv_nonneg hp0 (by omega), Int.tdiv_le_self _ hp0⟩
      generalize rd l (Int.tmod p (l.length : Int)) = a at *
      generalize rd l (Int.tmod (p * 7 + 3) (l.length : Int)) = b at *
      generalize Int.tdiv p (l.length : Int) = d at *
      have s1 : wrap64 (wrap64 a * 131) = a * 131 := by rw [wrap_in (x := a) (by omega) (by omega)]; exact wrap_in (by omega) (by omega)
      have s2 : wrap64 (wrap64 b * 1117) = b * 1117 := by rw [wrap_in (x := b) (by omega) (by omega)]; exact wrap_in (by omega) (by omega)
      have s3 : wrap64 (p * 29) = p * 29 := wrap_in (by omega) (by omega)
      have s4 : wrap64 (wrap64 d * 53) = d * 53 := by rw [wrap_in (x := d) (by omega) (by omega)]; exact wrap_in (by omega) (by omega)
      rw [s1, s2, s3, s4, wrap_in (x := a * 131 + b * 1117) (by omega) (by omega), wrap_in (x := a * 131 + b * 1117 + p * 29) (by omega) (by omega), wrap_in (x := a * 131 + b * 1117 + p * 29 + d * 53) (by omega) (by omega)]
      have hx0 : 0 ≤ a * 131 + b * 1117 + p * 29 + d * 53 := by omega
      have hx1 : a * 131 + b * 1117 + p * 29 + d * 53 < 1000000000 := by omega
      generalize a * 131 + b * 1117 + p * 29 + d * 53 = x at *
      have q0 : 0 ≤ Int.tdiv x 64 ∧ Int.tdiv x 64 ≤ x := ⟨Int.tdiv_nonneg hx0 (by omega), Int.tdiv_le_self _ hx0⟩
      rw [wrap_in (x := Int.tdiv x 64) (by omega) (by omega)]
      have := xor_nonneg x (Int.tdiv x 64) hx0 (by omega) q0.1 (by omega)
      exact ⟨_, rfl, Int.tmod_nonneg _ this.1, Int.tmod_lt_of_pos _ (by omega)⟩
theorem open_ok (l : List Int) (hl : ∀ x ∈ l, (Lit.int .u8 x).wf = true) : ∃ m, spec_l30Open.f l = some (m, 0) ∧ Bytes m := by
  unfold spec_l30Open.f
  by_cases h : (l.length : Int) > 2000
  · rw [if_pos h, if_pos (by omega)]
    exact ⟨_, rfl, fun x hx => hl x (List.mem_of_mem_take hx), by rw [List.length_take]; omega⟩
  · rw [if_neg h]
    exact ⟨_, rfl, hl, by omega⟩
def U8 (l : List Int) : Prop := ∀ x ∈ l, (Lit.int .u8 x).wf = true
theorem u8_mod (x : Int) : (Lit.int .u8 (x % 256)).wf = true := by
  simp only [Lit.wf, IntKind.min, IntKind.max, Bool.and_eq_true, decide_eq_true_eq]
  first
    | omega
    | (constructor <;> (simp [IntKind.signed, IntKind.bits]; omega))
theorem U8.snoc {l : List Int} (h : U8 l) (x : Int) : U8 (l ++ [x % 256]) := by
  intro y hy
  rcases List.mem_append.mp hy with hy | hy
  · exact h y hy
  · rw [List.mem_singleton.mp hy]
    exact u8_mod x
theorem U8.nil : U8 [] := fun x hx => absurd hx (by simp)
theorem bytes_loop {s : List Int} (hs : Bytes s) : ∀ (d k : Nat) (y : List Int) (p : Int), U8 y → y.length + d ≤ 100 → 0 ≤ p → p + d ≤ 1000000 → d + 1 < k →
    ∃ r, spec_l30Bytes.l0 k (d : Int) y s p = some (r, p + d) ∧ U8 r ∧ r.length = y.length + d := by
  intro d
  induction d with
  | zero =>
    intro k y p hy hl hp0 hp1 hk
    obtain ⟨k, rfl⟩ : ∃ m, k = m + 1 := ⟨k - 1, by omega⟩
    simp only [spec_l30Bytes.l0]
    rw [if_neg (by omega)]
    exact ⟨_, by simp, hy, by omega⟩
  | succ d ih =>
    intro k y p hy hl hp0 hp1 hk
    obtain ⟨k, rfl⟩ : ∃ m, k = m + 1 := ⟨k - 1, by omega⟩
    simp only [spec_l30Bytes.l0]
    obtain ⟨a, ea, ha⟩ := pick_ok hs hp0 (by omega) (n := 256) (by omega) k (by omega)
    rw [if_pos (by omega), ea]
    simp only [Option.bind_some]
    rw [if_pos (by omega), show wrap64 (((d + 1 : Nat) : Int) - 1) = (d : Int) by rw [wrap_in (by omega) (by omega)]; omega]
    obtain ⟨r, e, hr, hrl⟩ := ih k _ (p + 1) (hy.snoc a) (by rw [List.length_append, List.length_singleton]; omega) (by omega) (by omega) (by omega)
    rw [List.length_append, List.length_singleton] at hrl
    exact ⟨r, by rw [e]; congr 2; omega, hr, by omega⟩
theorem bind_at {α β : Type} {x : Option α} {a : α} {f : α → Option β} (h : x = some a) : x.bind f = f a := by rw [h]; rfl
theorem key_ok {s : List Int} (hs : Bytes s) {p : Int} (hp0 : 0 ≤ p) (hp1 : p ≤ 900000) (k : Nat) (hk : 1 ≤ k) : ∃ r, spec_l30Key.f k s p = some (r, p + 3) := by
  unfold spec_l30Key.f
  obtain ⟨a, ea, ha⟩ := pick_ok hs hp0 (by omega) (n := 256) (by omega) k hk
  obtain ⟨b, eb, hb⟩ := pick_ok hs (p := p + 1) (by omega) (by omega) (n := 256) (by omega) k hk
  obtain ⟨c, ec, hc⟩ := pick_ok hs (p := p + 1 + 1) (by omega) (by omega) (n := 40) (by omega) k hk
  rw [ea, Option.bind_some]
  simp only []
  rw [eb, Option.bind_some, Option.bind_some]
  simp only []
  rw [ec, Option.bind_some]
  simp only []
  have h0 : 0 ≤ Int.tmod c 6 := Int.tmod_nonneg _ hc.1
  have h1 : Int.tmod c 6 < 6 := Int.tmod_lt_of_pos _ (by decide)
  rw [if_pos h0, if_pos (by simpa using h1)]
  exact ⟨_, by rw [show p + 1 + 1 + 1 = p + 3 by omega]⟩
theorem seq_ok {s : List Int} (hs : Bytes s) {p : Int} (hp0 : 0 ≤ p) (hp1 : p ≤ 900000) (k : Nat) (hk : 1 ≤ k) : ∃ r, spec_l30Seq.f k s p = some (r, p + 2) := by
  unfold spec_l30Seq.f
  obtain ⟨a, ea, ha⟩ := pick_ok hs hp0 (by omega) (n := 256) (by omega) k hk
  obtain ⟨b, eb, hb⟩ := pick_ok hs (p := p + 1) (by omega) (by omega) (n := 8) (by omega) k hk
  rw [ea, Option.bind_some, Option.bind_some]
  simp only []
  rw [eb, Option.bind_some]
  simp only []
  rw [if_pos hb.1, if_pos (by simpa using hb.2)]
  exact ⟨_, by rw [show p + 1 + 1 = p + 2 by omega]⟩
theorem raw_ok {s : List Int} (hs : Bytes s) {p : Int} (hp0 : 0 ≤ p) (hp1 : p ≤ 900000) (k : Nat) (hk : 100 ≤ k) : ∃ r q, spec_l30Raw.f k s p = some (r, q) ∧ U8 r ∧ r.length ≤ 65 ∧ p ≤ q ∧ q ≤ p + 66 := by
  unfold spec_l30Raw.f
  obtain ⟨a, ea, ha⟩ := pick_ok hs hp0 (by omega) (n := 7) (by omega) k (by omega)
  rw [Option.bind_some, ea, Option.bind_some]
  simp only []
  rw [if_pos ha.1, if_pos (by simpa using ha.2)]
  obtain ⟨n, en, hn⟩ : ∃ n : Nat, rd [0, 1, 5, 9, 11, 64, 65] a = (n : Int) ∧ n ≤ 65 := by
    obtain ⟨m, rfl⟩ := Int.eq_ofNat_of_zero_le ha.1
    have : m < 7 := by omega
    match m, this with
    | 0, _ => exact ⟨0, rfl, by omega⟩
    | 1, _ => exact ⟨1, rfl, by omega⟩
    | 2, _ => exact ⟨5, rfl, by omega⟩
    | 3, _ => exact ⟨9, rfl, by omega⟩
    | 4, _ => exact ⟨11, rfl, by omega⟩
    | 5, _ => exact ⟨64, rfl, by omega⟩
    | 6, _ => exact ⟨65, rfl, by omega⟩
  obtain ⟨r, e, hr, hrl⟩ := bytes_loop hs n k [] (p + 1) U8.nil (by simp; omega) (by omega) (by omega) (by omega)
  simp only [List.length_nil] at hrl
  unfold spec_l30Bytes.f
  rw [en, e, Option.bind_some]
  exact ⟨r, _, rfl, hr, by omega, by omega, by omega⟩
theorem isBytes_set {l : List Int} (h : isBytes l = true) (i : Nat) (x : Int) : isBytes (l.set i (x % 256)) = true := by
  refine List.all_eq_true.2 fun y hy => ?_
  rcases List.mem_or_eq_of_mem_set hy with hy | hy
  · exact List.all_eq_true.1 h y hy
  · rw [hy]
    exact decide_eq_true (by omega)
theorem isBytes_one (x : Int) : isBytes [x % 256] = true := by
  unfold isBytes
  simp only [List.all_cons, List.all_nil, Bool.and_true]
  exact decide_eq_true (by omega)
theorem drawOpen_ok (l : List Int) (hl : U8 l) (k : Nat) (hk : 200 ≤ k) : ∃ key seq head shut, spec_DrawSealOpen.f k l = some (key, seq, head, shut) ∧ isBytes head = true ∧ isBytes shut = true ∧ head.length ≤ 66 ∧ shut.length ≤ 100 := by
  obtain ⟨m, em, hm⟩ := open_ok l hl
  obtain ⟨a, ea⟩ := key_ok hm (p := 0) (by omega) (by omega) k (by omega)
  obtain ⟨b, eb⟩ := seq_ok hm (p := 0 + 3) (by omega) (by omega) k (by omega)
  obtain ⟨c, q, ec, hc, hcl, q0, q1⟩ := raw_ok hm (p := 0 + 3 + 2) (by omega) (by omega) k (by omega)
  obtain ⟨d, q', ed, hd, hdl, r0, r1⟩ := raw_ok hm (p := q) (by omega) (by omega) k (by omega)
  have b2 := isBytes_of hc
  have b3 := isBytes_of hd
  have hs := shutZ_le a b c d
  have hsb := shutZ_bytes a b c d
  obtain ⟨x, ex, hx⟩ := pick_ok hm (p := q') (by omega) (by omega) (n := 10) (by omega) k (by omega)
  unfold spec_DrawSealOpen.f
  rw [em, Option.bind_some]
  simp only []
  rw [ea, Option.bind_some]
  simp only []
  rw [eb, Option.bind_some]
  simp only []
  rw [ec, Option.bind_some]
  simp only []
  rw [ed, Option.bind_some]
  simp only []
  rw [specShut_eq a b c d b2 b3 k (by omega), Option.bind_some]
  rw [ex, Option.bind_some]
  simp only []
  generalize shutZ a b c d = v at *
  by_cases h0 : x = 0
  · rw [if_pos h0]
    exact ⟨_, _, _, _, rfl, b2, hsb, by omega, by omega⟩
  · rw [if_neg h0]
    by_cases h1 : x = 1
    · rw [if_pos h1]
      exact ⟨_, _, _, _, rfl, b2, hsb, by omega, by omega⟩
    · rw [if_neg h1]
      by_cases h2 : x = 2
      · rw [if_pos h2, if_pos (by omega)]
        exact ⟨_, _, _, _, rfl, isBytes_append b2 rfl, hsb, by rw [List.length_append]; simp; omega, by omega⟩
      · rw [if_neg h2]
        by_cases h3 : x = 3
        · rw [if_pos h3]
          by_cases hp : (v.length : Int) > 0
          · obtain ⟨y, ey, hy⟩ := pick_ok hm (p := q' + 1) (by omega) (by omega) (n := (v.length : Int)) (by omega) k (by omega)
            rw [if_pos hp, ey, Option.bind_some]
            simp only []
            rw [if_pos hy.1, if_pos hy.2]
            exact ⟨_, _, _, _, rfl, b2, isBytes_set hsb _ _, by omega, by rw [List.length_set]; omega⟩
          · rw [if_neg hp]
            exact ⟨_, _, _, _, rfl, b2, hsb, by omega, by omega⟩
        · rw [if_neg h3]
          by_cases h4 : x = 4
          · obtain ⟨y, ey, hy⟩ := pick_ok hm (p := q' + 1) (by omega) (by omega) (n := 256) (by omega) k (by omega)
            rw [if_pos h4, ey, Option.bind_some]
            simp only []
            rw [if_pos (by omega)]
            exact ⟨_, _, _, _, rfl, b2, isBytes_append hsb (isBytes_one _), by omega, by rw [List.length_append]; simp; omega⟩
          · rw [if_neg h4]
            by_cases h5 : x = 5
            · obtain ⟨y, ey, hy⟩ := pick_ok hm (p := q' + 1) (by omega) (by omega) (n := 20) (by omega) k (by omega)
              obtain ⟨n, rfl⟩ := Int.eq_ofNat_of_zero_le hy.1
              obtain ⟨z, ez, hz, hzl⟩ := bytes_loop hm n k [] (q' + 1 + 1) U8.nil (by simp; omega) (by omega) (by omega) (by omega)
              simp only [List.length_nil] at hzl
              rw [if_pos h5, ey, Option.bind_some]
              simp only []
              unfold spec_l30Bytes.f
              rw [ez, Option.bind_some]
              exact ⟨_, _, _, _, rfl, b2, isBytes_of hz, by omega, by show z.length ≤ 100; omega⟩
            · rw [if_neg h5]
              exact ⟨_, _, _, _, rfl, b2, hsb, by omega, by omega⟩
theorem put_take (l : List Int) (h : isBytes l = true) (hl : l.length = 4) : putL (takeV l) 4 = l := by
  match l, hl with
  | [a, b, c, d], _ =>
    have ha := of_decide_eq_true (List.all_eq_true.1 h a (by simp))
    have hb := of_decide_eq_true (List.all_eq_true.1 h b (by simp))
    have hc := of_decide_eq_true (List.all_eq_true.1 h c (by simp))
    have hd := of_decide_eq_true (List.all_eq_true.1 h d (by simp))
    have e : takeV [a, b, c, d] = ((a * 256 + b) * 256 + c) * 256 + d := by simp [takeV]
    rw [e]
    simp only [putL_cons, show ∀ n, putL n 0 = [] from fun _ => rfl, List.cons.injEq, and_true]
    refine ⟨?_, ?_, ?_, ?_⟩
    · show (((a * 256 + b) * 256 + c) * 256 + d) / 16777216 % 256 = a; omega
    · show (((a * 256 + b) * 256 + c) * 256 + d) / 65536 % 256 = b; omega
    · show (((a * 256 + b) * 256 + c) * 256 + d) / 256 % 256 = c; omega
    · show (((a * 256 + b) * 256 + c) * 256 + d) / 1 % 256 = d; omega
theorem shut_open (key seq : Int) (head shut : List Int) (hb : isBytes shut = true) (h4 : 4 ≤ shut.length) (hm : mayB key seq head.length (shut.length - 4) = true) (ht : (takeR shut ((shut.length : Int) - 4) 4).1 = tagZ key seq head (shut.take (shut.length - 4))) :
    shutZ key seq head (hideZ key seq (shut.take (shut.length - 4))) = shut := by
  have hbt := isBytes_take hb (shut.length - 4)
  have hlt : (shut.take (shut.length - 4)).length = shut.length - 4 := by rw [List.length_take]; omega
  have hmm : mayB key seq head.length (hideZ key seq (shut.take (shut.length - 4))).length = true := by rw [hideZ_length, hlt]; exact hm
  unfold shutZ
  rw [if_pos hmm, hideZ_twice key seq _ hbt]
  have hg := tagZ_in key seq head (shut.take (shut.length - 4))
  rw [putZ_good ⟨by decide, hg.1, by show _ < (4294967296 : Int); omega⟩, ← ht]
  have e : (takeR shut ((shut.length : Int) - 4) 4).1 = takeV (shut.drop (shut.length - 4)) := by
    unfold takeR
    rw [if_pos ⟨by decide, by omega, by omega⟩, show ((shut.length : Int) - 4).toNat = shut.length - 4 by omega]
    show takeV ((shut.take (shut.length - 4 + 4)).drop (shut.length - 4)) = _
    rw [List.take_of_length_le (by omega)]
  rw [e]
  show _ ++ putL (takeV (shut.drop (shut.length - 4))) 4 = _
  rw [put_take _ (isBytes_drop hb _) (by rw [List.length_drop]; omega), List.take_append_drop]
theorem ca_self (l : List Int) : laws_caBytes.f l l = some true := by
  unfold laws_caBytes.f
  simp
theorem j1_no (key seq : Int) (head shut got : List Int) (n : Int) (k : Nat) : laws_FnSealTag.j1 (k + 1) key seq head shut got false n false = some true := by
  simp only [laws_FnSealTag.j1, Bool.false_eq_true, if_false]
  unfold impl_BytPut.f
  rw [Option.bind_some, show putZ 7 1 = [7] by decide +kernel, ca_self]
  rfl
theorem j0_eq (key seq : Int) (head shut got : List Int) (ok : Bool) (hl : shut.length ≤ 100) (k : Nat) : laws_FnSealTag.j0 (k + 1) key seq head shut got ok false = laws_FnSealTag.j1 k key seq head shut got ok ((shut.length : Int) - 4) (decide (4 ≤ shut.length) && mayB key seq head.length (shut.length - 4)) := by
  have e3 : ((head.length : Int) ≤ 64) ↔ head.length ≤ 64 := by omega
  simp only [laws_FnSealTag.j0, Bool.false_eq_true, if_false]
  rw [wrap_in (x := (shut.length : Int) - 4) (by omega) (by omega)]
  unfold mayB
  by_cases h1 : 0 ≤ key
  · by_cases h1' : key ≤ 4294967295
    · by_cases h2 : 0 ≤ seq
      · by_cases h2' : seq ≤ 65535
        · by_cases h3 : head.length ≤ 64
          · by_cases h4 : 4 ≤ shut.length
            · rw [if_pos h1, if_pos h1', if_pos h2, if_pos h2', if_pos (by omega), if_pos (by omega)]
              congr 1
              rw [decide_eq_true h4, Bool.true_and, decide_eq_decide]
              omega
            · rw [if_pos h1, if_pos h1', if_pos h2, if_pos h2', if_pos (by omega), if_neg (by omega), decide_eq_false h4]
              rfl
          · rw [if_pos h1, if_pos h1', if_pos h2, if_pos h2', if_neg (by omega), decide_eq_false (p := (((0 ≤ key ∧ key ≤ 4294967295) ∧ (0 ≤ seq ∧ seq ≤ 65535)) ∧ head.length ≤ 64 ∧ shut.length - 4 ≤ 64)) (by omega), Bool.and_false]
        · rw [if_pos h1, if_pos h1', if_pos h2, if_neg h2', decide_eq_false (p := (((0 ≤ key ∧ key ≤ 4294967295) ∧ (0 ≤ seq ∧ seq ≤ 65535)) ∧ head.length ≤ 64 ∧ shut.length - 4 ≤ 64)) (by omega), Bool.and_false]
      · rw [if_pos h1, if_pos h1', if_neg h2, decide_eq_false (p := (((0 ≤ key ∧ key ≤ 4294967295) ∧ (0 ≤ seq ∧ seq ≤ 65535)) ∧ head.length ≤ 64 ∧ shut.length - 4 ≤ 64)) (by omega), Bool.and_false]
    · rw [if_pos h1, if_neg h1', decide_eq_false (p := (((0 ≤ key ∧ key ≤ 4294967295) ∧ (0 ≤ seq ∧ seq ≤ 65535)) ∧ head.length ≤ 64 ∧ shut.length - 4 ≤ 64)) (by omega), Bool.and_false]
  · rw [if_neg h1, decide_eq_false (p := (((0 ≤ key ∧ key ≤ 4294967295) ∧ (0 ≤ seq ∧ seq ≤ 65535)) ∧ head.length ≤ 64 ∧ shut.length - 4 ≤ 64)) (by omega), Bool.and_false]
end FnSealTag_
open FnSealTag_
open Go.Proofs.YtghmfcfgmcngpaaDoorSeal Go.Proofs.YtghmfcfgmcngpaaDoorSealTag Go.Proofs.YtghmfcfgmcngpaaDoorSealHide Go.Proofs.YtghmfcfgmcngpaaDoorBytLay Go.Proofs.YtghmfcfgmcngpaaDoorBytPut Go.Proofs.YtghmfcfgmcngpaaDoorBytRead Go.Proofs.YtghmfcfgmcngpaaDoorBytTake
theorem FnSealTag : laws_FnSealTag.Pure := by
  intro l _ hl
  refine ⟨300, ?_⟩
  unfold laws_FnSealTag.f
  by_cases hbig : (l.length : Int) > 1048576
  · rw [if_pos hbig]
  · obtain ⟨key, seq, head, shut, e, b2, b3, hhl, hsl⟩ := drawOpen_ok l hl 300 (by omega)
    rw [if_neg hbig, e, Option.bind_some]
    simp only []
    rw [implOpen_eq key seq head shut b2 b3 (by omega), Option.bind_some, specOpen_eq key seq head shut b2 b3 (by omega) 300 (by omega), Option.bind_some]
    simp only [bne_self_eq_false, Bool.false_eq_true, if_false]
    rw [ca_self, Option.bind_some, Bool.not_true, j0_eq key seq head shut _ _ hsl 299]
    by_cases h4 : 4 ≤ shut.length
    · rw [decide_eq_true h4, Bool.true_and]
      cases hm : mayB key seq head.length (shut.length - 4)
      · have eo : openZ key seq head shut = ([], false) := by
          unfold openZ
          rw [if_neg (fun hh => by rw [hm] at hh; exact absurd hh.2.1 (by decide))]
        rw [eo]
        exact j1_no _ _ _ _ _ _ _
      · have hbt := isBytes_take b3 (shut.length - 4)
        simp only [laws_FnSealTag.j1, if_true]
        unfold impl_BytTake.f impl_SealTag.f
        rw [if_pos b3, Option.bind_some, if_pos (by omega), if_pos (by omega), show ((shut.length : Int) - 4).toNat = shut.length - 4 by omega, if_pos b2, if_pos hbt, Option.bind_some]
        by_cases ht : (takeR shut ((shut.length : Int) - 4) 4).1 = tagZ key seq head (shut.take (shut.length - 4))
        · have eo : openZ key seq head shut = (hideZ key seq (shut.take (shut.length - 4)), true) := by
            unfold openZ
            rw [if_pos ⟨h4, hm, ht⟩]
          rw [eo, ht]
          simp only [beq_self_eq_true, if_true]
          rw [implShut_eq key seq head _ b2 (hideZ_bytes _ _ _), Option.bind_some, shut_open key seq head shut b3 h4 hm ht, ca_self]
          rfl
        · have eo : openZ key seq head shut = ([], false) := by
            unfold openZ
            rw [if_neg (fun hh => ht hh.2.2)]
          rw [eo, beq_eq_false_iff_ne.2 ht]
          simp
    · have eo : openZ key seq head shut = ([], false) := by
        unfold openZ
        rw [if_neg (fun hh => h4 hh.1)]
      rw [eo, decide_eq_false h4, Bool.false_and]
      exact j1_no _ _ _ _ _ _ _

end Go.Proofs.YtghmfcfgmcngpaaDoor.Pure
