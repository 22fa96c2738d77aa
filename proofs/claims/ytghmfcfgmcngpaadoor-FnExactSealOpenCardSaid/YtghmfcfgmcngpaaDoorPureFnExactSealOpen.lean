/- The pure statement of FnExactSealOpen: the program's SealOpen and the reference's tell the same, in memory of its own, and the arguments stay. Conditions: whole numbers of 64 bits, bytes. -/
import Derived.Test.YtghmfcfgmcngpaaDoorPFnExactSealOpenx3
import Derived.Test.YtghmfcfgmcngpaaDoorPl
import Derived.Test.YtghmfcfgmcngpaaDoorBytPut
import Derived.Test.YtghmfcfgmcngpaaDoorSealHide
import Derived.Test.YtghmfcfgmcngpaaDoorBytTake
set_option linter.unusedSimpArgs false
set_option linter.unusedVariables false
namespace Go.Proofs.YtghmfcfgmcngpaaDoor.Pure
open Go.RowKit Go.Proofs.YtghmfcfgmcngpaaDoor.PFnExactSealOpen Go.Proofs.YtghmfcfgmcngpaaDoorW.PrintWords Go.Proofs.YtghmfcfgmcngpaaDoorW.PrintLast Go.Proofs.YtghmfcfgmcngpaaDoorW.PrintMore Go.Proofs.YtghmfcfgmcngpaaDoorPl

namespace FnExactSealOpen_
open Go.Proofs.YtghmfcfgmcngpaaDoorSeal Go.Proofs.YtghmfcfgmcngpaaDoorSealTag Go.Proofs.YtghmfcfgmcngpaaDoorSealHide Go.Proofs.YtghmfcfgmcngpaaDoorBytLay Go.Proofs.YtghmfcfgmcngpaaDoorBytPut Go.Proofs.YtghmfcfgmcngpaaDoorBytRead Go.Proofs.YtghmfcfgmcngpaaDoorBytTake
theorem l1In_eq (a b c : Int) : spec_l1In.f a b c = some (decide (b ≤ a ∧ a ≤ c)) := by
  unfold spec_l1In.f
  by_cases h1 : b ≤ a
  · rw [if_pos h1]
    simp [h1]
  · rw [if_neg h1]
    simp [h1]
theorem toByteS_eq (l : List Int) (hl : l.length ≤ 1048576) (k : Nat) (hk : l.length < k) : laws_toByteS.f k l = some l := by
  unfold laws_toByteS.f
  rw [if_pos (by omega), if_pos (by omega)]
  have h := map_loop (fun k y i => laws_toByteS.l0 k l y i) l id (fun k y i hi hy => by
    simp only [laws_toByteS.l0]
    rw [if_pos (by omega), if_pos (by omega), if_pos (by omega), wrap_nat (by omega), rd_nat l i hi]
    rfl) (fun k y hy => by
    simp only [laws_toByteS.l0]
    rw [if_neg (by omega)]) k (List.replicate ((l.length : Int) : Int).toNat 0) (by simp) hk
  simpa using h
theorem eqByteS_self (l : List Int) (hl : l.length ≤ 1048576) (k : Nat) (hk : l.length < k) : laws_eqByteS.f k l l = some true := by
  unfold laws_eqByteS.f
  rw [if_pos rfl]
  exact all_loop_true (fun k i => laws_eqByteS.l0 k l l i) l.length (fun k i hi => by
    simp only [laws_eqByteS.l0]
    rw [if_pos (by omega), if_pos (by omega), if_pos (by omega), if_pos trivial, wrap_nat (by omega)]) (fun k => by
    simp only [laws_eqByteS.l0]
    rw [if_neg (by omega)]) k hk
/-- 'so many numbers, one behind the other'. -/
def from_ (a : Int) (n : Nat) : List Int := (List.range n).map fun (i : Nat) => (a + (i : Int)) % 256
theorem markByte_loop (l : List Int) (a : Int) (ha : 0 ≤ a) (hl : l.length ≤ 1048576) (ha1 : a ≤ 100000000) : ∀ (d k i : Nat) (y : List Int), i + d = l.length → y.length = l.length → d < k →
    laws_markByteS.l0 k y (a + (i : Int)) (i : Int) = some (a + (l.length : Int), y.take i ++ from_ (a + (i : Int)) d) := by
  intro d
  induction d with
  | zero =>
    intro k i y hi hy hk
    obtain ⟨k, rfl⟩ : ∃ m, k = m + 1 := ⟨k - 1, by omega⟩
    simp only [laws_markByteS.l0]
    rw [if_neg (by omega), List.take_of_length_le (by omega)]
    obtain rfl : i = l.length := by omega
    simp [from_]
  | succ d ih =>
    intro k i y hi hy hk
    obtain ⟨k, rfl⟩ : ∃ m, k = m + 1 := ⟨k - 1, by omega⟩
    simp only [laws_markByteS.l0]
    rw [if_pos (by omega), if_pos (by omega), wrap_nat (by omega), wrap_in (by omega) (by omega), show a + (i : Int) + 1 = a + ((i + 1 : Nat) : Int) by omega, ih k (i + 1) _ (by omega) (by rw [List.length_set]; exact hy) (by omega)]
    congr 2
    rw [List.take_succ_eq_append_getElem (by rw [List.length_set]; omega), List.append_assoc]
    have e1 : ((i : Int).toNat) = i := by omega
    simp only [e1]
    rw [List.getElem_set_self, List.take_set_of_le (Nat.le_refl i)]
    congr 1
    unfold from_
    rw [List.range_succ_eq_map, List.map_cons, List.map_map, List.singleton_append]
    congr 1
    · omega
    · apply List.map_congr_left
      intro j _
      simp only [Function.comp]
      omega
theorem markByte_eq (l : List Int) (a : Int) (ha : 0 ≤ a) (hl : l.length ≤ 1048576) (ha1 : a ≤ 100000000) (k : Nat) (hk : l.length < k) : laws_markByteS.f k l a = some (a + (l.length : Int), from_ a l.length) := by
  have h := markByte_loop l a ha hl ha1 l.length k 0 l (by omega) rfl hk
  unfold laws_markByteS.f
  simp only [List.take_zero, List.nil_append, Int.add_zero, Int.natCast_zero] at h
  exact h
theorem from_length (a : Int) (n : Nat) : (from_ a n).length = n := by simp [from_]
theorem heldByte_loop (n : Nat) (a : Int) (ha : 0 ≤ a) (hl : n ≤ 1048576) (ha1 : a ≤ 100000000) : ∀ (d k i : Nat), i + d = n → d < k →
    laws_heldByteS.l0 k (from_ a n) (a + (i : Int)) (i : Int) = some (a + (n : Int)) := by
  intro d
  induction d with
  | zero =>
    intro k i hi hk
    obtain ⟨k, rfl⟩ : ∃ m, k = m + 1 := ⟨k - 1, by omega⟩
    simp only [laws_heldByteS.l0, from_length]
    rw [if_neg (by omega)]
    obtain rfl : i = n := by omega
    rfl
  | succ d ih =>
    intro k i hi hk
    obtain ⟨k, rfl⟩ : ∃ m, k = m + 1 := ⟨k - 1, by omega⟩
    have hr : rd (from_ a n) (i : Int) = (a + (i : Int)) % 256 := by
      rw [rd_nat _ _ (by rw [from_length]; omega)]
      simp [from_]
    simp only [laws_heldByteS.l0, from_length]
    rw [if_pos (by omega), if_pos (by omega), if_pos hr, wrap_nat (by omega), wrap_in (by omega) (by omega), show a + (i : Int) + 1 = a + ((i + 1 : Nat) : Int) by omega]
    exact ih k (i + 1) (by omega) (by omega)
theorem heldByte_eq (n : Nat) (a : Int) (ha : 0 ≤ a) (hl : n ≤ 1048576) (ha1 : a ≤ 100000000) (k : Nat) (hk : n < k) : laws_heldByteS.f k (from_ a n) a = some (a + (n : Int)) := by
  have h := heldByte_loop n a ha hl ha1 n k 0 (by omega) hk
  unfold laws_heldByteS.f
  simpa using h
theorem xor_u32 (a b : Nat) (ha : a < 4294967296) (hb : b < 4294967296) : Go.bits .xor .u32 (a : Int) (b : Int) = ((a ^^^ b : Nat) : Int) := by
  have ha' : a % 2 ^ IntKind.u32.bits = a := Nat.mod_eq_of_lt ha
  have hb' : b % 2 ^ IntKind.u32.bits = b := Nat.mod_eq_of_lt hb
  have hx : a ^^^ b < 4294967296 := Nat.xor_lt_two_pow (n := 32) ha hb
  simp only [Go.bits, BitVec.ofInt_natCast, BitVec.toNat_xor, BitVec.toNat_ofNat, ha', hb', IntKind.wrap_u32]
  omega
theorem xors (p q : Int) (p0 : 0 ≤ p) (p1 : p ≤ 4294967295) (q0 : 0 ≤ q) (q1 : q ≤ 4294967295) : Go.bits .xor .i64 p q = Go.bits .xor .u32 p q := by
  obtain ⟨a, rfl⟩ := Int.eq_ofNat_of_zero_le p0
  obtain ⟨b, rfl⟩ := Int.eq_ofNat_of_zero_le q0
  rw [xor_u32 a b (by omega) (by omega), xor_i64 a b (by omega) (by omega)]
theorem tmod32 (c : Int) (h : 0 ≤ c) : Int.tmod c 4294967296 = c % 4294967296 := Int.tmod_eq_emod_of_nonneg h
theorem l3_mix (x y : Int) (hx0 : 0 ≤ x) (hx1 : x ≤ 4294967295) (hy0 : 0 ≤ y) (hy1 : y ≤ 1000000) : spec_l3Mix.f x y = some (mixZ x y) := by
  unfold spec_l3Mix.f mixZ
  rw [xors x y hx0 hx1 hy0 (by omega)]
  have hc := bits_u32 x y
  generalize Go.bits .xor .u32 x y = c at *
  rw [show Int.tmod c 4294967296 = c by rw [tmod32 c hc.1]; omega, show wrap64 (c * 69069) = c * 69069 from wrap_in (by omega) (by omega), show wrap64 (c * 69069 + 1) = c * 69069 + 1 from wrap_in (by omega) (by omega), tmod32 (c * 69069 + 1) (by omega)]
  have hd : 0 ≤ (c * 69069 + 1) % 4294967296 ∧ (c * 69069 + 1) % 4294967296 ≤ 4294967295 := by omega
  generalize (c * 69069 + 1) % 4294967296 = d at *
  rw [show Int.tdiv d 65536 = d / 65536 from Int.tdiv_eq_ediv_of_nonneg hd.1, show wrap64 (d / 65536) = d / 65536 from wrap_in (by omega) (by omega), xors d (d / 65536) hd.1 hd.2 (by omega) (by omega)]
  have he := bits_u32 d (d / 65536)
  generalize Go.bits .xor .u32 d (d / 65536) = e at *
  rw [show wrap64 (e * 40503) = e * 40503 from wrap_in (by omega) (by omega), show wrap64 (e * 40503 + y) = e * 40503 + y from wrap_in (by omega) (by omega), show wrap64 (e * 40503 + y + 7) = e * 40503 + y + 7 from wrap_in (by omega) (by omega), tmod32 (e * 40503 + y + 7) (by omega)]
  have hf : 0 ≤ (e * 40503 + y + 7) % 4294967296 ∧ (e * 40503 + y + 7) % 4294967296 ≤ 4294967295 := by omega
  generalize (e * 40503 + y + 7) % 4294967296 = f at *
  rw [show Int.tdiv f 8192 = f / 8192 from Int.tdiv_eq_ediv_of_nonneg hf.1, show wrap64 (f / 8192) = f / 8192 from wrap_in (by omega) (by omega), xors f (f / 8192) hf.1 hf.2 (by omega) (by omega)]
theorem rd_getD (l : List Int) (k : Nat) : rd l (k : Int) = l.getD k 0 := by simp [rd]
theorem may_eq (key seq : Int) (head coded : List Int) : spec_l3Ok.f key seq head coded = some (mayB key seq head.length coded.length) := by
  unfold spec_l3Ok.f mayB
  simp only [l1In_eq, Option.bind_some]
  have e3 : ((head.length : Int) ≤ 64) ↔ head.length ≤ 64 := by omega
  have e4 : ((coded.length : Int) ≤ 64) ↔ coded.length ≤ 64 := by omega
  simp only [e3, e4]
  by_cases h1 : 0 ≤ key ∧ key ≤ 4294967295 <;> by_cases h2 : 0 ≤ seq ∧ seq ≤ 65535 <;> by_cases h3 : head.length ≤ 64 <;> by_cases h4 : coded.length ≤ 64 <;> simp [h1, h2, h3, h4]
theorem tag_l1 (coded : List Int) (hc : isBytes coded = true) (hl : coded.length ≤ 64) (pre : List Int) (key : Int) (k0 : 0 ≤ key) (k1 : key ≤ 4294967295) : ∀ (d k j : Nat), j + d = coded.length → d < k →
    spec_SealTag.l1 k coded (foldZ key (pre ++ (coded.take j).map (600 + ·))) (j : Int) = some (foldZ key (pre ++ (coded.take coded.length).map (600 + ·))) := by
  intro d
  induction d with
  | zero =>
    intro k j hj hk
    obtain ⟨k, rfl⟩ : ∃ m, k = m + 1 := ⟨k - 1, by omega⟩
    obtain rfl : j = coded.length := by omega
    simp only [spec_SealTag.l1]
    rw [if_neg (by omega)]
  | succ d ih =>
    intro k j hj hk
    obtain ⟨k, rfl⟩ : ∃ m, k = m + 1 := ⟨k - 1, by omega⟩
    have hx := isBytes_at hc j
    have hf := foldZ_in (pre ++ (coded.take j).map (600 + ·)) key k0 k1
    simp only [spec_SealTag.l1]
    rw [if_pos (by omega), if_pos (by omega), rd_getD, wrap_in (x := coded.getD j 0) (by omega) (by omega), wrap_in (x := 600 + coded.getD j 0) (by omega) (by omega), l3_mix _ _ hf.1 hf.2 (by omega) (by omega), Option.bind_some, wrap_nat (by omega),
      ← foldZ_snoc, List.append_assoc, ← ih k (j + 1) (by omega) (by omega), take_snoc coded j (by omega), List.map_append]
    rfl
theorem tag_l0 (head coded : List Int) (hh : isBytes head = true) (hc : isBytes coded = true) (hl : head.length ≤ 64) (hl2 : coded.length ≤ 64) (pre : List Int) (key : Int) (k0 : 0 ≤ key) (k1 : key ≤ 4294967295) : ∀ (d k j : Nat), j + d = head.length → d + 70 < k →
    spec_SealTag.l0 k head coded (foldZ key (pre ++ (head.take j).map (1 + ·))) (j : Int) = some (foldZ key (pre ++ (head.take head.length).map (1 + ·) ++ [500000 + (coded.length : Int)] ++ (coded.take coded.length).map (600 + ·))) := by
  intro d
  induction d with
  | zero =>
    intro k j hj hk
    obtain ⟨k, rfl⟩ : ∃ m, k = m + 1 := ⟨k - 1, by omega⟩
    obtain rfl : j = head.length := by omega
    have hf := foldZ_in (pre ++ (head.take head.length).map (1 + ·)) key k0 k1
    simp only [spec_SealTag.l0]
    rw [if_neg (by omega), wrap_in (x := 500000 + (coded.length : Int)) (by omega) (by omega), l3_mix _ _ hf.1 hf.2 (by omega) (by omega), Option.bind_some, ← foldZ_snoc]
    have h := tag_l1 coded hc hl2 (pre ++ (head.take head.length).map (1 + ·) ++ [500000 + (coded.length : Int)]) key k0 k1 coded.length k 0 (by omega) (by omega)
    rw [List.take_zero, List.map_nil, List.append_nil] at h
    exact h
  | succ d ih =>
    intro k j hj hk
    obtain ⟨k, rfl⟩ : ∃ m, k = m + 1 := ⟨k - 1, by omega⟩
    have hx := isBytes_at hh j
    have hf := foldZ_in (pre ++ (head.take j).map (1 + ·)) key k0 k1
    simp only [spec_SealTag.l0]
    rw [if_pos (by omega), if_pos (by omega), rd_getD, wrap_in (x := head.getD j 0) (by omega) (by omega), wrap_in (x := 1 + head.getD j 0) (by omega) (by omega), l3_mix _ _ hf.1 hf.2 (by omega) (by omega), Option.bind_some, wrap_nat (by omega),
      ← foldZ_snoc, List.append_assoc, ← ih k (j + 1) (by omega) (by omega), take_snoc head j (by omega), List.map_append]
    rfl
theorem specTag_eq (key seq : Int) (head coded : List Int) (hh : isBytes head = true) (hc : isBytes coded = true) (k : Nat) (hk : 200 ≤ k) : spec_SealTag.f k key seq head coded = some (tagZ key seq head coded) := by
  unfold spec_SealTag.f
  rw [may_eq, Option.bind_some]
  cases hmay : mayB key seq head.length coded.length
  · rw [if_neg (by decide), tagZ_bad hmay]
  · have hb := of_decide_eq_true hmay
    obtain ⟨⟨⟨k0, k1⟩, s0, s1⟩, n64, m64⟩ := hb
    have m1 := mixZ_in key (300000 + seq)
    have m2 := mixZ_in (mixZ key (300000 + seq)) 11
    rw [if_pos rfl, tagZ_good hmay, wrap_in (x := 300000 + seq) (by omega) (by omega), l3_mix _ _ k0 k1 (by omega) (by omega), Option.bind_some, l3_mix _ _ m1.1 m1.2 (by omega) (by omega), Option.bind_some,
      wrap_in (x := 400000 + (head.length : Int)) (by omega) (by omega), l3_mix _ _ m2.1 m2.2 (by omega) (by omega), Option.bind_some]
    have h := tag_l0 head coded hh hc n64 m64 [300000 + seq, 11, 400000 + (head.length : Int)] key k0 k1 head.length k 0 (by omega) (by omega)
    rw [List.take_zero, List.map_nil, List.append_nil] at h
    exact h
theorem isBytes_of {l : List Int} (h : ∀ x ∈ l, (Lit.int .u8 x).wf = true) : isBytes l = true := List.all_eq_true.2 fun x hx => decide_eq_true (wf_u8 (h x hx))
theorem wrap_u8 (z : Int) : IntKind.u8.wrap z = z % 256 := by rw [IntKind.wrap_u8]
theorem xor_u8 (a b : Nat) (ha : a < 256) (hb : b < 256) : Go.bits .xor .u8 (a : Int) (b : Int) = ((a ^^^ b : Nat) : Int) ∧ a ^^^ b < 256 := by
  have ha' : a % 2 ^ IntKind.u8.bits = a := Nat.mod_eq_of_lt ha
  have hb' : b % 2 ^ IntKind.u8.bits = b := Nat.mod_eq_of_lt hb
  have hx : a ^^^ b < 256 := Nat.xor_lt_two_pow (n := 8) ha hb
  refine ⟨?_, hx⟩
  simp only [Go.bits, BitVec.ofInt_natCast, BitVec.toNat_xor, BitVec.toNat_ofNat, ha', hb', IntKind.wrap_u8]
  omega
theorem hidden_in (pad x : Int) (k : Nat) : 0 ≤ hidden pad x k ∧ hidden pad x k ≤ 255 := by
  unfold hidden bits
  simp only [IntKind.wrap_u8]
  omega
theorem hidden_twice (pad x : Int) (k : Nat) (h0 : 0 ≤ x) (h1 : x ≤ 255) : hidden pad (hidden pad x k) k = x := by
  unfold hidden
  rw [wrap_u8]
  obtain ⟨a, rfl⟩ := Int.eq_ofNat_of_zero_le h0
  obtain ⟨b, hb⟩ := Int.eq_ofNat_of_zero_le (show 0 ≤ mixZ pad (200000 + (k : Int)) % 256 by omega)
  rw [hb]
  have hb1 : b < 256 := by omega
  obtain ⟨e1, l1⟩ := xor_u8 a b (by omega) hb1
  rw [e1, (xor_u8 (a ^^^ b) b l1 hb1).1, Nat.xor_assoc, Nat.xor_self, Nat.xor_zero]
theorem hideZ_at (key seq : Int) (body : List Int) (j : Nat) (h : j < body.length) : (hideZ key seq body).getD j 0 = hidden (mixZ key (500 + seq)) (body.getD j 0) j := by simp [hideZ, h]
theorem hideZ_bytes (key seq : Int) (body : List Int) : isBytes (hideZ key seq body) = true := by
  refine List.all_eq_true.2 fun x hx => decide_eq_true ?_
  unfold hideZ at hx
  obtain ⟨k, _, rfl⟩ := List.mem_map.1 hx
  exact hidden_in _ _ _
theorem hideZ_twice (key seq : Int) (body : List Int) (h : isBytes body = true) : hideZ key seq (hideZ key seq body) = body := by
  apply List.ext_getElem
  · rw [hideZ_length, hideZ_length]
  · intro i h1 h2
    have e := hideZ_at key seq (hideZ key seq body) i (by rw [hideZ_length]; exact h2)
    rw [hideZ_at key seq body i h2] at e
    have hx := isBytes_at h i
    rw [hidden_twice _ _ _ hx.1 hx.2] at e
    rw [List.getD_eq_getElem?_getD, List.getElem?_eq_getElem h1, List.getD_eq_getElem?_getD, List.getElem?_eq_getElem h2] at e
    exact e
theorem stream_eq (key seq : Int) (k0 : 0 ≤ key) (k1 : key ≤ 4294967295) (s0 : 0 ≤ seq) (s1 : seq ≤ 65535) (j : Nat) (hj : j ≤ 100) : spec_l3Stream.f key seq (j : Int) = some (mixZ (mixZ key (500 + seq)) (200000 + (j : Int)) % 256) := by
  have hp := mixZ_in key (500 + seq)
  have hz := mixZ_in (mixZ key (500 + seq)) (200000 + (j : Int))
  unfold spec_l3Stream.f
  rw [wrap_in (x := 500 + seq) (by omega) (by omega), l3_mix _ _ k0 k1 (by omega) (by omega), Option.bind_some, wrap_in (x := 200000 + (j : Int)) (by omega) (by omega), l3_mix _ _ hp.1 hp.2 (by omega) (by omega), Option.bind_some, Int.tmod_eq_emod_of_nonneg hz.1]
theorem hide_loop (key seq : Int) (k0 : 0 ≤ key) (k1 : key ≤ 4294967295) (s0 : 0 ≤ seq) (s1 : seq ≤ 65535) (body : List Int) (hl : body.length ≤ 64) : ∀ (d k j : Nat), j + d = body.length → d < k →
    spec_l3Hide.l0 k key seq body ((hideZ key seq body).take j) (j : Int) = some (hideZ key seq body) := by
  intro d
  induction d with
  | zero =>
    intro k j hj hk
    obtain ⟨k, rfl⟩ : ∃ m, k = m + 1 := ⟨k - 1, by omega⟩
    obtain rfl : j = body.length := by omega
    simp only [spec_l3Hide.l0]
    rw [if_neg (by omega), List.take_of_length_le (by rw [hideZ_length]; omega)]
  | succ d ih =>
    intro k j hj hk
    obtain ⟨k, rfl⟩ : ∃ m, k = m + 1 := ⟨k - 1, by omega⟩
    simp only [spec_l3Hide.l0]
    have hl2 := hideZ_length key seq body
    rw [if_pos (by omega), if_pos (by omega), stream_eq key seq k0 k1 s0 s1 j (by omega), Option.bind_some, if_pos (by rw [List.length_take]; omega), wrap_nat (by omega), ← ih k (j + 1) (by omega) (by omega), take_snoc (hideZ key seq body) j (by omega), hideZ_at key seq body j (by omega), rd_getD, Int.emod_emod_of_dvd _ (Int.dvd_refl 256)]
    congr 1
theorem hideSpec_eq (key seq : Int) (k0 : 0 ≤ key) (k1 : key ≤ 4294967295) (s0 : 0 ≤ seq) (s1 : seq ≤ 65535) (body : List Int) (hl : body.length ≤ 64) (k : Nat) (hk : 70 ≤ k) : spec_l3Hide.f k key seq body = some (hideZ key seq body) := by
  unfold spec_l3Hide.f
  have h := hide_loop key seq k0 k1 s0 s1 body hl body.length k 0 (by omega) (by omega)
  rw [List.take_zero] at h
  exact h
theorem implMay_eq (key seq : Int) (head coded : List Int) : impl_sealMay.f key seq head coded = some (mayB key seq head.length coded.length) := by
  unfold impl_sealMay.f mayB
  have e3 : ((head.length : Int) ≤ 64) ↔ head.length ≤ 64 := by omega
  have e4 : ((coded.length : Int) ≤ 64) ↔ coded.length ≤ 64 := by omega
  simp only [e3, e4]
  by_cases h1 : 0 ≤ key <;> by_cases h1' : key ≤ 4294967295 <;> by_cases h2 : 0 ≤ seq <;> by_cases h2' : seq ≤ 65535 <;> by_cases h3 : head.length ≤ 64 <;> by_cases h4 : coded.length ≤ 64 <;> simp [h1, h2, h1', h2', h3, h4]
theorem take_loop (l : List Int) (hb : isBytes l = true) (a s : Nat) (h : a + s ≤ l.length) (h4 : s ≤ 4) (hl : l.length ≤ 9000000000000000000) : ∀ (d k j : Nat), j + d = s → d < k →
    spec_BytTake.l0 k l (a : Int) (s : Int) (takeV (((l.take (a + s)).drop a).take j)) (j : Int) = some (takeV ((l.take (a + s)).drop a), true) := by
  have hLB : isBytes ((l.take (a + s)).drop a) = true := isBytes_drop (isBytes_take hb _) _
  have hLl : ((l.take (a + s)).drop a).length = s := by rw [List.length_drop, List.length_take]; omega
  intro d
  induction d with
  | zero =>
    intro k j hj hk
    obtain ⟨k, rfl⟩ : ∃ m, k = m + 1 := ⟨k - 1, by omega⟩
    obtain rfl : j = s := by omega
    simp only [spec_BytTake.l0]
    rw [if_neg (by omega), List.take_of_length_le (by omega)]
  | succ d ih =>
    intro k j hj hk
    obtain ⟨k, rfl⟩ : ∃ m, k = m + 1 := ⟨k - 1, by omega⟩
    have hv := takeV_in (((l.take (a + s)).drop a).take j) (isBytes_take hLB _)
    have hlk : (((l.take (a + s)).drop a).take j).length = j := by rw [List.length_take, hLl]; omega
    rw [hlk] at hv
    have hv2 : takeV (((l.take (a + s)).drop a).take j) ≤ 16777215 := by
      have : (256 : Int) ^ j ≤ 16777216 := by
        obtain rfl | rfl | rfl | rfl : j = 0 ∨ j = 1 ∨ j = 2 ∨ j = 3 := by omega
        all_goals decide
      omega
    have hx := isBytes_at hb (a + j)
    have hat : ((l.take (a + s)).drop a).getD j 0 = l.getD (a + j) 0 := by
      rw [List.getD_eq_getElem?_getD, List.getD_eq_getElem?_getD, List.getElem?_drop, List.getElem?_take, if_pos (by omega)]
    simp only [spec_BytTake.l0]
    rw [if_pos (by omega), wrap_in (x := (a : Int) + (j : Int)) (by omega) (by omega), show (a : Int) + (j : Int) = ((a + j : Nat) : Int) by omega, if_pos (by omega), if_pos (by omega), rd_getD, wrap_in (x := l.getD (a + j) 0) (by omega) (by omega), wrap_in (x := takeV (((l.take (a + s)).drop a).take j) * 256) (by omega) (by omega),
      wrap_in (x := takeV (((l.take (a + s)).drop a).take j) * 256 + l.getD (a + j) 0) (by omega) (by omega), wrap_nat (by omega), ← hat, ← takeV_snoc, ← take_snoc _ j (by omega)]
    exact ih k (j + 1) (by omega) (by omega)
theorem specTake_eq (l : List Int) (hb : isBytes l = true) (hl : l.length ≤ 9000000000000000000) (a s : Int) (ha : a ≤ 9223372036854775807) (k : Nat) (hk : 10 ≤ k) : spec_BytTake.f k l a s = some (takeR l a s) := by
  unfold spec_BytTake.f
  rw [l1In_eq, Option.bind_some]
  obtain ⟨k, rfl⟩ : ∃ m, k = m + 1 := ⟨k - 1, by omega⟩
  by_cases hs : 1 ≤ s ∧ s ≤ 4
  · rw [decide_eq_true hs, if_pos rfl]
    by_cases h0 : a < 0
    · rw [if_pos h0]
      simp only [spec_BytTake.j0]
      unfold takeR
      rw [if_pos trivial, if_neg (fun hh => by omega)]
    · rw [if_neg h0, wrap_in (x := (l.length : Int) - s) (by omega) (by omega)]
      simp only [spec_BytTake.j0]
      by_cases h1 : a > (l.length : Int) - s
      · unfold takeR
        rw [decide_eq_true h1, if_pos rfl, if_neg (fun hh => by omega)]
      · unfold takeR
        rw [decide_eq_false h1, if_neg (by decide), if_pos ⟨hs, by omega, by omega⟩]
        obtain ⟨m, rfl⟩ := Int.eq_ofNat_of_zero_le (show 0 ≤ a by omega)
        obtain ⟨t, rfl⟩ := Int.eq_ofNat_of_zero_le (show 0 ≤ s by omega)
        rw [Int.toNat_natCast, Int.toNat_natCast]
        exact take_loop l hb m t (by omega) (by omega) hl t k 0 (by omega) (by omega)
  · rw [decide_eq_false hs, if_neg (by decide)]
    simp only [spec_BytTake.j0]
    unfold takeR
    rw [if_pos trivial, if_neg (fun hh => hs hh.1)]
def openZ (key seq : Int) (head shut : List Int) : List Int × Bool :=
  if 4 ≤ shut.length ∧ mayB key seq head.length (shut.length - 4) = true ∧ (takeR shut ((shut.length : Int) - 4) 4).1 = tagZ key seq head (shut.take (shut.length - 4)) then (hideZ key seq (shut.take (shut.length - 4)), true) else ([], false)
theorem implOpen_eq (key seq : Int) (head shut : List Int) (hh : isBytes head = true) (hb : isBytes shut = true) (hl : shut.length ≤ 9000000000000000000) : impl_SealOpen.f key seq head shut = some (openZ key seq head shut) := by
  unfold impl_SealOpen.f
  rw [wrap_in (x := (shut.length : Int) - 4) (by omega) (by omega)]
  by_cases h4 : 4 ≤ shut.length
  · have e : ((shut.length : Int) - 4).toNat = shut.length - 4 := by omega
    have hlt : (shut.take (shut.length - 4)).length = shut.length - 4 := by rw [List.length_take]; omega
    have hbt := isBytes_take hb (shut.length - 4)
    rw [if_neg (by omega), if_pos (by omega), if_pos (by omega), e, implMay_eq, hlt, Option.bind_some]
    cases hm : mayB key seq head.length (shut.length - 4)
    · rw [if_neg (by decide)]
      unfold openZ
      rw [if_neg (fun hh => by rw [hm] at hh; exact absurd hh.2.1 (by decide))]
    · have h := of_decide_eq_true hm
      unfold impl_BytTake.f impl_SealTag.f
      rw [if_pos rfl, if_pos hb, Option.bind_some, if_pos hh, if_pos hbt, Option.bind_some]
      by_cases ht : (takeR shut ((shut.length : Int) - 4) 4).1 = tagZ key seq head (shut.take (shut.length - 4))
      · have hok : okH key seq (shut.take (shut.length - 4)) 0 = true := by
          unfold okH
          rw [Bool.and_eq_true]
          exact ⟨hbt, decide_eq_true ⟨h.1.1, h.1.2, by omega, by decide, by decide⟩⟩
        unfold impl_sealHide.f
        rw [if_pos ht, if_pos hok, Option.bind_some]
        unfold openZ
        rw [if_pos ⟨h4, hm, ht⟩]
      · rw [if_neg ht]
        unfold openZ
        rw [if_neg (fun hh => ht hh.2.2)]
  · rw [if_pos (by omega)]
    unfold openZ
    rw [if_neg (fun hh => h4 hh.1)]
theorem l2Copy_eq (l : List Int) (h : l.length ≤ 100000000) : spec_l2Copy.f l = some l := by
  unfold spec_l2Copy.f
  rw [Option.bind_some, if_pos (by simp; omega)]
  rfl
theorem specOpen_eq (key seq : Int) (head shut : List Int) (hh : isBytes head = true) (hb : isBytes shut = true) (hl : shut.length ≤ 10000000) (k : Nat) (hk : 200 ≤ k) : spec_SealOpen.f k key seq head shut = some (openZ key seq head shut) := by
  unfold spec_SealOpen.f
  by_cases h4 : 4 ≤ shut.length
  · have e : ((shut.length : Int) - 4).toNat = shut.length - 4 := by omega
    have hlt : (shut.take (shut.length - 4)).length = shut.length - 4 := by rw [List.length_take]; omega
    have hbt := isBytes_take hb (shut.length - 4)
    rw [if_neg (by omega), wrap_in (x := (shut.length : Int) - 4) (by omega) (by omega), if_pos (by omega), if_pos (by omega), e, l2Copy_eq _ (by omega), Option.bind_some, may_eq, hlt, Option.bind_some]
    cases hm : mayB key seq head.length (shut.length - 4)
    · rw [if_neg (by decide)]
      unfold openZ
      rw [if_neg (fun hh => by rw [hm] at hh; exact absurd hh.2.1 (by decide))]
    · have h := of_decide_eq_true hm
      rw [if_pos rfl, specTake_eq shut hb (by omega) _ 4 (by omega) k (by omega), Option.bind_some, specTag_eq key seq head _ hh hbt k hk, Option.bind_some]
      by_cases ht : (takeR shut ((shut.length : Int) - 4) 4).1 = tagZ key seq head (shut.take (shut.length - 4))
      · rw [if_pos ht, hideSpec_eq key seq h.1.1.1 h.1.1.2 h.1.2.1 h.1.2.2 _ (by omega) k (by omega), Option.bind_some]
        unfold openZ
        rw [if_pos ⟨h4, hm, ht⟩]
      · rw [if_neg ht]
        unfold openZ
        rw [if_neg (fun hh => ht hh.2.2)]
  · rw [if_pos (by omega)]
    unfold openZ
    rw [if_neg (fun hh => h4 hh.1)]
theorem openZ_le (key seq : Int) (head shut : List Int) : (openZ key seq head shut).1.length ≤ 64 := by
  unfold openZ
  split
  · rename_i h
    have hb := of_decide_eq_true h.2.1
    rw [hideZ_length, List.length_take]
    omega
  · simp
end FnExactSealOpen_
open FnExactSealOpen_
open Go.Proofs.YtghmfcfgmcngpaaDoorSeal Go.Proofs.YtghmfcfgmcngpaaDoorSealTag Go.Proofs.YtghmfcfgmcngpaaDoorSealHide Go.Proofs.YtghmfcfgmcngpaaDoorBytLay Go.Proofs.YtghmfcfgmcngpaaDoorBytPut Go.Proofs.YtghmfcfgmcngpaaDoorBytRead Go.Proofs.YtghmfcfgmcngpaaDoorBytTake
theorem FnExactSealOpen : laws_FnExactSealOpen.Pure := by
  intro key seq head shut _ _ _ h2 _ h3
  obtain ⟨K, hK⟩ : ∃ K : Nat, 1048600 ≤ K := ⟨1048600, Nat.le_refl _⟩
  refine ⟨K + 4, ?_⟩
  have b2 := isBytes_of h2
  have b3 := isBytes_of h3
  unfold laws_FnExactSealOpen.f
  by_cases l2 : (head.length : Int) > 1048576
  · rw [if_pos l2]
  · by_cases l3 : (shut.length : Int) > 1048576
    · rw [if_neg l2, if_pos l3]
    · have IS := implOpen_eq key seq head shut b2 b3 (by omega)
      have SS := specOpen_eq key seq head shut b2 b3 (by omega)
      have hl := openZ_le key seq head shut
      generalize openZ key seq head shut = v at *
      obtain ⟨v, ok⟩ := v
      have hl' : v.length ≤ 64 := hl
      rw [if_neg l2, if_neg l3, toByteS_eq head (by omega) _ (by omega), Option.bind_some, toByteS_eq shut (by omega) _ (by omega), Option.bind_some, SS _ (by omega), Option.bind_some, Option.bind_some, Option.bind_some, IS, Option.bind_some]
      simp only []
      rw [eqByteS_self v (by omega) _ (by omega), Option.bind_some, if_pos rfl]
      simp only [laws_FnExactSealOpen.j0, bne_self_eq_false, Bool.false_eq_true, if_false]
      rw [toByteS_eq head (by omega) _ (by omega), Option.bind_some, eqByteS_self head (by omega) _ (by omega), Option.bind_some, if_pos rfl, toByteS_eq shut (by omega) _ (by omega), Option.bind_some, eqByteS_self shut (by omega) _ (by omega), Option.bind_some, if_pos rfl,
        markByte_eq head 1 (by omega) (by omega) (by omega) _ (by omega), Option.bind_some]
      simp only []
      rw [markByte_eq shut _ (by omega) (by omega) (by omega) _ (by omega), Option.bind_some]
      simp only []
      rw [if_neg (by omega), eqByteS_self v (by omega) _ (by omega), Option.bind_some, if_pos rfl]
      simp only [laws_FnExactSealOpen.j1, Bool.false_eq_true, if_false]
      rw [markByte_eq v 1 (by omega) (by omega) (by omega) _ (by omega), Option.bind_some]
      simp only []
      rw [heldByte_eq _ 1 (by omega) (by omega) (by omega) _ (by omega), Option.bind_some, if_neg (by omega), if_pos rfl, toByteS_eq head (by omega) _ (by omega), Option.bind_some, toByteS_eq shut (by omega) _ (by omega), Option.bind_some, IS, Option.bind_some]
      simp only []
      rw [eqByteS_self v (by omega) _ (by omega), Option.bind_some, if_pos rfl]
      simp only [laws_FnExactSealOpen.j2, bne_self_eq_false, Bool.false_eq_true, if_false]
      rw [heldByte_eq _ 1 (by omega) (by omega) (by omega) _ (by omega), Option.bind_some, if_neg (by omega), if_pos rfl]

end Go.Proofs.YtghmfcfgmcngpaaDoor.Pure
