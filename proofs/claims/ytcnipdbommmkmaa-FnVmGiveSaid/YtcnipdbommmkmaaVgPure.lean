/- The plain law of FnVmGive: both answers are alike, a machine that is ok stays so, and an answer changes no more than what was asked for. Conditions: bytes. -/
import Derived.Test.YtcnipdbommmkmaaVgLaw
import Derived.Test.YtcnipdbommmkmaaVPl
import Derived.Test.YtcnipdbommmkmaaVVmOk
set_option linter.unusedVariables false
set_option linter.unusedSimpArgs false
namespace Go.Proofs.YtcnipdbommmkmaaVgPure
open Go.RowKit Go.Proofs.YtcnipdbommmkmaaW.PrintWords Go.Proofs.YtcnipdbommmkmaaPl Go.Proofs.Ytcnipdbommmkmaa.PVg Go.Proofs Go.Proofs.YtcnipdbommmkmaaVmOk Go.Proofs.YtcnipdbommmkmaaVgLaw
theorem l1In_eq (a b c : Int) : spec_l1In.f a b c = some (decide (b ≤ a ∧ a ≤ c)) := by
  unfold spec_l1In.f
  by_cases h1 : b ≤ a
  · rw [if_pos h1]
    simp [h1]
  · rw [if_neg h1]
    simp [h1]
theorem noughts_loop (d : Nat) : ∀ (k : Nat) (y : List Int), d < k → y.length + d ≤ 1000 → spec_l6Noughts.l0 k (d : Int) y = some (y ++ List.replicate d 0) := by
  induction d with
  | zero =>
    intro k y hk hy
    obtain ⟨k, rfl⟩ : ∃ m, k = m + 1 := ⟨k - 1, by omega⟩
    simp only [spec_l6Noughts.l0]
    rw [if_neg (by omega)]
    simp
  | succ d ih =>
    intro k y hk hy
    obtain ⟨k, rfl⟩ : ∃ m, k = m + 1 := ⟨k - 1, by omega⟩
    simp only [spec_l6Noughts.l0]
    rw [if_pos (by omega), if_pos (by omega), wrap_in (by omega) (by omega), show ((d + 1 : Nat) : Int) - 1 = (d : Int) by omega, ih k (y ++ [0]) (by omega) (by rw [List.length_append, List.length_singleton]; omega), List.append_assoc]
    rfl
theorem noughts_eq (a : Int) (h0 : 0 ≤ a) (h1 : a ≤ 100) (k : Nat) (hk : 101 ≤ k) : spec_l6Noughts.f k a = some (List.replicate a.toNat 0) := by
  obtain ⟨n, rfl⟩ := Int.eq_ofNat_of_zero_le h0
  unfold spec_l6Noughts.f
  rw [noughts_loop n k [] (by omega) (by simp; omega)]
  simp
def Bytes (l : List Int) : Prop := (∀ x ∈ l, (Lit.int .u8 x).wf = true) ∧ l.length ≤ 2000
theorem pick_ok {l : List Int} (hl : Bytes l) {p : Int} (hp0 : 0 ≤ p) (hp1 : p ≤ 1000000) {n : Int} (hn0 : 1 ≤ n) (k : Nat) (hk : 1 ≤ k) :
    ∃ r, spec_l30Rd_pick.f k l p n = some (r, p + 1) ∧ 0 ≤ r ∧ r < n := by
  obtain ⟨k, rfl⟩ : ∃ m, k = m + 1 := ⟨k - 1, by omega⟩
  obtain ⟨hb, hlen⟩ := hl
  unfold spec_l30Rd_pick.f
  rw [if_neg (by omega), wrap_in (by omega) (by omega)]
  simp only [spec_l30Rd_pick.j0]
  by_cases h0 : l.length = 0
  · rw [if_pos (by simp [h0])]
    exact ⟨0, rfl, by omega, by omega⟩
  · rw [if_neg (by simpa using h0), show wrap64 (p + 1 - 1) = p by rw [wrap_in (by omega) (by omega)]; omega]
    by_cases h1 : p < (l.length : Int)
    · rw [if_pos h1, if_pos hp0, if_neg (by omega), wrap_in (by have := rd_u8 hb p; omega) (by have := rd_u8 hb p; omega)]
      have := rd_u8 hb p
      exact ⟨_, rfl, Int.tmod_nonneg _ (by omega), Int.tmod_lt_of_pos _ (by omega)⟩
    · rw [if_neg h1, if_neg (by omega)]
      have hpos : (0 : Int) < (l.length : Int) := by omega
      have m1 : 0 ≤ Int.tmod p (l.length : Int) ∧ Int.tmod p (l.length : Int) < (l.length : Int) := ⟨Int.tmod_nonneg _ hp0, Int.tmod_lt_of_pos _ hpos⟩
      have e7 : wrap64 (p * 7) = p * 7 := wrap_in (by omega) (by omega)
      have e73 : wrap64 (p * 7 + 3) = p * 7 + 3 := wrap_in (by omega) (by omega)
      have m2 : 0 ≤ Int.tmod (p * 7 + 3) (l.length : Int) ∧ Int.tmod (p * 7 + 3) (l.length : Int) < (l.length : Int) := ⟨Int.tmod_nonneg _ (by omega), Int.tmod_lt_of_pos _ hpos⟩
      rw [e7, e73, if_pos m1.1, if_pos m1.2, if_pos m2.1, if_pos m2.2, if_neg (by omega)]
      have b1 := rd_u8 hb (Int.tmod p (l.length : Int))
      have b2 := rd_u8 hb (Int.tmod (p * 7 + 3) (l.length : Int))
      have d0 : 0 ≤ Int.tdiv p (l.length : Int) ∧ Int.tdiv p (l.length : Int) ≤ p := ⟨Int.tdiv_nonneg hp0 (by omega), Int.tdiv_le_self _ hp0⟩
      generalize rd l (Int.tmod p (l.length : Int)) = a at *
      generalize rd l (Int.tmod (p * 7 + 3) (l.length : Int)) = b at *
      generalize Int.tdiv p (l.length : Int) = d at *
      have s1 : wrap64 (wrap64 a * 131) = a * 131 := by rw [wrap_in (x := a) (by omega) (by omega)]; exact wrap_in (by omega) (by omega)
      have s2 : wrap64 (wrap64 b * 1117) = b * 1117 := by rw [wrap_in (x := b) (by omega) (by omega)]; exact wrap_in (by omega) (by omega)
      have s3 : wrap64 (p * 29) = p * 29 := wrap_in (by omega) (by omega)
      have s4 : wrap64 (wrap64 d * 53) = d * 53 := by rw [wrap_in (x := d) (by omega) (by omega)]; exact wrap_in (by omega) (by omega)
      rw [s1, s2, s3, s4, wrap_in (x := a * 131 + b * 1117) (by omega) (by omega), wrap_in (x := a * 131 + b * 1117 + p * 29) (by omega) (by omega), wrap_in (x := a * 131 + b * 1117 + p * 29 + d * 53) (by omega) (by omega)]
      have hx0 : 0 ≤ a * 131 + b * 1117 + p * 29 + d * 53 := by omega
      have hx1 : a * 131 + b * 1117 + p * 29 + d * 53 < 1000000000 := by omega
      generalize a * 131 + b * 1117 + p * 29 + d * 53 = x at *
      have q0 : 0 ≤ Int.tdiv x 64 ∧ Int.tdiv x 64 ≤ x := ⟨Int.tdiv_nonneg hx0 (by omega), Int.tdiv_le_self _ hx0⟩
      rw [wrap_in (x := Int.tdiv x 64) (by omega) (by omega)]
      have := xor_nonneg x (Int.tdiv x 64) hx0 (by omega) q0.1 (by omega)
      exact ⟨_, rfl, Int.tmod_nonneg _ this.1, Int.tmod_lt_of_pos _ (by omega)⟩
theorem open_ok (l : List Int) (hl : ∀ x ∈ l, (Lit.int .u8 x).wf = true) : ∃ m, spec_l30Open.f l = some (m, 0) ∧ Bytes m := by
  unfold spec_l30Open.f
  by_cases h : (l.length : Int) > 2000
  · rw [if_pos h, if_pos (by omega)]
    exact ⟨_, rfl, fun x hx => hl x (List.mem_of_mem_take hx), by rw [List.length_take]; omega⟩
  · rw [if_neg h]
    exact ⟨_, rfl, hl, by omega⟩
def U8 (l : List Int) : Prop := ∀ x ∈ l, (Lit.int .u8 x).wf = true
theorem u8_mod (x : Int) : (Lit.int .u8 (x % 256)).wf = true := by
  simp only [Lit.wf, IntKind.min, IntKind.max, Bool.and_eq_true, decide_eq_true_eq]
  first
    | omega
    | (constructor <;> (simp [IntKind.signed, IntKind.bits]; omega))
theorem U8.snoc {l : List Int} (h : U8 l) (x : Int) : U8 (l ++ [x % 256]) := by
  intro y hy
  rcases List.mem_append.mp hy with hy | hy
  · exact h y hy
  · rw [List.mem_singleton.mp hy]
    exact u8_mod x
theorem U8.set {l : List Int} (h : U8 l) (i : Nat) (x : Int) : U8 (l.set i (x % 256)) := by
  intro y hy
  rcases List.mem_or_eq_of_mem_set hy with hy | hy
  · exact h y hy
  · rw [hy]
    exact u8_mod x
theorem message_loop {s : List Int} (hs : Bytes s) : ∀ (d k : Nat) (y : List Int) (p : Int), U8 y → y.length + d ≤ 100 → 0 ≤ p → p + 2 * d ≤ 1000000 → d + 1 < k →
    ∃ r q, spec_l30Message.l0 k y (d : Int) s p = some (r, q) ∧ U8 r ∧ r.length ≤ y.length + d ∧ p ≤ q ∧ q ≤ p + 2 * d := by
  intro d
  induction d with
  | zero =>
    intro k y p hy hl hp0 hp1 hk
    obtain ⟨k, rfl⟩ : ∃ m, k = m + 1 := ⟨k - 1, by omega⟩
    simp only [spec_l30Message.l0]
    rw [if_neg (by omega)]
    exact ⟨_, _, rfl, hy, by omega, by omega, by omega⟩
  | succ d ih =>
    intro k y p hy hl hp0 hp1 hk
    obtain ⟨k, rfl⟩ : ∃ m, k = m + 1 := ⟨k - 1, by omega⟩
    simp only [spec_l30Message.l0]
    obtain ⟨a, ea, ha⟩ := pick_ok hs hp0 (by omega) (n := 256) (by omega) k (by omega)
    obtain ⟨b, eb, hb⟩ := pick_ok hs (p := p + 1) (by omega) (by omega) (n := 5) (by omega) k (by omega)
    rw [if_pos (by omega), ea]
    simp only [Option.bind_some]
    rw [eb]
    simp only [Option.bind_some]
    rw [if_pos hb.1, if_pos (by simpa using hb.2), if_pos (by omega), show wrap64 (((d + 1 : Nat) : Int) - 1) = (d : Int) by rw [wrap_in (by omega) (by omega)]; omega]
    obtain ⟨r, q, e, h1, h2, h3, h4⟩ := ih k _ (p + 1 + 1) (hy.snoc (rd [0, 1, 7, 255, a] b)) (by rw [List.length_append, List.length_singleton]; omega) (by omega) (by omega) (by omega)
    refine ⟨r, q, e, h1, ?_, by omega, by omega⟩
    rw [List.length_append, List.length_singleton] at h2
    omega
theorem message_ok {s : List Int} (hs : Bytes s) {p : Int} (hp0 : 0 ≤ p) (hp1 : p ≤ 900000) (k : Nat) (hk : 15 ≤ k) :
    ∃ r q, spec_l30Message.f k s p = some (r, q) ∧ U8 r ∧ r.length ≤ 9 ∧ p ≤ q ∧ q ≤ p + 19 := by
  unfold spec_l30Message.f
  obtain ⟨a, ea, ha⟩ := pick_ok hs hp0 (by omega) (n := 8) (by omega) k (by omega)
  rw [Option.bind_some, ea]
  simp only [Option.bind_some]
  rw [if_pos ha.1, if_pos (by simpa using ha.2)]
  obtain ⟨n, en, hn⟩ : ∃ n : Nat, rd [0, 1, 2, 3, 4, 8, 8, 9] a = (n : Int) ∧ n ≤ 9 := by
    obtain ⟨m, rfl⟩ := Int.eq_ofNat_of_zero_le ha.1
    have : m < 8 := by omega
    match m, this with
    | 0, _ => exact ⟨0, rfl, by omega⟩
    | 1, _ => exact ⟨1, rfl, by omega⟩
    | 2, _ => exact ⟨2, rfl, by omega⟩
    | 3, _ => exact ⟨3, rfl, by omega⟩
    | 4, _ => exact ⟨4, rfl, by omega⟩
    | 5, _ => exact ⟨8, rfl, by omega⟩
    | 6, _ => exact ⟨8, rfl, by omega⟩
    | 7, _ => exact ⟨9, rfl, by omega⟩
  rw [en]
  obtain ⟨r, q, e, h1, h2, h3, h4⟩ := message_loop hs n k [] (p + 1) (fun x hx => absurd hx (by simp)) (by simp; omega) (by omega) (by omega) (by omega)
  exact ⟨r, q, e, h1, by simp at h2; omega, by omega, by omega⟩
theorem bytes_loop {s : List Int} (hs : Bytes s) : ∀ (d k : Nat) (y : List Int) (p : Int), U8 y → y.length + d ≤ 100 → 0 ≤ p → p + d ≤ 1000000 → d + 1 < k →
    ∃ r, spec_l30Bytes.l0 k (d : Int) y s p = some (r, p + d) ∧ U8 r ∧ r.length = y.length + d := by
  intro d
  induction d with
  | zero =>
    intro k y p hy hl hp0 hp1 hk
    obtain ⟨k, rfl⟩ : ∃ m, k = m + 1 := ⟨k - 1, by omega⟩
    simp only [spec_l30Bytes.l0]
    rw [if_neg (by omega)]
    exact ⟨_, by simp, hy, by omega⟩
  | succ d ih =>
    intro k y p hy hl hp0 hp1 hk
    obtain ⟨k, rfl⟩ : ∃ m, k = m + 1 := ⟨k - 1, by omega⟩
    simp only [spec_l30Bytes.l0]
    obtain ⟨a, ea, ha⟩ := pick_ok hs hp0 (by omega) (n := 256) (by omega) k (by omega)
    rw [if_pos (by omega), ea]
    simp only [Option.bind_some]
    rw [if_pos (by omega), show wrap64 (((d + 1 : Nat) : Int) - 1) = (d : Int) by rw [wrap_in (by omega) (by omega)]; omega]
    obtain ⟨r, e, hr, hrl⟩ := ih k _ (p + 1) (hy.snoc a) (by rw [List.length_append, List.length_singleton]; omega) (by omega) (by omega) (by omega)
    rw [List.length_append, List.length_singleton] at hrl
    exact ⟨r, by rw [e]; congr 2; omega, hr, by omega⟩
def Fine (r : Option (Int × List Int × List Int × Int × Int)) (p : Int) : Prop := ∃ pc l1 l2 h q, r = some (pc, l1, l2, h, q) ∧ l1.length ≤ 9 ∧ l2.length ≤ 9 ∧ 0 ≤ q ∧ q ≤ p + 10
theorem state_end {s : List Int} (hs : Bytes s) {p pc h : Int} {l1 l2 : List Int} (hp0 : 0 ≤ p) (hp1 : p ≤ 900000) (h1 : l1.length = 4) (h2 : l2.length = 8) (k : Nat) (hk : 2 ≤ k) : Fine (spec_l31State.j2 k s p pc l1 l2 h) p := by
  obtain ⟨k, rfl⟩ : ∃ m, k = m + 1 := ⟨k - 1, by omega⟩
  simp only [spec_l31State.j2]
  obtain ⟨a, ea, ha⟩ := pick_ok hs hp0 (by omega) (n := 24) (by omega) k (by omega)
  obtain ⟨b, eb, hb⟩ := pick_ok hs (p := p + 1) (by omega) (by omega) (n := 3) (by omega) k (by omega)
  obtain ⟨c, ec, hc⟩ := pick_ok hs (p := p + 1) (by omega) (by omega) (n := 4) (by omega) k (by omega)
  obtain ⟨d, ed, hd⟩ := pick_ok hs (p := p + 1 + 1) (by omega) (by omega) (n := 2) (by omega) k (by omega)
  obtain ⟨e, ee, he⟩ := pick_ok hs (p := p + 1) (by omega) (by omega) (n := 2) (by omega) k (by omega)
  obtain ⟨f, ef, hf⟩ := pick_ok hs (p := p + 1) (by omega) (by omega) (n := 8) (by omega) k (by omega)
  rw [ea]
  simp only [Option.bind_some]
  by_cases c0 : a = 0
  · rw [if_pos c0, eb]
    simp only [Option.bind_some]
    rw [if_pos hb.1, if_pos (by simpa using hb.2)]
    exact ⟨_, _, _, _, _, rfl, by omega, by omega, by omega, by omega⟩
  · rw [if_neg c0]
    by_cases c1 : a = 1
    · rw [if_pos c1, ec]
      simp only [Option.bind_some]
      rw [ed]
      simp only [Option.bind_some]
      rw [if_pos hd.1, if_pos (by simpa using hd.2), if_pos hc.1, if_pos (by omega)]
      exact ⟨_, _, _, _, _, rfl, by rw [List.length_set]; omega, by omega, by omega, by omega⟩
    · rw [if_neg c1]
      by_cases c2 : a = 2
      · rw [if_pos c2, if_pos (by omega)]
        exact ⟨_, _, _, _, _, rfl, by omega, by rw [List.length_append, List.length_singleton]; omega, by omega, by omega⟩
      · rw [if_neg c2]
        by_cases c3 : a = 3
        · rw [if_pos c3, ee]
          simp only [Option.bind_some]
          rw [if_pos he.1, if_pos (by simpa using he.2)]
          exact ⟨_, _, _, _, _, rfl, by omega, by omega, by omega, by omega⟩
        · rw [if_neg c3]
          by_cases c4 : a = 4
          · rw [if_pos c4, ef]
            simp only [Option.bind_some]
            rw [if_pos hf.1, if_pos (by omega)]
            exact ⟨_, _, _, _, _, rfl, by omega, by rw [List.length_set]; omega, by omega, by omega⟩
          · rw [if_neg c4]
            exact ⟨_, _, _, _, _, rfl, by omega, by omega, by omega, by omega⟩
theorem Fine.up {r : Option (Int × List Int × List Int × Int × Int)} {p : Int} (h : Fine r p) {q : Int} (hq : p ≤ q) : Fine r q := by
  obtain ⟨pc, l1, l2, h, t, e, a, b, c, d⟩ := h
  exact ⟨pc, l1, l2, h, t, e, a, b, c, by omega⟩
theorem state_l1 {s : List Int} (hs : Bytes s) : ∀ (d k i : Nat) (p pc h : Int) (l1 l2 : List Int), i + d = 8 → 0 ≤ p → p + d ≤ 800000 → l1.length = 4 → l2.length = 8 → d + 3 < k → Fine (spec_l31State.l1 k (i : Int) s p pc l1 l2 h) (p + d + 10) := by
  intro d
  induction d with
  | zero =>
    intro k i p pc h l1 l2 hi hp0 hp1 h1 h2 hk
    obtain ⟨k, rfl⟩ : ∃ m, k = m + 1 := ⟨k - 1, by omega⟩
    simp only [spec_l31State.l1]
    obtain ⟨a, ea, ha⟩ := pick_ok hs hp0 (by omega) (n := 8) (by omega) k (by omega)
    obtain ⟨b, eb, hb⟩ := pick_ok hs (p := p + 1) (by omega) (by omega) (n := 3) (by omega) k (by omega)
    rw [if_neg (by omega), ea]
    simp only [Option.bind_some]
    by_cases c0 : a = 0
    · rw [if_pos c0, eb]
      simp only [Option.bind_some]
      exact (state_end hs (by omega) (by omega) h1 h2 k (by omega)).up (by omega)
    · rw [if_neg c0]
      exact (state_end hs (by omega) (by omega) h1 h2 k (by omega)).up (by omega)
  | succ d ih =>
    intro k i p pc h l1 l2 hi hp0 hp1 h1 h2 hk
    obtain ⟨k, rfl⟩ : ∃ m, k = m + 1 := ⟨k - 1, by omega⟩
    simp only [spec_l31State.l1]
    obtain ⟨a, ea, ha⟩ := pick_ok hs hp0 (by omega) (n := 256) (by omega) k (by omega)
    rw [if_pos (by omega), ea]
    simp only [Option.bind_some]
    rw [if_pos (by omega), if_pos (by omega), wrap_nat (by omega)]
    exact (ih k (i + 1) (p + 1) pc h l1 _ (by omega) (by omega) (by omega) h1 (by rw [List.length_set]; exact h2) (by omega)).up (by omega)
theorem state_l0 {s : List Int} (hs : Bytes s) : ∀ (d k i : Nat) (p pc h : Int) (l1 l2 : List Int), i + d = 4 → 0 ≤ p → p + 2 * d ≤ 700000 → l1.length = 4 → l2.length = 8 → d + 20 < k → Fine (spec_l31State.l0 k (i : Int) s p pc l1 l2 h) (p + 2 * d + 30) := by
  intro d
  induction d with
  | zero =>
    intro k i p pc h l1 l2 hi hp0 hp1 h1 h2 hk
    obtain ⟨k, rfl⟩ : ∃ m, k = m + 1 := ⟨k - 1, by omega⟩
    simp only [spec_l31State.l0]
    rw [if_neg (by omega)]
    exact (state_l1 hs 8 k 0 p pc h l1 l2 (by omega) hp0 (by omega) h1 h2 (by omega)).up (by omega)
  | succ d ih =>
    intro k i p pc h l1 l2 hi hp0 hp1 h1 h2 hk
    obtain ⟨k, rfl⟩ : ∃ m, k = m + 1 := ⟨k - 1, by omega⟩
    simp only [spec_l31State.l0]
    obtain ⟨a, ea, ha⟩ := pick_ok hs hp0 (by omega) (n := 256) (by omega) k (by omega)
    obtain ⟨b, eb, hb⟩ := pick_ok hs (p := p + 1) (by omega) (by omega) (n := 7) (by omega) k (by omega)
    rw [if_pos (by omega), ea]
    simp only [Option.bind_some]
    rw [eb]
    simp only [Option.bind_some]
    rw [if_pos hb.1, if_pos (by simpa using hb.2), if_pos (by omega), if_pos (by omega), wrap_nat (by omega)]
    exact (ih k (i + 1) (p + 1 + 1) pc h _ l2 (by omega) (by omega) (by omega) (by rw [List.length_set]; exact h1) h2 (by omega)).up (by omega)
theorem all_range (l : List Int) (f : Int → Bool) : ((List.range l.length).all fun j => f (rd l (j : Int))) = l.all f := by
  rw [Bool.eq_iff_iff, List.all_eq_true, List.all_eq_true]
  constructor
  · intro h x hx
    obtain ⟨i, hi, rfl⟩ := List.mem_iff_getElem.mp hx
    have := h i (List.mem_range.mpr hi)
    rwa [rd_nat l i hi] at this
  · intro h i hi
    have hi := List.mem_range.mp hi
    rw [rd_nat l i hi]
    exact h _ (List.getElem_mem hi)
theorem bytes_eq (l : List Int) (n : Nat) (hn : n ≤ 100) (k : Nat) (hk : 101 ≤ k) : spec_l6Bytes.f k l (n : Int) = some (decide (l.length = n) && l.all byteB) := by
  unfold spec_l6Bytes.f
  by_cases h : l.length = n
  · rw [if_pos (by omega), decide_eq_true h, Bool.true_and, ← all_range l byteB]
    exact all_loop (fun k i => spec_l6Bytes.l0 k l i) l.length (fun j => byteB (rd l (j : Int))) (fun k i hi => by
      simp only [spec_l6Bytes.l0]
      rw [if_pos (by omega), if_pos (by omega), l1In_eq, wrap_nat (by omega)]
      rfl) (fun k => by
      simp only [spec_l6Bytes.l0]
      rw [if_neg (by omega)]) k (by omega)
  · rw [if_neg (by omega), decide_eq_false h, Bool.false_and]
theorem specVmOk_eq (pc h : Int) (l1 l2 : List Int) (k : Nat) (hk : 101 ≤ k) : spec_VmOk.f k pc l1 l2 h = some (okB pc l1 l2 h) := by
  have e1 := bytes_eq l1 4 (by omega) k hk
  have e2 := bytes_eq l2 8 (by omega) k hk
  have eh : (h == 0 || (h == 1 || h == 2)) = decide (0 ≤ h ∧ h ≤ 2) := by
    rw [Bool.eq_iff_iff]
    simp
    omega
  unfold spec_VmOk.f okB
  rw [l1In_eq]
  simp only [Option.bind_some]
  rw [show ((4 : Nat) : Int) = 4 from rfl] at e1
  rw [show ((8 : Nat) : Int) = 8 from rfl] at e2
  rw [e1]
  simp only [Option.bind_some]
  rw [e2]
  simp only [Option.bind_some, l1In_eq, eh]
  cases decide (0 ≤ pc ∧ pc ≤ 24) <;> cases decide (l1.length = 4) <;> cases decide (l2.length = 8) <;> cases l1.all byteB <;> cases l2.all byteB <;> rfl
theorem implVmOk_eq (pc h : Int) (l1 l2 : List Int) : impl_VmOk.f pc l1 l2 h = some (okB pc l1 l2 h) := rfl
theorem caInts_self (l : List Int) (hl : l.length ≤ 100) (k : Nat) (hk : 101 ≤ k) : laws_caInts.f k l l = some true := by
  unfold laws_caInts.f
  rw [if_pos rfl]
  exact all_loop_true (fun k i => laws_caInts.l0 k l l i) l.length (fun k i hi => by
    simp only [laws_caInts.l0]
    rw [if_pos (by omega), if_pos (by omega), if_pos (by omega), if_pos trivial, wrap_nat (by omega)]) (fun k => by
    simp only [laws_caInts.l0]
    rw [if_neg (by omega)]) k (by omega)
theorem caState_self (pc h : Int) (l1 l2 : List Int) (h1 : l1.length ≤ 100) (h2 : l2.length ≤ 100) (k : Nat) (hk : 101 ≤ k) : laws_caState.f k pc l1 l2 h pc l1 l2 h = some true := by
  unfold laws_caState.f
  rw [if_pos rfl, if_pos rfl, caInts_self _ h1 k hk, Option.bind_some, if_pos rfl, caInts_self _ h2 k hk, Option.bind_some]
theorem askOk_eq (a b : Int) (l : List Int) (c d e : Int) : ∃ q, impl_vmAskOk.f a b l c d e = some q ∧ spec_l6AskOk.f a b l c d e = some q ∧ (q = true → 0 ≤ a ∧ a ≤ 5 ∧ 0 ≤ c ∧ c ≤ 255 ∧ 0 ≤ d ∧ d ≤ 3 ∧ 0 ≤ e ∧ e ≤ 3) := by
  by_cases h : (0 ≤ a ∧ a ≤ 5) ∧ (0 ≤ b ∧ b ≤ 9) ∧ ((l.length : Int) ≤ 8) ∧ (0 ≤ c ∧ c ≤ 255) ∧ (0 ≤ d ∧ d ≤ 3) ∧ (0 ≤ e ∧ e ≤ 3)
  · obtain ⟨h1, h2, h3, h4, h5, h6⟩ := h
    refine ⟨true, ?_, ?_, fun _ => by omega⟩
    · unfold impl_vmAskOk.f impl_BytMessage.f impl_vmByte.f impl_vmRegister.f
      simp [show a ≥ 0 by omega, h1.2, show b ≥ 0 by omega, h2.2, h3, show c ≥ 0 by omega, h4.2, show d ≥ 0 by omega, show d < 4 by omega, show e ≥ 0 by omega, show e < 4 by omega]
    · unfold spec_l6AskOk.f spec_BytMessage.f
      simp only [l1In_eq, Option.bind_some, decide_eq_true h1, decide_eq_true h2, decide_eq_true h3, decide_eq_true h4, decide_eq_true h5, decide_eq_true h6, if_pos]
  · refine ⟨false, ?_, ?_, fun h => by cases h⟩
    · unfold impl_vmAskOk.f impl_BytMessage.f impl_vmByte.f impl_vmRegister.f
      by_cases h1 : a ≥ 0
      · rw [if_pos h1]
        by_cases h2 : a ≤ 5
        · rw [if_pos h2]
          by_cases h3 : b ≥ 0
          · rw [if_pos h3]
            by_cases h4 : b ≤ 9
            · rw [if_pos h4, Option.bind_some]
              by_cases h5 : (l.length : Int) ≤ 8
              · rw [decide_eq_true h5, if_pos rfl]
                by_cases h6 : c ≥ 0
                · rw [if_pos h6, Option.bind_some]
                  by_cases h7 : c ≤ 255
                  · rw [decide_eq_true h7, if_pos rfl]
                    by_cases h8 : d ≥ 0
                    · rw [if_pos h8, Option.bind_some]
                      by_cases h9 : d < 4
                      · rw [decide_eq_true h9, if_pos rfl]
                        by_cases h10 : e ≥ 0
                        · rw [if_pos h10, Option.bind_some, Option.some.injEq]
                          exact decide_eq_false (fun h11 => h ⟨⟨h1, h2⟩, ⟨h3, h4⟩, h5, ⟨h6, h7⟩, ⟨h8, by omega⟩, ⟨h10, by omega⟩⟩)
                        · rw [if_neg h10, Option.bind_some]
                      · rw [decide_eq_false h9, if_neg (by simp)]
                    · rw [if_neg h8, Option.bind_some, if_neg (by simp)]
                  · rw [decide_eq_false h7, if_neg (by simp)]
                · rw [if_neg h6, Option.bind_some, if_neg (by simp)]
              · rw [decide_eq_false h5, if_neg (by simp)]
            · rw [if_neg h4]
          · rw [if_neg h3]
        · rw [if_neg h2]
      · rw [if_neg h1]
    · unfold spec_l6AskOk.f spec_BytMessage.f
      simp only [l1In_eq, Option.bind_some]
      by_cases h1 : 0 ≤ a ∧ a ≤ 5
      · rw [decide_eq_true h1, if_pos rfl]
        by_cases h2 : 0 ≤ b ∧ b ≤ 9
        · rw [decide_eq_true h2, if_pos rfl]
          by_cases h3 : (l.length : Int) ≤ 8
          · rw [decide_eq_true h3, if_pos rfl]
            by_cases h4 : 0 ≤ c ∧ c ≤ 255
            · rw [decide_eq_true h4, if_pos rfl]
              by_cases h5 : 0 ≤ d ∧ d ≤ 3
              · rw [decide_eq_true h5, if_pos rfl, decide_eq_false (fun h6 => h ⟨h1, h2, h3, h4, h5, h6⟩)]
              · rw [decide_eq_false h5, if_neg (by simp)]
            · rw [decide_eq_false h4, if_neg (by simp)]
          · rw [decide_eq_false h3, if_neg (by simp)]
        · rw [decide_eq_false h2, if_neg (by simp)]
      · rw [decide_eq_false h1, if_neg (by simp)]
/-- At how many places two rows differ. -/
def cnt : List Int → List Int → Int
  | a :: x, b :: y => (if a = b then 0 else 1) + cnt x y
  | [], _ => 0
  | _ :: _, [] => 0
theorem cnt_self : ∀ l : List Int, cnt l l = 0
  | [] => rfl
  | a :: x => by
    unfold cnt
    rw [if_pos rfl, cnt_self x]
    rfl
theorem cnt_set : ∀ (l y : List Int) (i : Nat) (v : Int), cnt l (y.set i v) ≤ cnt l y + 1
  | [], y, i, v => by
    unfold cnt
    omega
  | a :: x, [], i, v => by
    rw [List.set_nil]
    omega
  | a :: x, b :: y, 0, v => by
    simp only [List.set_cons_zero, cnt]
    split <;> split <;> omega
  | a :: x, b :: y, i + 1, v => by
    have := cnt_set x y i v
    simp only [List.set_cons_succ, cnt]
    omega
theorem cnt_one (l : List Int) (i : Nat) (v : Int) : cnt l (l.set i v) ≤ 1 := by
  have := cnt_set l l i v
  rw [cnt_self] at this
  omega
theorem cnt_two (l : List Int) (i j : Nat) (v u : Int) : cnt l ((l.set i v).set j u) ≤ 2 := by
  have := cnt_set l (l.set i v) j u
  have := cnt_one l i v
  omega
theorem differs_loop (l y : List Int) (hl : l.length ≤ 100) : ∀ (d i k : Nat) (n : Int), i + d = l.length → 0 ≤ n → n ≤ (i : Int) → 2 * d + 2 ≤ k → laws_caDiffers.l0 k l y n (i : Int) = some (n + cnt (l.drop i) (y.drop i)) := by
  intro d
  induction d with
  | zero =>
    intro i k n hi h0 h1 hk
    obtain ⟨k, rfl⟩ : ∃ m, k = m + 1 + 1 := ⟨k - 2, by omega⟩
    simp only [laws_caDiffers.l0, laws_caDiffers.j1]
    rw [if_neg (by omega), if_neg (by simp), List.drop_eq_nil_of_le (by omega)]
    simp only [cnt]
    congr 1
    omega
  | succ d ih =>
    intro i k n hi h0 h1 hk
    obtain ⟨k, rfl⟩ : ∃ m, k = m + 1 + 1 := ⟨k - 2, by omega⟩
    simp only [laws_caDiffers.l0, laws_caDiffers.j1]
    have hil : i < l.length := by omega
    rw [if_pos (by omega), List.drop_eq_getElem_cons hil]
    by_cases hy : i < y.length
    · rw [List.drop_eq_getElem_cons hy, decide_eq_true (show (i : Int) < (y.length : Int) by omega), if_pos rfl, if_pos (by omega), if_pos (by omega), if_pos (by omega), wrap_nat (by omega), rd_nat l i hil, rd_nat y i hy]
      simp only [cnt]
      by_cases e : l[i] = y[i]
      · rw [if_pos e, if_pos e, ih (i + 1) k n (by omega) h0 (by omega) (by omega)]
        congr 1
        omega
      · rw [if_neg e, if_neg e, wrap_in (by omega) (by omega), ih (i + 1) k (n + 1) (by omega) (by omega) (by omega) (by omega)]
        congr 1
        omega
    · rw [decide_eq_false (show ¬ (i : Int) < (y.length : Int) by omega), if_neg (by simp), List.drop_eq_nil_of_le (show y.length ≤ i by omega)]
      simp only [cnt]
      congr 1
      omega
theorem differs_eq (l y : List Int) (hl : l.length ≤ 100) (k : Nat) (hk : 202 ≤ k) : laws_caDiffers.f k l y = some (cnt l y) := by
  unfold laws_caDiffers.f
  have h := differs_loop l y hl l.length 0 k 0 (by omega) (by omega) (by omega) (by omega)
  rw [List.drop_zero, List.drop_zero, Int.zero_add] at h
  exact h
theorem ok_iff {p h : Int} {l1 l2 : List Int} : okB p l1 l2 h = true ↔ (0 ≤ p ∧ p ≤ 24) ∧ l1.length = 4 ∧ l2.length = 8 ∧ (∀ x ∈ l1, 0 ≤ x ∧ x ≤ 255) ∧ (∀ x ∈ l2, 0 ≤ x ∧ x ≤ 255) ∧ (0 ≤ h ∧ h ≤ 2) := by
  have eh : (h == 0 || (h == 1 || h == 2)) = decide (0 ≤ h ∧ h ≤ 2) := by
    rw [Bool.eq_iff_iff]
    simp
    omega
  unfold okB
  rw [eh]
  simp only [Bool.and_eq_true, decide_eq_true_eq, List.all_eq_true, byteB]
theorem okset {p h : Int} {l1 l2 : List Int} (c : okB p l1 l2 h = true) {i : Nat} {v : Int} (hv : 0 ≤ v ∧ v ≤ 255) : okB p (l1.set i v) l2 h = true := by
  rw [ok_iff] at c ⊢
  refine ⟨c.1, by rw [List.length_set]; exact c.2.1, c.2.2.1, fun x hx => ?_, c.2.2.2.2.1, c.2.2.2.2.2⟩
  rcases List.mem_or_eq_of_mem_set hx with hx | rfl
  · exact c.2.2.2.1 x hx
  · exact hv
theorem okh {p h h' : Int} {l1 l2 : List Int} (c : okB p l1 l2 h = true) (hv : 0 ≤ h' ∧ h' ≤ 2) : okB p l1 l2 h' = true := by
  rw [ok_iff] at c ⊢
  exact ⟨c.1, c.2.1, c.2.2.1, c.2.2.2.1, c.2.2.2.2.1, hv⟩
theorem okl2 {p h : Int} {l1 l2 y : List Int} (c : okB p l1 l2 h = true) (h8 : y.length = 8) (hy : ∀ x ∈ y, 0 ≤ x ∧ x ≤ 255) : okB p l1 y h = true := by
  rw [ok_iff] at c ⊢
  exact ⟨c.1, c.2.1, h8, c.2.2.2.1, hy, c.2.2.2.2.2⟩
theorem ok_l2 {p h : Int} {l1 l2 : List Int} (c : okB p l1 l2 h = true) : ∀ x ∈ l2, 0 ≤ x ∧ x ≤ 255 := (ok_iff.mp c).2.2.2.2.1
section
variable {a0 p h h' : Int} {l1 l2 y1 y2 : List Int} {n : Nat} {yes : Bool}
theorem kind1 (e : a0 = 1) (c : okB p y1 l2 h' = true) (h1 : cnt l1 y1 ≤ 1) : okB p y1 l2 h' = true ∧ Rl a0 (cnt l1 y1) (cnt l2 l2) p p n yes :=
  ⟨c, fun _ => ⟨h1, cnt_self _, rfl⟩, fun h => by omega, fun h => by omega, fun h => absurd e h⟩
theorem kind2 (e : a0 = 2) (c : okB p y1 y2 h' = true) (h1 : cnt l1 y1 ≤ 1) (h2 : cnt l2 y2 ≤ (n : Int)) (h3 : yes = false → cnt l2 y2 = 0) : okB p y1 y2 h' = true ∧ Rl a0 (cnt l1 y1) (cnt l2 y2) p p n yes :=
  ⟨c, fun h => by omega, fun _ => ⟨h1, h2, h3⟩, fun h => by omega, fun _ h => absurd e h⟩
theorem kind3 (e : a0 = 3) (c : okB p y1 l2 h' = true) (h1 : cnt l1 y1 ≤ 2) : okB p y1 l2 h' = true ∧ Rl a0 (cnt l1 y1) (cnt l2 l2) p p n yes :=
  ⟨c, fun h => by omega, fun h => by omega, fun _ => ⟨h1, cnt_self _⟩, fun _ _ h => absurd e h⟩
theorem kind0 (c : okB p l1 l2 h' = true) : okB p l1 l2 h' = true ∧ Rl a0 (cnt l1 l1) (cnt l2 l2) p p n yes :=
  ⟨c, fun _ => ⟨by rw [cnt_self]; omega, cnt_self _, rfl⟩, fun _ => ⟨by rw [cnt_self]; omega, by rw [cnt_self]; omega, fun _ => cnt_self _⟩, fun _ => ⟨by rw [cnt_self]; omega, cnt_self _⟩, fun _ _ _ => ⟨cnt_self _, cnt_self _⟩⟩
theorem kind4 (_ : ¬ a0 = 1) (_ : ¬ a0 = 2) (_ : ¬ a0 = 3) (c : okB p l1 l2 h' = true) : okB p l1 l2 h' = true ∧ Rl a0 (cnt l1 l1) (cnt l2 l2) p p n yes := kind0 c
end
theorem lay_eq (L0 : List Int) (m : List Int) (hb : ∀ x ∈ m, 0 ≤ x ∧ x ≤ 255) (at_ : Int) (h0 : 0 ≤ at_) (hm : m.length ≤ 8) (hat : at_ + (m.length : Int) ≤ 8) (p h a0 a1 : Int) (l3 : List Int) (rg fl : Int) (l1 : List Int) (hr0 : 0 ≤ rg) (hr1 : rg < (l1.length : Int)) : ∀ (d i k : Nat) (l2 : List Int), i + d = m.length → l2.length = 8 → d < k →
    ∃ y : List Int, (y.length = 8 ∧ cnt L0 y ≤ cnt L0 l2 + (d : Int) ∧ ((∀ x ∈ l2, 0 ≤ x ∧ x ≤ 255) → ∀ x ∈ y, 0 ≤ x ∧ x ≤ 255)) ∧ spec_l6Lay.l0 k at_ m (i : Int) p l1 l2 h = some (p, l1, y, h) ∧ impl_vmAnswer.l0 k m m (m.length : Int) (i : Int) p l1 l2 h a0 a1 l3 at_ rg fl = some (p, l1.set rg.toNat (wrap64 ((m.length : Int) + 1)), y, h) := by
  intro d
  induction d with
  | zero =>
    intro i k l2 hi hl hk
    obtain ⟨k, rfl⟩ : ∃ m, k = m + 1 := ⟨k - 1, by omega⟩
    refine ⟨l2, ⟨hl, by omega, id⟩, ?_, ?_⟩
    · simp only [spec_l6Lay.l0]
      rw [if_neg (by omega)]
    · simp only [impl_vmAnswer.l0]
      rw [if_neg (by omega), if_pos hr0, if_pos hr1]
  | succ d ih =>
    intro i k l2 hi hl hk
    obtain ⟨k, rfl⟩ : ∃ m, k = m + 1 := ⟨k - 1, by omega⟩
    have ew : wrap64 (at_ + (i : Int)) = at_ + (i : Int) := wrap_in (by omega) (by omega)
    obtain ⟨y, h1, h2, h3⟩ := ih (i + 1) k (l2.set (at_ + (i : Int)).toNat (wrap64 (rd m (i : Int)))) (by omega) (by rw [List.length_set]; exact hl) (by omega)
    have hr := rd_in hb (by omega) (by omega) (i : Int)
    have hw : wrap64 (rd m (i : Int)) = rd m (i : Int) := wrap_in (by omega) (by omega)
    refine ⟨y, ⟨h1.1, by have := cnt_set L0 l2 (at_ + (i : Int)).toNat (wrap64 (rd m (i : Int))); have := h1.2.1; omega, fun hl2 => h1.2.2 (fun x hx => by
      rcases List.mem_or_eq_of_mem_set hx with hx | rfl
      · exact hl2 x hx
      · rw [hw]; exact hr)⟩, ?_, ?_⟩
    · simp only [spec_l6Lay.l0]
      rw [if_pos (by omega), if_pos (by omega), ew, if_pos (by omega), if_pos (by omega), wrap_nat (by omega)]
      exact h2
    · simp only [impl_vmAnswer.l0]
      rw [if_pos (by omega), if_pos (by omega), if_pos (by omega), ew, if_pos (by omega), if_pos (by omega), wrap_nat (by omega)]
      exact h3
theorem lay_one (m : List Int) (at_ p h : Int) (l1 l2 : List Int) (K : Nat) (y' y : List Int) (e' : spec_l6Lay.l0 K at_ m ((0 : Nat) : Int) p l1 l2 h = some (p, l1, y', h)) (e : spec_l6Lay.l0 (K + 1) at_ m ((0 : Nat) : Int) p l1 l2 h = some (p, l1, y, h)) : y' = y := by
  have := (spec_l6Lay.mono_l K _ _ _ _ _ _ _) _ e'
  rw [e] at this
  simpa using this.symm
theorem ok_lens {p h : Int} {l1 l2 : List Int} (c : okB p l1 l2 h = true) : l1.length = 4 ∧ l2.length = 8 := by
  unfold okB at c
  rw [Bool.and_eq_true, Bool.and_eq_true, Bool.and_eq_true, decide_eq_true_eq, decide_eq_true_eq, decide_eq_true_eq] at c
  exact ⟨c.2.1, c.2.2.1⟩
theorem give_ok (p h : Int) (l1 l2 : List Int) (a0 a1 : Int) (l3 : List Int) (at_ rg fl : Int) (m : List Int) (yes : Bool) (hm : ∀ x ∈ m, 0 ≤ x ∧ x ≤ 255) (K : Nat) (hK : 150 ≤ K) : ∃ p' l1' l2' h', impl_VmGive.f K p l1 l2 h a0 a1 l3 at_ rg fl m yes = some (p', l1', l2', h') ∧ spec_VmGive.f K p l1 l2 h a0 a1 l3 at_ rg fl m yes = some (p', l1', l2', h') ∧ ((p' = 0 ∧ l1' = [] ∧ l2' = [] ∧ h' = 0) ∨ (okB p' l1' l2' h' = true ∧ Rl a0 (cnt l1 l1') (cnt l2 l2') p p' m.length yes)) := by
  obtain ⟨q, e1, e2, hq⟩ := askOk_eq a0 a1 l3 at_ rg fl
  unfold impl_VmGive.f spec_VmGive.f impl_BytMessage.f spec_BytMessage.f
  rw [specVmOk_eq _ _ _ _ K (by omega), implVmOk_eq, e1, e2]
  simp only [Option.bind_some]
  obtain ⟨K, rfl⟩ : ∃ m, K = m + 1 := ⟨K - 1, by omega⟩
  have bad : ∃ p' l1' l2' h', impl_VmGive.j0 (K + 1) m yes true p l1 l2 h a0 a1 l3 at_ rg fl = some (p', l1', l2', h') ∧ spec_VmGive.j0 (K + 1) m yes true p l1 l2 h a0 a1 l3 at_ rg fl = some (p', l1', l2', h') ∧ ((p' = 0 ∧ l1' = [] ∧ l2' = [] ∧ h' = 0) ∨ (okB p' l1' l2' h' = true ∧ Rl a0 (cnt l1 l1') (cnt l2 l2') p p' m.length yes)) := by
    refine ⟨0, [], [], 0, ?_, ?_, .inl ⟨rfl, rfl, rfl, rfl⟩⟩
    · simp only [impl_VmGive.j0, if_pos]
    · simp only [spec_VmGive.j0, if_pos]
  by_cases c1 : okB p l1 l2 h = true
  · rw [if_pos c1, if_pos c1]
    by_cases c2 : q = true
    · rw [if_pos c2, if_pos c2]
      by_cases c3 : (m.length : Int) ≤ 8
      · rw [decide_eq_true c3]
        obtain ⟨g1, g2, g3, g4, g5, g6, g7, g8⟩ := hq c2
        have hl : l1.length = 4 ∧ l2.length = 8 := ok_lens c1
        have hc : impl_vmCopy.f p l1 l2 h = some (p, l1, l2, h) := by
          unfold impl_vmCopy.f impl_vmNumbers.f
          rw [if_pos (by omega), Option.bind_some, if_pos (by omega), Option.bind_some]
        have hc2 : spec_l6Copy.f p l1 l2 h = some (p, l1, l2, h) := by
          unfold spec_l6Copy.f
          rw [Option.bind_some, if_pos (by simp; omega), Option.bind_some, if_pos (by simp; omega)]
          rfl
        simp only [Bool.not_true, impl_VmGive.j0, spec_VmGive.j0, Bool.false_eq_true, if_false, hc, hc2, Option.bind_some]
        unfold impl_vmAnswer.f
        by_cases c4 : h = 0
        · rw [if_pos c4, if_pos c4]
          by_cases c5 : a0 = 1
          · rw [if_pos c5, if_pos c5, if_pos g5, if_pos (by omega), Option.bind_some]
            by_cases c6 : yes = true
            · rw [if_pos c6, if_pos c6, if_pos g5, if_pos (by omega), Option.bind_some, List.set_set]
              exact ⟨_, _, _, _, rfl, rfl, .inr (kind1 c5 (okset c1 (by omega)) (cnt_one _ _ _))⟩
            · rw [if_neg c6, if_neg c6, if_pos g5, if_pos (by omega), Option.bind_some]
              exact ⟨_, _, _, _, rfl, rfl, .inr (kind1 c5 (okset c1 (by omega)) (cnt_one _ _ _))⟩
          · rw [if_neg c5, if_neg c5]
            by_cases c7 : a0 = 2
            · rw [if_pos c7, if_pos c7]
              by_cases c6 : yes = true
              · rw [if_pos c6, if_pos c6]
                have ew : wrap64 (at_ + (m.length : Int)) = at_ + (m.length : Int) := wrap_in (by omega) (by omega)
                rw [ew]
                obtain ⟨K, rfl⟩ : ∃ m, K = m + 1 := ⟨K - 1, by omega⟩
                by_cases c8 : at_ + (m.length : Int) > 8
                · rw [if_pos c8, decide_eq_true c8, Option.bind_some]
                  simp only [spec_VmGive.j1, if_pos, spec_l6Fall.f, Option.bind_some]
                  exact ⟨_, _, _, _, rfl, rfl, .inr (kind2 c7 (okh c1 (by omega)) (by rw [cnt_self]; omega) (by rw [cnt_self]; omega) (fun _ => cnt_self _))⟩
                · rw [if_neg c8, decide_eq_false c8]
                  obtain ⟨y, y1, y2, y3⟩ := lay_eq l2 m hm at_ g3 (by omega) (by omega) p h a0 a1 l3 rg fl l1 g5 (by omega) m.length 0 (K + 1) l2 (by omega) hl.2 (by omega)
                  obtain ⟨y', y1', y2', y3'⟩ := lay_eq l2 m hm at_ g3 (by omega) (by omega) p h a0 a1 l3 rg fl l1 g5 (by omega) m.length 0 K l2 (by omega) hl.2 (by omega)
                  have ey : y' = y := lay_one m at_ p h l1 l2 K y' y y2' y2
                  subst ey
                  rw [show ((0 : Nat) : Int) = 0 from rfl] at y3 y2'
                  rw [y3, Option.bind_some]
                  simp only [spec_VmGive.j1, Bool.false_eq_true, if_false, if_pos c6, spec_l6Lay.f]
                  rw [y2', Option.bind_some]
                  simp only [if_pos g5, if_pos (show rg < (l1.length : Int) by omega)]
                  exact ⟨_, _, _, _, rfl, rfl, .inr (kind2 c7 (okl2 (okset c1 (by rw [wrap_in (by omega) (by omega)]; omega)) y1.1 (y1.2.2 (ok_l2 c1))) (cnt_one _ _ _) (by have := y1.2.1; rw [cnt_self] at this; omega) (fun e => absurd c6 (by rw [e]; decide)))⟩
              · rw [if_neg c6, if_neg c6, if_pos g5, if_pos (by omega), Option.bind_some]
                obtain ⟨K, rfl⟩ : ∃ m, K = m + 1 := ⟨K - 1, by omega⟩
                simp only [spec_VmGive.j1, Bool.false_eq_true, if_false, if_neg c6]
                rw [if_pos g5, if_pos (by omega)]
                exact ⟨_, _, _, _, rfl, rfl, .inr (kind2 c7 (okset c1 (by omega)) (cnt_one _ _ _) (by rw [cnt_self]; omega) (fun _ => cnt_self _))⟩
            · rw [if_neg c7, if_neg c7]
              have hrg : rg < (l1.length : Int) := by omega
              have hfl : fl < (l1.length : Int) := by omega
              by_cases c9 : a0 = 3
              · by_cases c6 : yes = true
                · by_cases c10 : (m.length : Int) > 0
                  · have c11 : 0 < (m.length : Int) := c10
                    simp only [if_pos c9, if_pos c6, if_pos c10, if_pos c11, if_pos g5, if_pos g7, if_pos hrg, if_pos hfl, Option.bind_some]
                    exact ⟨_, _, _, _, rfl, rfl, .inr (kind3 c9 (okset (okset c1 (by first | omega | (have := rd_in hm (by omega) (by omega) 0; (try rw [wrap_in (by omega) (by omega)]); omega))) (by omega)) (cnt_two _ _ _ _ _))⟩
                  · simp only [if_pos c9, if_pos c6, if_neg c10, if_pos g5, if_pos g7, if_pos hrg, if_pos hfl, Option.bind_some]
                    exact ⟨_, _, _, _, rfl, rfl, .inr (kind3 c9 (okset (okset c1 (by omega)) (by omega)) (cnt_two _ _ _ _ _))⟩
                · simp only [if_pos c9, if_neg c6, if_pos g5, if_pos g7, if_pos hrg, if_pos hfl, Option.bind_some]
                  exact ⟨_, _, _, _, rfl, rfl, .inr (kind3 c9 (okset (okset c1 (by omega)) (by omega)) (cnt_two _ _ _ _ _))⟩
              · simp only [if_neg c9, Option.bind_some]
                exact ⟨_, _, _, _, rfl, rfl, .inr (kind4 c5 c7 c9 c1)⟩
        · rw [if_neg c4, if_neg c4, Option.bind_some]
          exact ⟨_, _, _, _, rfl, rfl, .inr (kind0 c1)⟩
      · rw [decide_eq_false c3]
        exact bad
    · rw [if_neg c2, if_neg c2]
      exact bad
  · rw [if_neg c1, if_neg c1]
    exact bad


theorem give_all (p h : Int) (l1 l2 : List Int) (b1 : l1.length ≤ 9) (b2 : l2.length ≤ 9) (x0 x1 x3 x4 x5 : Int) (l3 m : List Int) (yes : Bool) (_ : m.length ≤ 9) (hm : ∀ x ∈ m, 0 ≤ x ∧ x ≤ 255) : ∃ p' h' l1' l2' d1 d2 ok, Gv p h l1 l2 x0 x1 x3 x4 x5 l3 m yes p' h' l1' l2' d1 d2 ok := by
  obtain ⟨p', l1', l2', h', e1, e2, hc⟩ := give_ok p h l1 l2 x0 x1 l3 x3 x4 x5 m yes hm 300 (by omega)
  have hlen : l1'.length ≤ 100 ∧ l2'.length ≤ 100 := by
    rcases hc with ⟨_, rfl, rfl, _⟩ | ⟨hc, _⟩
    · exact ⟨by simp, by simp⟩
    · have := ok_iff.mp hc
      omega
  refine ⟨p', h', l1', l2', cnt l1 l1', cnt l2 l2', okB p' l1' l2' h', e1, e2, caState_self _ _ _ _ hlen.1 hlen.2 _ (by omega), specVmOk_eq _ _ _ _ _ (by omega), fun hf => ?_, differs_eq _ _ (by omega) _ (by omega), differs_eq _ _ (by omega) _ (by omega), fun ht => ?_⟩
  · rcases hc with ⟨rfl, rfl, rfl, rfl⟩ | ⟨hc, _⟩
    · exact caState_self _ _ _ _ (by simp) (by simp) _ (by omega)
    · rw [hc] at hf
      cases hf
  · rcases hc with ⟨rfl, rfl, rfl, rfl⟩ | ⟨_, hc⟩
    · exact absurd (ok_iff.mp ht).2.1 (by simp)
    · exact hc
theorem state_ok {s : List Int} (hs : Bytes s) : ∃ p l1 l2 h q, spec_l31State.f 300 s 0 9 = some (p, l1, l2, h, q) ∧ l1.length ≤ 9 ∧ l2.length ≤ 9 ∧ 0 ≤ q ∧ q ≤ 500 := by
  unfold spec_l31State.f spec_VmNew.f
  obtain ⟨a, ea, ha⟩ := pick_ok hs (p := 0) (by omega) (by omega) (n := 10) (by omega) 300 (by omega)
  rw [noughts_eq 4 (by omega) (by omega) 300 (by omega)]
  simp only [Option.bind_some]
  rw [noughts_eq 8 (by omega) (by omega) 300 (by omega)]
  simp only [Option.bind_some]
  rw [show wrap64 (9 + 1) = 10 from wrap_in (by omega) (by omega), ea]
  simp only [Option.bind_some]
  obtain ⟨pc, l1, l2, h, q, e, h1, h2, q0, q1⟩ := state_l0 hs 4 300 0 (0 + 1) a 0 (List.replicate (4 : Int).toNat 0) (List.replicate (8 : Int).toNat 0) (by omega) (by omega) (by omega) (by simp) (by simp) (by omega)
  rw [show ((0 : Nat) : Int) = 0 from rfl] at e
  rw [e]
  exact ⟨_, _, _, _, _, rfl, h1, h2, q0, by omega⟩
theorem new1 : impl_VmNew.f = some (0, List.replicate 4 0, List.replicate 8 0, 0) := by decide +kernel
theorem new2 : impl_VmGive.f 300 0 (List.replicate 4 0) (List.replicate 8 0) 0 0 0 [] 0 0 0 [] false = some (0, List.replicate 4 0, List.replicate 8 0, 0) := by decide +kernel
theorem new3 : spec_VmNew.f 300 = some (0, List.replicate 4 0, List.replicate 8 0, 0) := by decide +kernel
set_option maxHeartbeats 8000000 in
set_option maxRecDepth 100000 in
theorem law_big (A0 : Option Addr) (c0 : Nat) (l0 : List Int) (w : World) (hlen : (l0.length : Int) > 1048576) : Calls Try.prog 9 #[.slice A0 l0.length c0] w fun e W => e = .returned (.bool true) ∧ Below w.heap.size w W := by
  have j0 : decide ((l0.length : Int) > 1048576) = true := decide_eq_true hlen
  have HB := Aside0.mk (Below.refl w.heap.size w)
  clear hlen
  go_enter Try.func9, Try.ntmps9
  go_wp2
  go_ret
  exact ⟨rfl, HB.out⟩
theorem law_all (A0 : Option Addr) (c0 : Nat) (l0 : List Int) (w : World) (hr0 : Kd.C (Kd.int .u8) w A0 l0.length l0) (hc0 : l0.length ≤ c0) (hl : ∀ x ∈ l0, (Lit.int .u8 x).wf = true) : Calls Try.prog 9 #[.slice A0 l0.length c0] w fun e W => e = .returned (.bool true) ∧ Below w.heap.size w W := by
  by_cases hlen : (l0.length : Int) > 1048576
  · exact law_big A0 c0 l0 w hlen
  obtain ⟨s, es, hs⟩ := open_ok l0 hl
  obtain ⟨p, l1, l2, h, q, e, b1, b2, q0, q1⟩ := state_ok hs
  refine law_walk A0 c0 l0 w hlen p h l1 l2 (fun W hB => YtcnipdbommmkmaaVgDraw.draw_any 300 A0 c0 l0 s W (Kd.C_below hr0 hB) hc0 es p h q l1 l2 e q0 q1 (fun n i h0 h1 hn => pick_ok hs h0 (by omega) hn 300 (by omega)) (fun i h0 h1 => ?_) (fun i h0 h1 => ?_)) (give_all p h l1 l2 b1 b2) _ _ new1 new2 new3 (caState_self _ _ _ _ (by simp) (by simp) _ (by omega))
  · obtain ⟨r, er, _, hr⟩ := bytes_loop hs 9 300 [] i (fun x hx => absurd hx (by simp)) (by simp) h0 (by omega) (by omega)
    exact ⟨r, i + ((9 : Nat) : Int), er, by omega, by omega, by simp at hr; omega⟩
  · obtain ⟨r, j, er, hu, hr, h2, h3⟩ := message_ok hs (p := i) h0 (by omega) 300 (by omega)
    exact ⟨r, j, er, by omega, by omega, hr, fun x hx => wf_u8 (hu x hx)⟩
end Go.Proofs.YtcnipdbommmkmaaVgPure
