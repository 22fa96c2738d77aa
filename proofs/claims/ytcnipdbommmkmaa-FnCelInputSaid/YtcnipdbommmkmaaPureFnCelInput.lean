/- The pure statement of FnCelInput: a byte that a cell is given stands behind what waited, if there was room, and the program's CelInput is the reference's. Conditions: bytes. -/
import Derived.Test.YtcnipdbommmkmaaPFnCelInputBx8
import Derived.Test.YtcnipdbommmkmaaVPl
set_option linter.unusedSimpArgs false
set_option linter.unusedVariables false
namespace Go.Proofs.Ytcnipdbommmkmaa.Pure
open Go.RowKit Go.Proofs.Ytcnipdbommmkmaa.PFnCelInputB Go.Proofs.YtcnipdbommmkmaaW.PrintWords Go.Proofs.YtcnipdbommmkmaaW.PrintLast Go.Proofs.YtcnipdbommmkmaaW.PrintMore Go.Proofs.YtcnipdbommmkmaaPl

namespace FnCelInput_
theorem l1In_eq (a b c : Int) : spec_l1In.f a b c = some (decide (b ≤ a ∧ a ≤ c)) := by
  unfold spec_l1In.f
  by_cases h1 : b ≤ a
  · rw [if_pos h1]
    simp [h1]
  · rw [if_neg h1]
    simp [h1]
theorem noughts_loop (d : Nat) : ∀ (k : Nat) (y : List Int), d < k → y.length + d ≤ 1000 → spec_l6Noughts.l0 k (d : Int) y = some (y ++ List.replicate d 0) := by
  induction d with
  | zero =>
    intro k y hk hy
    obtain ⟨k, rfl⟩ : ∃ m, k = m + 1 := ⟨k - 1, by omega⟩
    simp only [spec_l6Noughts.l0]
    rw [if_neg (by omega)]
    simp
  | succ d ih =>
    intro k y hk hy
    obtain ⟨k, rfl⟩ : ∃ m, k = m + 1 := ⟨k - 1, by omega⟩
    simp only [spec_l6Noughts.l0]
    rw [if_pos (by omega), if_pos (by omega), wrap_in (by omega) (by omega), show ((d + 1 : Nat) : Int) - 1 = (d : Int) by omega, ih k (y ++ [0]) (by omega) (by rw [List.length_append, List.length_singleton]; omega), List.append_assoc]
    rfl
theorem noughts_eq (a : Int) (h0 : 0 ≤ a) (h1 : a ≤ 100) (k : Nat) (hk : 101 ≤ k) : spec_l6Noughts.f k a = some (List.replicate a.toNat 0) := by
  obtain ⟨n, rfl⟩ := Int.eq_ofNat_of_zero_le h0
  unfold spec_l6Noughts.f
  rw [noughts_loop n k [] (by omega) (by simp; omega)]
  simp
def Bytes (l : List Int) : Prop := (∀ x ∈ l, (Lit.int .u8 x).wf = true) ∧ l.length ≤ 2000
theorem pick_ok {l : List Int} (hl : Bytes l) {p : Int} (hp0 : 0 ≤ p) (hp1 : p ≤ 1000000) {n : Int} (hn0 : 1 ≤ n) (k : Nat) (hk : 1 ≤ k) :
    ∃ r, spec_l30Rd_pick.f k l p n = some (r, p + 1) ∧ 0 ≤ r ∧ r < n := by
  obtain ⟨k, rfl⟩ : ∃ m, k = m + 1 := ⟨k - 1, by omega⟩
  obtain ⟨hb, hlen⟩ := hl
  unfold spec_l30Rd_pick.f
  rw [if_neg (by omega), wrap_in (by omega) (by omega)]
  simp only [spec_l30Rd_pick.j0]
  by_cases h0 : l.length = 0
  · rw [if_pos (by simp [h0])]
    exact ⟨0, rfl, by omega, by omega⟩
  · rw [if_neg (by simpa using h0), show wrap64 (p + 1 - 1) = p by rw [wrap_in (by omega) (by omega)]; omega]
    by_cases h1 : p < (l.length : Int)
    · rw [if_pos h1, if_pos hp0, if_neg (by omega), wrap_in (by have := rd_u8 hb p; omega) (by have := rd_u8 hb p; omega)]
      have := rd_u8 hb p
      exact ⟨_, rfl, Int.tmod_nonneg _ (by omega), Int.tmod_lt_of_pos _ (by omega)⟩
    · rw [if_neg h1, if_neg (by omega)]
      have hpos : (0 : Int) < (l.length : Int) := by omega
      have m1 : 0 ≤ Int.tmod p (l.length : Int) ∧ Int.tmod p (l.length : Int) < (l.length : Int) := ⟨Int.tmod_nonneg _ hp0, Int.tmod_lt_of_pos _ hpos⟩
      have e7 : wrap64 (p * 7) = p * 7 := wrap_in (by omega) (by omega)
      have e73 : wrap64 (p * 7 + 3) = p * 7 + 3 := wrap_in (by omega) (by omega)
      have m2 : 0 ≤ Int.tmod (p * 7 + 3) (l.length : Int) ∧ Int.tmod (p * 7 + 3) (l.length : Int) < (l.length : Int) := ⟨Int.tmod_nonneg _ (by omega), Int.tmod_lt_of_pos _ hpos⟩
      rw [e7, e73, if_pos m1.1, if_pos m1.2, if_pos m2.1, if_pos m2.2, if_neg (by omega)]
      have b1 := rd_u8 hb (Int.tmod p (l.length : Int))
      have b2 := rd_u8 hb (Int.tmod (p * 7 + 3) (l.length : Int))
      have d0 : 0 ≤ Int.tdiv p (l.length : Int) ∧ Int.tdiv p (l.length : Int) ≤ p := ⟨Int.tdiv_nonneg hp0 (by omega), Int.tdiv_le_self _ hp0⟩
      generalize rd l (Int.tmod p (l.length : Int)) = a at *
      generalize rd l (Int.tmod (p * 7 + 3) (l.length : Int)) = b at *
      generalize Int.tdiv p (l.length : Int) = d at *
      have s1 : wrap64 (wrap64 a * 131) = a * 131 := by rw [wrap_in (x := a) (by omega) (by omega)]; exact wrap_in (by omega) (by omega)
      have s2 : wrap64 (wrap64 b * 1117) = b * 1117 := by rw [wrap_in (x := b) (by omega) (by omega)]; exact wrap_in (by omega) (by omega)
      have s3 : wrap64 (p * 29) = p * 29 := wrap_in (by omega) (by omega)
      have s4 : wrap64 (wrap64 d * 53) = d * 53 := by rw [wrap_in (x := d) (by omega) (by omega)]; exact wrap_in (by omega) (by omega)
      rw [s1, s2, s3, s4, wrap_in (x := a * 131 + b * 1117) (by omega) (by omega), wrap_in (x := a * 131 + b * 1117 + p * 29) (by omega) (by omega), wrap_in (x := a * 131 + b * 1117 + p * 29 + d * 53) (by omega) (by omega)]
      have hx0 : 0 ≤ a * 131 + b * 1117 + p * 29 + d * 53 := by omega
      have hx1 : a * 131 + b * 1117 + p * 29 + d * 53 < 1000000000 := by omega
      generalize a * 131 + b * 1117 + p * 29 + d * 53 = x at *
      have q0 : 0 ≤ Int.tdiv x 64 ∧ Int.tdiv x 64 ≤ x := ⟨Int.tdiv_nonneg hx0 (by omega), Int.tdiv_le_self _ hx0⟩
      rw [wrap_in (x := Int.tdiv x 64) (by omega) (by omega)]
      have := xor_nonneg x (Int.tdiv x 64) hx0 (by omega) q0.1 (by omega)
      exact ⟨_, rfl, Int.tmod_nonneg _ this.1, Int.tmod_lt_of_pos _ (by omega)⟩
theorem open_ok (l : List Int) (hl : ∀ x ∈ l, (Lit.int .u8 x).wf = true) : ∃ m, spec_l30Open.f l = some (m, 0) ∧ Bytes m := by
  unfold spec_l30Open.f
  by_cases h : (l.length : Int) > 2000
  · rw [if_pos h, if_pos (by omega)]
    exact ⟨_, rfl, fun x hx => hl x (List.mem_of_mem_take hx), by rw [List.length_take]; omega⟩
  · rw [if_neg h]
    exact ⟨_, rfl, hl, by omega⟩
open Go.Proofs.YtcnipdbommmkmaaVmOk
theorem all_range (l : List Int) (f : Int → Bool) : ((List.range l.length).all fun j => f (rd l (j : Int))) = l.all f := by
  rw [Bool.eq_iff_iff, List.all_eq_true, List.all_eq_true]
  constructor
  · intro h x hx
    obtain ⟨i, hi, rfl⟩ := List.mem_iff_getElem.mp hx
    have := h i (List.mem_range.mpr hi)
    rwa [rd_nat l i hi] at this
  · intro h i hi
    have hi := List.mem_range.mp hi
    rw [rd_nat l i hi]
    exact h _ (List.getElem_mem hi)
theorem bytes_eq (l : List Int) (n : Nat) (hn : n ≤ 100) (k : Nat) (hk : 101 ≤ k) : spec_l6Bytes.f k l (n : Int) = some (decide (l.length = n) && l.all byteB) := by
  unfold spec_l6Bytes.f
  by_cases h : l.length = n
  · rw [if_pos (by omega), decide_eq_true h, Bool.true_and, ← all_range l byteB]
    exact all_loop (fun k i => spec_l6Bytes.l0 k l i) l.length (fun j => byteB (rd l (j : Int))) (fun k i hi => by
      simp only [spec_l6Bytes.l0]
      rw [if_pos (by omega), if_pos (by omega), l1In_eq, wrap_nat (by omega)]
      rfl) (fun k => by
      simp only [spec_l6Bytes.l0]
      rw [if_neg (by omega)]) k (by omega)
  · rw [if_neg (by omega), decide_eq_false h, Bool.false_and]
theorem specVmOk_eq (pc h : Int) (l1 l2 : List Int) (k : Nat) (hk : 101 ≤ k) : spec_VmOk.f k pc l1 l2 h = some (okB pc l1 l2 h) := by
  have e1 := bytes_eq l1 4 (by omega) k hk
  have e2 := bytes_eq l2 8 (by omega) k hk
  have eh : (h == 0 || (h == 1 || h == 2)) = decide (0 ≤ h ∧ h ≤ 2) := by
    rw [Bool.eq_iff_iff]
    simp
    omega
  unfold spec_VmOk.f okB
  rw [l1In_eq]
  simp only [Option.bind_some]
  rw [show ((4 : Nat) : Int) = 4 from rfl] at e1
  rw [show ((8 : Nat) : Int) = 8 from rfl] at e2
  rw [e1]
  simp only [Option.bind_some]
  rw [e2]
  simp only [Option.bind_some, l1In_eq, eh]
  cases decide (0 ≤ pc ∧ pc ≤ 24) <;> cases decide (l1.length = 4) <;> cases decide (l2.length = 8) <;> cases l1.all byteB <;> cases l2.all byteB <;> rfl
def celB (pc : Int) (l1 l2 : List Int) (h : Int) (l3 : List Int) : Bool := if okB pc l1 l2 h = true then decide ((l3.length : Int) ≤ 6) else false
theorem specCelOk_eq (pc h : Int) (l1 l2 l3 : List Int) (k : Nat) (hk : 101 ≤ k) : spec_CelOk.f k pc l1 l2 h l3 = some (celB pc l1 l2 h l3) := by
  unfold spec_CelOk.f celB
  rw [specVmOk_eq _ _ _ _ k hk, Option.bind_some]
  cases okB pc l1 l2 h <;> rfl
theorem implCelOk_eq (pc h : Int) (l1 l2 l3 : List Int) : impl_CelOk.f pc l1 l2 h l3 = some (celB pc l1 l2 h l3) := by
  unfold impl_CelOk.f celB
  rw [show impl_VmOk.f pc l1 l2 h = some (okB pc l1 l2 h) from rfl, Option.bind_some]
  cases okB pc l1 l2 h <;> rfl
def inV (pc : Int) (l1 l2 : List Int) (h : Int) (l3 : List Int) (n : Int) : Int × List Int × List Int × Int × List Int × Bool :=
  if celB pc l1 l2 h l3 = true then (if 0 ≤ n ∧ n ≤ 255 then (if l3.length = 6 then (pc, l1, l2, h, l3, false) else (pc, l1, l2, h, l3 ++ [n % 256], true)) else (0, [], [], 0, [], false)) else (0, [], [], 0, [], false)
theorem six {pc h : Int} {l1 l2 l3 : List Int} (hc : celB pc l1 l2 h l3 = true) : l3.length ≤ 6 := by
  unfold celB at hc
  by_cases ho : okB pc l1 l2 h = true
  · rw [if_pos ho] at hc
    have := of_decide_eq_true hc
    omega
  · rw [if_neg ho] at hc
    exact absurd hc (by simp)
theorem implIn_eq (pc h n : Int) (l1 l2 l3 : List Int) (h1 : l1.length ≤ 100) (h2 : l2.length ≤ 100) (h3 : l3.length ≤ 100) (k : Nat) (hk : 101 ≤ k) : impl_CelInput.f k pc l1 l2 h l3 n = some (inV pc l1 l2 h l3 n) := by
  obtain ⟨k, rfl⟩ : ∃ m, k = m + 1 := ⟨k - 1, by omega⟩
  have cp : impl_celCopy.f pc l1 l2 h l3 = some (pc, l1, l2, h, l3) := by
    unfold impl_celCopy.f impl_vmCopy.f impl_vmNumbers.f impl_bytCopy.f
    rw [if_pos (by omega), Option.bind_some, if_pos (by omega), Option.bind_some, if_pos (by omega)]
    rfl
  have by_ : impl_vmByte.f n = some (decide (0 ≤ n ∧ n ≤ 255)) := by
    unfold impl_vmByte.f
    by_cases a : n ≥ 0
    · rw [if_pos a]
      congr 1
      rw [decide_eq_decide]
      omega
    · rw [if_neg a, decide_eq_false (by omega)]
  unfold impl_CelInput.f inV
  rw [implCelOk_eq]
  simp only [Option.bind_some, impl_CelInput.j0]
  by_cases hc : celB pc l1 l2 h l3 = true
  · have h6 := six hc
    rw [if_pos hc, if_pos hc, by_]
    simp only [Option.bind_some]
    by_cases hn : 0 ≤ n ∧ n ≤ 255
    · rw [decide_eq_true hn, if_neg (by simp), if_pos hn, cp]
      simp only [Option.bind_some]
      by_cases hl : l3.length = 6
      · rw [if_pos (by omega), if_pos hl]
      · rw [if_neg (by omega), if_neg hl, if_pos (by omega)]
    · rw [decide_eq_false hn, if_pos (by simp), if_neg hn]
  · rw [if_neg hc, if_neg hc, if_pos trivial]
theorem specIn_eq (pc h n : Int) (l1 l2 l3 : List Int) (h1 : l1.length ≤ 100) (h2 : l2.length ≤ 100) (h3 : l3.length ≤ 100) (k : Nat) (hk : 202 ≤ k) : spec_CelInput.f k pc l1 l2 h l3 n = some (inV pc l1 l2 h l3 n) := by
  obtain ⟨k, rfl⟩ : ∃ m, k = m + 1 := ⟨k - 1, by omega⟩
  have cp : spec_l14Copy.f pc l1 l2 h l3 = some (pc, l1, l2, h, l3) := by
    unfold spec_l14Copy.f spec_l6Copy.f spec_l2Copy.f
    simp only [Option.bind_some, List.nil_append, List.length_nil, Nat.zero_add]
    rw [if_pos (by omega), if_pos (by omega)]
    simp only [Option.bind_some]
    rw [if_pos (by omega)]
    rfl
  unfold spec_CelInput.f inV
  rw [specCelOk_eq _ _ _ _ _ _ (by omega)]
  simp only [Option.bind_some, spec_CelInput.j0]
  by_cases hc : celB pc l1 l2 h l3 = true
  · have h6 := six hc
    rw [if_pos hc, if_pos hc, l1In_eq]
    simp only [Option.bind_some]
    by_cases hn : 0 ≤ n ∧ n ≤ 255
    · rw [decide_eq_true hn, if_neg (by simp), if_pos hn, cp]
      simp only [Option.bind_some]
      by_cases hl : l3.length = 6
      · rw [if_pos (by omega), if_pos hl]
      · rw [if_neg (by omega), if_neg hl, if_pos (by omega)]
    · rw [decide_eq_false hn, if_pos (by simp), if_neg hn]
  · rw [if_neg hc, if_neg hc, if_pos trivial]
theorem caInts_self (l : List Int) (hl : l.length ≤ 100) (k : Nat) (hk : 101 ≤ k) : laws_caInts.f k l l = some true := by
  unfold laws_caInts.f
  rw [if_pos rfl]
  exact all_loop_true (fun k i => laws_caInts.l0 k l l i) l.length (fun k i hi => by
    simp only [laws_caInts.l0]
    rw [if_pos (by omega), if_pos (by omega), if_pos (by omega), if_pos trivial, wrap_nat (by omega)]) (fun k => by
    simp only [laws_caInts.l0]
    rw [if_neg (by omega)]) k (by omega)
theorem caState_self (pc h : Int) (l1 l2 : List Int) (h1 : l1.length ≤ 100) (h2 : l2.length ≤ 100) (k : Nat) (hk : 101 ≤ k) : laws_caState.f k pc l1 l2 h pc l1 l2 h = some true := by
  unfold laws_caState.f
  rw [if_pos rfl, if_pos rfl, caInts_self _ h1 k hk, Option.bind_some, if_pos rfl, caInts_self _ h2 k hk, Option.bind_some]
theorem caBytes_self (l : List Int) : laws_caBytes.f l l = some true := by
  unfold laws_caBytes.f
  simp
theorem caCell_self (pc h : Int) (l1 l2 l3 : List Int) (h1 : l1.length ≤ 100) (h2 : l2.length ≤ 100) (k : Nat) (hk : 101 ≤ k) : laws_caCell.f k pc l1 l2 h l3 pc l1 l2 h l3 = some true := by
  unfold laws_caCell.f
  rw [caState_self _ _ _ _ h1 h2 k hk, Option.bind_some, if_pos rfl, caBytes_self, Option.bind_some]
theorem inV_small (pc h n : Int) (l1 l2 l3 : List Int) (h1 : l1.length ≤ 100) (h2 : l2.length ≤ 100) : (inV pc l1 l2 h l3 n).2.1.length ≤ 100 ∧ (inV pc l1 l2 h l3 n).2.2.1.length ≤ 100 := by
  unfold inV
  split
  · split
    · split <;> exact ⟨h1, h2⟩
    · exact ⟨by simp, by simp⟩
  · exact ⟨by simp, by simp⟩
theorem bytes_loop {s : List Int} (hs : Bytes s) : ∀ (d k : Nat) (y : List Int) (p : Int), y.length + d ≤ 100 → 0 ≤ p → p + d ≤ 1000000 → d + 1 < k →
    ∃ r, spec_l30Bytes.l0 k (d : Int) y s p = some (r, p + d) ∧ r.length = y.length + d := by
  intro d
  induction d with
  | zero =>
    intro k y p hl hp0 hp1 hk
    obtain ⟨k, rfl⟩ : ∃ m, k = m + 1 := ⟨k - 1, by omega⟩
    simp only [spec_l30Bytes.l0]
    rw [if_neg (by omega)]
    exact ⟨y, by simp, rfl⟩
  | succ d ih =>
    intro k y p hl hp0 hp1 hk
    obtain ⟨k, rfl⟩ : ∃ m, k = m + 1 := ⟨k - 1, by omega⟩
    simp only [spec_l30Bytes.l0]
    obtain ⟨a, ea, ha⟩ := pick_ok hs hp0 (by omega) (n := 256) (by omega) k (by omega)
    rw [if_pos (by omega), ea]
    simp only [Option.bind_some]
    rw [if_pos (by omega), show wrap64 (((d + 1 : Nat) : Int) - 1) = (d : Int) by rw [wrap_in (by omega) (by omega)]; omega]
    obtain ⟨r, e, hr⟩ := ih k (y ++ [a % 256]) (p + 1) (by rw [List.length_append, List.length_singleton]; omega) (by omega) (by omega) (by omega)
    refine ⟨r, ?_, ?_⟩
    · rw [e, show p + 1 + (d : Int) = p + ((d + 1 : Nat) : Int) by omega]
    · rw [hr, List.length_append, List.length_singleton]
      omega
def Fine (r : Option (Int × List Int × List Int × Int × Int)) (p : Int) : Prop := ∃ pc l1 l2 h q, r = some (pc, l1, l2, h, q) ∧ l1.length ≤ 9 ∧ l2.length ≤ 9 ∧ 0 ≤ q ∧ q ≤ p + 10
theorem state_end {s : List Int} (hs : Bytes s) {p pc h : Int} {l1 l2 : List Int} (hp0 : 0 ≤ p) (hp1 : p ≤ 900000) (h1 : l1.length = 4) (h2 : l2.length = 8) (k : Nat) (hk : 2 ≤ k) : Fine (spec_l31State.j2 k s p pc l1 l2 h) p := by
  obtain ⟨k, rfl⟩ : ∃ m, k = m + 1 := ⟨k - 1, by omega⟩
  simp only [spec_l31State.j2]
  obtain ⟨a, ea, ha⟩ := pick_ok hs hp0 (by omega) (n := 24) (by omega) k (by omega)
  obtain ⟨b, eb, hb⟩ := pick_ok hs (p := p + 1) (by omega) (by omega) (n := 3) (by omega) k (by omega)
  obtain ⟨c, ec, hc⟩ := pick_ok hs (p := p + 1) (by omega) (by omega) (n := 4) (by omega) k (by omega)
  obtain ⟨d, ed, hd⟩ := pick_ok hs (p := p + 1 + 1) (by omega) (by omega) (n := 2) (by omega) k (by omega)
  obtain ⟨e, ee, he⟩ := pick_ok hs (p := p + 1) (by omega) (by omega) (n := 2) (by omega) k (by omega)
  obtain ⟨f, ef, hf⟩ := pick_ok hs (p := p + 1) (by omega) (by omega) (n := 8) (by omega) k (by omega)
  rw [ea]
  simp only [Option.bind_some]
  by_cases c0 : a = 0
  · rw [if_pos c0, eb]
    simp only [Option.bind_some]
    rw [if_pos hb.1, if_pos (by simpa using hb.2)]
    exact ⟨_, _, _, _, _, rfl, by omega, by omega, by omega, by omega⟩
  · rw [if_neg c0]
    by_cases c1 : a = 1
    · rw [if_pos c1, ec]
      simp only [Option.bind_some]
      rw [ed]
      simp only [Option.bind_some]
      rw [if_pos hd.1, if_pos (by simpa using hd.2), if_pos hc.1, if_pos (by omega)]
      exact ⟨_, _, _, _, _, rfl, by rw [List.length_set]; omega, by omega, by omega, by omega⟩
    · rw [if_neg c1]
      by_cases c2 : a = 2
      · rw [if_pos c2, if_pos (by omega)]
        exact ⟨_, _, _, _, _, rfl, by omega, by rw [List.length_append, List.length_singleton]; omega, by omega, by omega⟩
      · rw [if_neg c2]
        by_cases c3 : a = 3
        · rw [if_pos c3, ee]
          simp only [Option.bind_some]
          rw [if_pos he.1, if_pos (by simpa using he.2)]
          exact ⟨_, _, _, _, _, rfl, by omega, by omega, by omega, by omega⟩
        · rw [if_neg c3]
          by_cases c4 : a = 4
          · rw [if_pos c4, ef]
            simp only [Option.bind_some]
            rw [if_pos hf.1, if_pos (by omega)]
            exact ⟨_, _, _, _, _, rfl, by omega, by rw [List.length_set]; omega, by omega, by omega⟩
          · rw [if_neg c4]
            exact ⟨_, _, _, _, _, rfl, by omega, by omega, by omega, by omega⟩
theorem Fine.up {r : Option (Int × List Int × List Int × Int × Int)} {p : Int} (h : Fine r p) {q : Int} (hq : p ≤ q) : Fine r q := by
  obtain ⟨pc, l1, l2, h, t, e, a, b, c, d⟩ := h
  exact ⟨pc, l1, l2, h, t, e, a, b, c, by omega⟩
theorem state_l1 {s : List Int} (hs : Bytes s) : ∀ (d k i : Nat) (p pc h : Int) (l1 l2 : List Int), i + d = 8 → 0 ≤ p → p + d ≤ 800000 → l1.length = 4 → l2.length = 8 → d + 3 < k → Fine (spec_l31State.l1 k (i : Int) s p pc l1 l2 h) (p + d + 10) := by
  intro d
  induction d with
  | zero =>
    intro k i p pc h l1 l2 hi hp0 hp1 h1 h2 hk
    obtain ⟨k, rfl⟩ : ∃ m, k = m + 1 := ⟨k - 1, by omega⟩
    simp only [spec_l31State.l1]
    obtain ⟨a, ea, ha⟩ := pick_ok hs hp0 (by omega) (n := 8) (by omega) k (by omega)
    obtain ⟨b, eb, hb⟩ := pick_ok hs (p := p + 1) (by omega) (by omega) (n := 3) (by omega) k (by omega)
    rw [if_neg (by omega), ea]
    simp only [Option.bind_some]
    by_cases c0 : a = 0
    · rw [if_pos c0, eb]
      simp only [Option.bind_some]
      exact (state_end hs (by omega) (by omega) h1 h2 k (by omega)).up (by omega)
    · rw [if_neg c0]
      exact (state_end hs (by omega) (by omega) h1 h2 k (by omega)).up (by omega)
  | succ d ih =>
    intro k i p pc h l1 l2 hi hp0 hp1 h1 h2 hk
    obtain ⟨k, rfl⟩ : ∃ m, k = m + 1 := ⟨k - 1, by omega⟩
    simp only [spec_l31State.l1]
    obtain ⟨a, ea, ha⟩ := pick_ok hs hp0 (by omega) (n := 256) (by omega) k (by omega)
    rw [if_pos (by omega), ea]
    simp only [Option.bind_some]
    rw [if_pos (by omega), if_pos (by omega), wrap_nat (by omega)]
    exact (ih k (i + 1) (p + 1) pc h l1 _ (by omega) (by omega) (by omega) h1 (by rw [List.length_set]; exact h2) (by omega)).up (by omega)
theorem state_l0 {s : List Int} (hs : Bytes s) : ∀ (d k i : Nat) (p pc h : Int) (l1 l2 : List Int), i + d = 4 → 0 ≤ p → p + 2 * d ≤ 700000 → l1.length = 4 → l2.length = 8 → d + 20 < k → Fine (spec_l31State.l0 k (i : Int) s p pc l1 l2 h) (p + 2 * d + 30) := by
  intro d
  induction d with
  | zero =>
    intro k i p pc h l1 l2 hi hp0 hp1 h1 h2 hk
    obtain ⟨k, rfl⟩ : ∃ m, k = m + 1 := ⟨k - 1, by omega⟩
    simp only [spec_l31State.l0]
    rw [if_neg (by omega)]
    exact (state_l1 hs 8 k 0 p pc h l1 l2 (by omega) hp0 (by omega) h1 h2 (by omega)).up (by omega)
  | succ d ih =>
    intro k i p pc h l1 l2 hi hp0 hp1 h1 h2 hk
    obtain ⟨k, rfl⟩ : ∃ m, k = m + 1 := ⟨k - 1, by omega⟩
    simp only [spec_l31State.l0]
    obtain ⟨a, ea, ha⟩ := pick_ok hs hp0 (by omega) (n := 256) (by omega) k (by omega)
    obtain ⟨b, eb, hb⟩ := pick_ok hs (p := p + 1) (by omega) (by omega) (n := 7) (by omega) k (by omega)
    rw [if_pos (by omega), ea]
    simp only [Option.bind_some]
    rw [eb]
    simp only [Option.bind_some]
    rw [if_pos hb.1, if_pos (by simpa using hb.2), if_pos (by omega), if_pos (by omega), wrap_nat (by omega)]
    exact (ih k (i + 1) (p + 1 + 1) pc h _ l2 (by omega) (by omega) (by omega) (by rw [List.length_set]; exact h1) h2 (by omega)).up (by omega)
theorem draw_ok (l : List Int) (hl : ∀ x ∈ l, (Lit.int .u8 x).wf = true) (k : Nat) (hk : 200 ≤ k) : ∃ pc l1 l2 h l3 n, spec_DrawCelInput.f k l = some (pc, l1, l2, h, l3, n) ∧ l1.length ≤ 9 ∧ l2.length ≤ 9 ∧ l3.length ≤ 10 := by
  obtain ⟨m, em, hm⟩ := open_ok l hl
  unfold spec_DrawCelInput.f spec_l31Cell.f spec_l31State.f spec_VmNew.f spec_l30Bytes.f
  obtain ⟨a, ea, ha⟩ := pick_ok hm (p := 0) (by omega) (by omega) (n := 10) (by omega) k (by omega)
  rw [em]
  simp only [Option.bind_some]
  rw [noughts_eq 4 (by omega) (by omega) k (by omega)]
  simp only [Option.bind_some]
  rw [noughts_eq 8 (by omega) (by omega) k (by omega)]
  simp only [Option.bind_some]
  rw [show wrap64 (9 + 1) = 10 from wrap_in (by omega) (by omega), ea]
  simp only [Option.bind_some]
  obtain ⟨pc, l1, l2, h, q, e, h1, h2, q0, q1⟩ := state_l0 hm 4 k 0 (0 + 1) a 0 (List.replicate (4 : Int).toNat 0) (List.replicate (8 : Int).toNat 0) (by omega) (by omega) (by omega) (by simp) (by simp) (by omega)
  rw [show ((0 : Nat) : Int) = 0 from rfl] at e
  rw [e]
  simp only [Option.bind_some]
  obtain ⟨b, eb, hb⟩ := pick_ok hm (p := q) (by omega) (by omega) (n := 6) (by omega) k (by omega)
  rw [eb]
  simp only [Option.bind_some]
  rw [if_pos hb.1, if_pos (by simpa using hb.2)]
  obtain ⟨n, en, hn⟩ : ∃ n : Nat, rd [0, 1, 5, 6, 6, 7] b = (n : Int) ∧ n ≤ 7 := by
    obtain ⟨m, rfl⟩ := Int.eq_ofNat_of_zero_le hb.1
    have : m < 6 := by omega
    match m, this with
    | 0, _ => exact ⟨0, rfl, by omega⟩
    | 1, _ => exact ⟨1, rfl, by omega⟩
    | 2, _ => exact ⟨5, rfl, by omega⟩
    | 3, _ => exact ⟨6, rfl, by omega⟩
    | 4, _ => exact ⟨6, rfl, by omega⟩
    | 5, _ => exact ⟨7, rfl, by omega⟩
  rw [en]
  obtain ⟨l3, e3, h3⟩ := bytes_loop hm n k [] (q + 1) (by simp; omega) (by omega) (by omega) (by omega)
  rw [e3]
  simp only [Option.bind_some]
  obtain ⟨c, ec, hc⟩ := pick_ok hm (p := q + 1 + (n : Int)) (by omega) (by omega) (n := 256) (by omega) k (by omega)
  rw [ec]
  simp only [Option.bind_some]
  obtain ⟨d, ed, hd⟩ := pick_ok hm (p := q + 1 + (n : Int) + 1) (by omega) (by omega) (n := 5) (by omega) k (by omega)
  rw [ed]
  simp only [Option.bind_some]
  rw [if_pos hd.1, if_pos (by simpa using hd.2)]
  exact ⟨_, _, _, _, _, _, rfl, h1, h2, by simp at h3; omega⟩
theorem cel_new : (impl_CelNew.f).bind (fun bt398 => (impl_CelOk.f bt398.1 bt398.2.1 bt398.2.2.1 bt398.2.2.2.1 bt398.2.2.2.2).bind fun t409 => some t409) = some true := by decide +kernel
end FnCelInput_
open FnCelInput_
open Go.Proofs.YtcnipdbommmkmaaVmOk
theorem FnCelInput : laws_FnCelInput.Pure := by
  intro l hm hw
  obtain ⟨K, hK⟩ : ∃ K : Nat, 300 ≤ K := ⟨300, Nat.le_refl _⟩
  refine ⟨K + 1 + 1, ?_⟩
  unfold laws_FnCelInput.f
  by_cases hb : (l.length : Int) > 1048576
  · rw [if_pos hb]
  · rw [if_neg hb]
    obtain ⟨pc, l1, l2, h, l3, n, e, h1, h2, h3⟩ := draw_ok l hw (K + 1 + 1) (by omega)
    rw [e]
    simp only [Option.bind_some]
    rw [implIn_eq pc h n l1 l2 l3 (by omega) (by omega) (by omega) _ (by omega)]
    simp only [Option.bind_some]
    rw [specIn_eq pc h n l1 l2 l3 (by omega) (by omega) (by omega) _ (by omega)]
    simp only [Option.bind_some, bne_self_eq_false, Bool.false_eq_true, if_false]
    obtain ⟨s1, s2⟩ := inV_small pc h n l1 l2 l3 (by omega) (by omega)
    rw [caCell_self _ _ _ _ _ s1 s2 _ (by omega)]
    simp only [Option.bind_some, Bool.not_true, laws_FnCelInput.j0, Bool.false_eq_true, if_false]
    rw [specCelOk_eq _ _ _ _ _ _ (by omega)]
    simp only [Option.bind_some]
    unfold inV
    by_cases hc : celB pc l1 l2 h l3 = true
    · rw [if_pos hc, if_pos hc]
      by_cases hn : 0 ≤ n ∧ n ≤ 255
      · rw [if_neg (by omega), decide_eq_false (show ¬ n > 255 by omega), if_pos hn]
        by_cases h6 : l3.length = 6
        · rw [if_pos h6]
          simp only [laws_FnCelInput.j1, Bool.false_eq_true, if_false]
          rw [caCell_self _ _ _ _ _ (by omega) (by omega) _ (by omega), Option.bind_some, if_pos rfl, h6]
          rfl
        · rw [if_neg h6]
          simp only [laws_FnCelInput.j1, Bool.false_eq_true, if_false, if_true]
          rw [caState_self _ _ _ _ (by omega) (by omega) _ (by omega)]
          simp only [Option.bind_some, if_true, List.nil_append, List.length_nil, Nat.zero_add, List.length_singleton]
          rw [if_pos (by omega)]
          try simp only [Option.bind_some]
          rw [if_pos (by omega), caBytes_self]
          rfl
      · rw [if_neg hn]
        have J : ∀ b, b = true → laws_FnCelInput.j1 (K + 1) n false b pc l1 l2 h l3 0 [] [] 0 [] = some true := by
          rintro b rfl
          simp only [laws_FnCelInput.j1, if_true, Bool.false_eq_true, if_false]
          exact cel_new
        by_cases n0 : n < 0
        · rw [if_pos n0]
          exact J _ rfl
        · rw [if_neg n0]
          exact J _ (decide_eq_true (by omega))
    · rw [if_neg hc, if_neg hc]
      simp only [laws_FnCelInput.j1, if_true, Bool.false_eq_true, if_false]
      exact cel_new

end Go.Proofs.Ytcnipdbommmkmaa.Pure
