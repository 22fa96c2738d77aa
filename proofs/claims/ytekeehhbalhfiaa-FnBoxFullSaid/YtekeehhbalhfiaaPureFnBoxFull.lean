/- The pure statement of FnBoxFull: a message that a box was given is in it behind the others, if there was room, and none is lost. Conditions: bytes. -/
import Derived.Test.YtekeehhbalhfiaaPFnBoxFullx6
import Derived.Test.YtekeehhbalhfiaaPl
import Derived.Test.YtekeehhbalhfiaaBoxTold
set_option linter.unusedSimpArgs false
set_option linter.unusedVariables false
namespace Go.Proofs.Ytekeehhbalhfiaa.Pure
open Go.RowKit Go.Proofs.Ytekeehhbalhfiaa.PFnBoxFull Go.Proofs.YtekeehhbalhfiaaW.PrintWords Go.Proofs.YtekeehhbalhfiaaW.PrintLast Go.Proofs.YtekeehhbalhfiaaW.PrintMore Go.Proofs.YtekeehhbalhfiaaPl

namespace FnBoxFull_
theorem l1In_eq (a b c : Int) : spec_l1In.f a b c = some (decide (b ≤ a ∧ a ≤ c)) := by
  unfold spec_l1In.f
  by_cases h1 : b ≤ a
  · rw [if_pos h1]
    simp [h1]
  · rw [if_neg h1]
    simp [h1]
def boxOkB (d : Int) (l : List (List Int)) : Bool := decide (1 ≤ d ∧ d ≤ 4) && (decide ((l.length : Int) ≤ d) && (List.range l.length).all fun j => decide ((rd_L1 l (j : Int)).length ≤ 8))
theorem implBoxOk_eq (d : Int) (l : List (List Int)) (hl : l.length ≤ 1048576) (k : Nat) (hk : l.length + 1 < k) : impl_BoxOk.f k d l = some (boxOkB d l) := by
  obtain ⟨k, rfl⟩ : ∃ m, k = m + 1 := ⟨k - 1, by omega⟩
  unfold impl_BoxOk.f boxOkB
  simp only [impl_BoxOk.j0]
  by_cases h1 : d < 1
  · rw [if_pos h1, if_pos trivial]
    simp [show ¬ 1 ≤ d by omega]
  · rw [if_neg h1]
    by_cases h2 : d > 4
    · rw [if_pos h2, if_pos trivial]
      simp [show ¬ d ≤ 4 by omega]
    · rw [if_neg h2, decide_eq_true (show 1 ≤ d ∧ d ≤ 4 by omega), Bool.true_and]
      by_cases h3 : (l.length : Int) > d
      · rw [decide_eq_true h3, if_pos rfl, decide_eq_false (by omega), Bool.false_and]
      · rw [decide_eq_false h3, if_neg (by simp), decide_eq_true (show (l.length : Int) ≤ d by omega), Bool.true_and]
        exact all_loop (fun k i => impl_BoxOk.l0 k l (l.length : Int) i) l.length (fun j => decide ((rd_L1 l (j : Int)).length ≤ 8)) (fun k i hi => by
          simp only [impl_BoxOk.l0, impl_BytMessage.f]
          rw [if_pos (by omega), if_pos (by omega), if_pos (by omega), wrap_nat (by omega)]
          simp only [Option.bind_some]
          by_cases c : (rd_L1 l (i : Int)).length ≤ 8
          · rw [decide_eq_true (show ((rd_L1 l (i : Int)).length : Int) ≤ 8 by omega), decide_eq_true c]
          · rw [decide_eq_false (show ¬ ((rd_L1 l (i : Int)).length : Int) ≤ 8 by omega), decide_eq_false c]) (fun k => by
          simp only [impl_BoxOk.l0]
          rw [if_neg (by omega)]) k (by omega)
theorem specBoxOk_eq (d : Int) (l : List (List Int)) (hl : l.length ≤ 1048576) (k : Nat) (hk : l.length + 1 < k) : spec_BoxOk.f k d l = some (boxOkB d l) := by
  obtain ⟨k, rfl⟩ : ∃ m, k = m + 1 := ⟨k - 1, by omega⟩
  unfold spec_BoxOk.f boxOkB
  rw [l1In_eq]
  simp only [Option.bind_some, spec_BoxOk.j0]
  by_cases h1 : 1 ≤ d ∧ d ≤ 4
  · rw [decide_eq_true h1, if_pos rfl, Bool.true_and]
    by_cases h3 : (l.length : Int) > d
    · rw [decide_eq_true h3, if_pos rfl, decide_eq_false (by omega), Bool.false_and]
    · rw [decide_eq_false h3, if_neg (by simp), decide_eq_true (show (l.length : Int) ≤ d by omega), Bool.true_and]
      exact all_loop (fun k i => spec_BoxOk.l0 k i d l) l.length (fun j => decide ((rd_L1 l (j : Int)).length ≤ 8)) (fun k i hi => by
        simp only [spec_BoxOk.l0, spec_BytMessage.f]
        rw [if_pos (by omega), if_pos (by omega), wrap_nat (by omega)]
        simp only [Option.bind_some]
        by_cases c : (rd_L1 l (i : Int)).length ≤ 8
        · rw [decide_eq_true (show ((rd_L1 l (i : Int)).length : Int) ≤ 8 by omega), decide_eq_true c]
        · rw [decide_eq_false (show ¬ ((rd_L1 l (i : Int)).length : Int) ≤ 8 by omega), decide_eq_false c]) (fun k => by
        simp only [spec_BoxOk.l0]
        rw [if_neg (by omega)]) k (by omega)
  · rw [decide_eq_false h1, if_neg (by simp), if_pos trivial, Bool.false_and]
open Go.Proofs
theorem copy2_eq (m : List Int) (hm : m.length ≤ 9) : spec_l2Copy.f m = some m := by
  unfold spec_l2Copy.f
  rw [Option.bind_some, if_pos (by simp; omega)]
  rfl
theorem rdX_nat (L : List (List Int)) (i : Nat) (h : i < L.length) : rd_L1 L (i : Int) = L[i] := by
  unfold rd_L1
  rw [show ((i : Int)).toNat = i from rfl, List.getD_eq_getElem?_getD, List.getElem?_eq_getElem h]
  rfl
theorem copy7_loop (dep : Int) (L : List (List Int)) (h8 : ∀ x ∈ L, x.length ≤ 9) (hL : L.length ≤ 10) : ∀ (d k i : Nat) (y : List (List Int)), i + d = L.length → y.length = i → d < k → spec_l7Copy.l0 k y (i : Int) dep L = some (dep, y ++ L.drop i) := by
  intro d
  induction d with
  | zero =>
    intro k i y hi hy hk
    obtain ⟨k, rfl⟩ : ∃ q, k = q + 1 := ⟨k - 1, by omega⟩
    simp only [spec_l7Copy.l0]
    rw [if_neg (by omega), List.drop_of_length_le (by omega), List.append_nil]
  | succ d ih =>
    intro k i y hi hy hk
    obtain ⟨k, rfl⟩ : ∃ q, k = q + 1 := ⟨k - 1, by omega⟩
    have hlt : i < L.length := by omega
    simp only [spec_l7Copy.l0]
    rw [if_pos (by omega), if_pos (by omega), rdX_nat L i hlt, copy2_eq _ (h8 _ (List.getElem_mem hlt)), Option.bind_some, if_pos (by omega), wrap_nat (by omega), ih k (i + 1) _ (by omega) (by rw [List.length_append, List.length_singleton]; omega) (by omega), List.drop_eq_getElem_cons hlt, List.append_assoc]
    rfl
theorem copy7_eq (dep : Int) (L : List (List Int)) (h8 : ∀ x ∈ L, x.length ≤ 9) (hL : L.length ≤ 10) (k : Nat) (hk : 20 ≤ k) : spec_l7Copy.f k dep L = some (dep, L) := by
  have := copy7_loop dep L h8 hL L.length k 0 [] (by omega) rfl (by omega)
  unfold spec_l7Copy.f
  simpa using this
theorem putZ_eq (dep : Int) (L : List (List Int)) (m : List Int) (hL : L.length ≤ 10) (hm : m.length ≤ 9) : YtekeehhbalhfiaaBoxTold.putZ dep L m = some (if boxOkB dep L = true ∧ m.length ≤ 8 then (if (L.length : Int) ≥ dep then (dep, L, false) else (dep, L ++ [m], true)) else (0, [], false)) := by
  unfold YtekeehhbalhfiaaBoxTold.putZ
  rw [if_pos ⟨by omega, by omega⟩]
  show (if boxOkB dep L = true ∧ m.length ≤ 8 then _ else _) = _
  by_cases h : boxOkB dep L = true ∧ m.length ≤ 8
  · rw [if_pos h, if_pos h]
    by_cases h2 : (L.length : Int) ≥ dep
    · rw [if_pos h2, if_pos h2]
    · rw [if_neg h2, if_neg h2]
  · rw [if_neg h, if_neg h]
theorem ok_parts {d : Int} {L : List (List Int)} (h : boxOkB d L = true) : 1 ≤ d ∧ d ≤ 4 ∧ (L.length : Int) ≤ d ∧ ∀ x ∈ L, x.length ≤ 8 := YtekeehhbalhfiaaBoxDo.ok_parts h
theorem ok_of {d : Int} {L : List (List Int)} (h1 : 1 ≤ d) (h2 : d ≤ 4) (h3 : (L.length : Int) ≤ d) (h8 : ∀ x ∈ L, x.length ≤ 8) : boxOkB d L = true := by
  unfold boxOkB
  rw [Bool.and_eq_true, Bool.and_eq_true, decide_eq_true_eq, decide_eq_true_eq, List.all_eq_true]
  refine ⟨⟨h1, h2⟩, h3, fun i hi => ?_⟩
  have hi := List.mem_range.1 hi
  rw [rdX_nat L i hi, decide_eq_true_eq]
  exact h8 _ (List.getElem_mem hi)
theorem specPut_eq (dep : Int) (L : List (List Int)) (m : List Int) (hL : L.length ≤ 10) (hm : m.length ≤ 9) (k : Nat) (hk : 30 ≤ k) : spec_BoxPut.f k dep L m = some (if boxOkB dep L = true ∧ m.length ≤ 8 then (if (L.length : Int) ≥ dep then (dep, L, false) else (dep, L ++ [m], true)) else (0, [], false)) := by
  obtain ⟨k, rfl⟩ : ∃ q, k = q + 1 := ⟨k - 1, by omega⟩
  unfold spec_BoxPut.f spec_BytMessage.f
  rw [specBoxOk_eq _ _ (by omega) _ (by omega), Option.bind_some]
  by_cases h1 : boxOkB dep L = true
  · obtain ⟨p1, p2, p3, p8⟩ := ok_parts h1
    rw [if_pos h1, Option.bind_some]
    by_cases h2 : m.length ≤ 8
    · rw [decide_eq_true (show (m.length : Int) ≤ 8 by omega), if_pos ⟨h1, h2⟩]
      simp only [spec_BoxPut.j0, Bool.not_true]
      rw [if_neg Bool.false_ne_true, copy7_eq dep L (fun x hx => by have := p8 x hx; omega) hL _ (by omega)]
      simp only [Option.bind_some]
      by_cases h3 : (L.length : Int) = dep
      · rw [if_pos h3, if_pos (by omega)]
      · rw [if_neg h3, if_neg (by omega), copy2_eq m hm, Option.bind_some, if_pos (by omega)]
    · rw [decide_eq_false (show ¬ (m.length : Int) ≤ 8 by omega), if_neg (fun h => h2 h.2)]
      simp [spec_BoxPut.j0]
  · rw [if_neg h1, if_neg (fun h => h1 h.1)]
    simp [spec_BoxPut.j0]
theorem caBytes_self (l : List Int) : laws_caBytes.f l l = some true := by
  unfold laws_caBytes.f
  simp
theorem caItems_self (l : List (List Int)) (hl : l.length ≤ 1048576) (k : Nat) (hk : l.length < k) : laws_caItems.f k l l = some true := by
  unfold laws_caItems.f
  rw [if_pos rfl]
  exact all_loop_true (fun k i => laws_caItems.l0 k l l i) l.length (fun k i hi => by
    simp only [laws_caItems.l0]
    rw [if_pos (by omega), if_pos (by omega), if_pos (by omega), caBytes_self, Option.bind_some, if_pos rfl, wrap_nat (by omega)]) (fun k => by
    simp only [laws_caItems.l0]
    rw [if_neg (by omega)]) k hk
theorem caBox_self (d : Int) (l : List (List Int)) (hl : l.length ≤ 1048576) (k : Nat) (hk : l.length < k) : laws_caBox.f k d l d l = some true := by
  unfold laws_caBox.f
  rw [if_pos rfl, caItems_self l hl k hk]
  rfl
def Bytes (l : List Int) : Prop := (∀ x ∈ l, (Lit.int .u8 x).wf = true) ∧ l.length ≤ 2000
theorem pick_ok {l : List Int} (hl : Bytes l) {p : Int} (hp0 : 0 ≤ p) (hp1 : p ≤ 1000000) {n : Int} (hn0 : 1 ≤ n) (k : Nat) (hk : 1 ≤ k) :
    ∃ r, spec_l30Rd_pick.f k l p n = some (r, p + 1) ∧ 0 ≤ r ∧ r < n := by
  obtain ⟨k, rfl⟩ : ∃ m, k = m + 1 := ⟨k - 1, by omega⟩
  obtain ⟨hb, hlen⟩ := hl
  unfold spec_l30Rd_pick.f
  rw [if_neg (by omega), wrap_in (by omega) (by omega)]
  simp only [spec_l30Rd_pick.j0]
  by_cases h0 : l.length = 0
  · rw [if_pos (by simp [h0])]
    exact ⟨0, rfl, by omega, by omega⟩
  · rw [if_neg (by simpa using h0), show wrap64 (p + 1 - 1) = p by rw [wrap_in (by omega) (by omega)]; omega]
    by_cases h1 : p < (l.length : Int)
    · rw [if_pos h1, if_pos hp0, if_neg (by omega), wrap_in (by have := rd_u8 hb p; omega) (by have := rd_u8 hb p; omega)]
      have := rd_u8 hb p
      exact ⟨_, rfl, Int.tmod_nonneg _ (by omega), Int.tmod_lt_of_pos _ (by omega)⟩
    · rw [if_neg h1, if_neg (by omega)]
      have hpos : (0 : Int) < (l.length : Int) := by omega
      have m1 : 0 ≤ Int.tmod p (l.length : Int) ∧ Int.tmod p (l.length : Int) < (l.length : Int) := ⟨Int.tmod_nonneg _ hp0, Int.tmod_lt_of_pos _ hpos⟩
      have e7 : wrap64 (p * 7) = p * 7 := wrap_in (by omega) (by omega)
      have e73 : wrap64 (p * 7 + 3) = p * 7 + 3 := wrap_in (by omega) (by omega)
      have m2 : 0 ≤ Int.tmod (p * 7 + 3) (l.length : Int) ∧ Int.tmod (p * 7 + 3) (l.length : Int) < (l.length : Int) := ⟨Int.tmod_nonneg _ (by omega), Int.tmod_lt_of_pos _ hpos⟩
      rw [e7, e73, if_pos m1.1, if_pos m1.2, if_pos m2.1, if_pos m2.2, if_neg (by omega)]
      have b1 := rd_u8 hb (Int.tmod p (l.length : Int))
      have b2 := rd_u8 hb (Int.tmod (p * 7 + 3) (l.length : Int))
      have d0 : 0 ≤ Int.tdiv p (l.length : Int) ∧ Int.tdiv p (l.length : Int) ≤ p := ⟨Int.tdiv_nonneg hp0 (by omega), Int.tdiv_le_self _ hp0⟩
      generalize rd l (Int.tmod p (l.length : Int)) = a at *
      generalize rd l (Int.tmod (p * 7 + 3) (l.length : Int)) = b at *
      generalize Int.tdiv p (l.length : Int) = d at *
      have s1 : wrap64 (wrap64 a * 131) = a * 131 := by rw [wrap_in (x := a) (by omega) (by omega)]; exact wrap_in (by omega) (by omega)
      have s2 : wrap64 (wrap64 b * 1117) = b * 1117 := by rw [wrap_in (x := b) (by omega) (by omega)]; exact wrap_in (by omega) (by omega)
      have s3 : wrap64 (p * 29) = p * 29 := wrap_in (by omega) (by omega)
      have s4 : wrap64 (wrap64 d * 53) = d * 53 := by rw [wrap_in (x := d) (by omega) (by omega)]; exact wrap_in (by omega) (by omega)
      rw [s1, s2, s3, s4, wrap_in (x := a * 131 + b * 1117) (by omega) (by omega), wrap_in (x := a * 131 + b * 1117 + p * 29) (by omega) (by omega), wrap_in (x := a * 131 + b * 1117 + p * 29 + d * 53) (by omega) (by omega)]
      have hx0 : 0 ≤ a * 131 + b * 1117 + p * 29 + d * 53 := by omega
      have hx1 : a * 131 + b * 1117 + p * 29 + d * 53 < 1000000000 := by omega
      generalize a * 131 + b * 1117 + p * 29 + d * 53 = x at *
      have q0 : 0 ≤ Int.tdiv x 64 ∧ Int.tdiv x 64 ≤ x := ⟨Int.tdiv_nonneg hx0 (by omega), Int.tdiv_le_self _ hx0⟩
      rw [wrap_in (x := Int.tdiv x 64) (by omega) (by omega)]
      have := xor_nonneg x (Int.tdiv x 64) hx0 (by omega) q0.1 (by omega)
      exact ⟨_, rfl, Int.tmod_nonneg _ this.1, Int.tmod_lt_of_pos _ (by omega)⟩
theorem open_ok (l : List Int) (hl : ∀ x ∈ l, (Lit.int .u8 x).wf = true) : ∃ m, spec_l30Open.f l = some (m, 0) ∧ Bytes m := by
  unfold spec_l30Open.f
  by_cases h : (l.length : Int) > 2000
  · rw [if_pos h, if_pos (by omega)]
    exact ⟨_, rfl, fun x hx => hl x (List.mem_of_mem_take hx), by rw [List.length_take]; omega⟩
  · rw [if_neg h]
    exact ⟨_, rfl, hl, by omega⟩
def U8 (l : List Int) : Prop := ∀ x ∈ l, (Lit.int .u8 x).wf = true
theorem u8_mod (x : Int) : (Lit.int .u8 (x % 256)).wf = true := by
  simp only [Lit.wf, IntKind.min, IntKind.max, Bool.and_eq_true, decide_eq_true_eq]
  first
    | omega
    | (constructor <;> (simp [IntKind.signed, IntKind.bits]; omega))
theorem U8.snoc {l : List Int} (h : U8 l) (x : Int) : U8 (l ++ [x % 256]) := by
  intro y hy
  rcases List.mem_append.mp hy with hy | hy
  · exact h y hy
  · rw [List.mem_singleton.mp hy]
    exact u8_mod x
theorem U8.set {l : List Int} (h : U8 l) (i : Nat) (x : Int) : U8 (l.set i (x % 256)) := by
  intro y hy
  rcases List.mem_or_eq_of_mem_set hy with hy | hy
  · exact h y hy
  · rw [hy]
    exact u8_mod x
theorem message_loop {s : List Int} (hs : Bytes s) : ∀ (d k : Nat) (y : List Int) (p : Int), U8 y → y.length + d ≤ 100 → 0 ≤ p → p + 2 * d ≤ 1000000 → d + 1 < k →
    ∃ r q, spec_l30Message.l0 k y (d : Int) s p = some (r, q) ∧ U8 r ∧ r.length ≤ y.length + d ∧ p ≤ q ∧ q ≤ p + 2 * d := by
  intro d
  induction d with
  | zero =>
    intro k y p hy hl hp0 hp1 hk
    obtain ⟨k, rfl⟩ : ∃ m, k = m + 1 := ⟨k - 1, by omega⟩
    simp only [spec_l30Message.l0]
    rw [if_neg (by omega)]
    exact ⟨_, _, rfl, hy, by omega, by omega, by omega⟩
  | succ d ih =>
    intro k y p hy hl hp0 hp1 hk
    obtain ⟨k, rfl⟩ : ∃ m, k = m + 1 := ⟨k - 1, by omega⟩
    simp only [spec_l30Message.l0]
    obtain ⟨a, ea, ha⟩ := pick_ok hs hp0 (by omega) (n := 256) (by omega) k (by omega)
    obtain ⟨b, eb, hb⟩ := pick_ok hs (p := p + 1) (by omega) (by omega) (n := 5) (by omega) k (by omega)
    rw [if_pos (by omega), ea]
    simp only [Option.bind_some]
    rw [eb]
    simp only [Option.bind_some]
    rw [if_pos hb.1, if_pos (by simpa using hb.2), if_pos (by omega), show wrap64 (((d + 1 : Nat) : Int) - 1) = (d : Int) by rw [wrap_in (by omega) (by omega)]; omega]
    obtain ⟨r, q, e, h1, h2, h3, h4⟩ := ih k _ (p + 1 + 1) (hy.snoc (rd [0, 1, 7, 255, a] b)) (by rw [List.length_append, List.length_singleton]; omega) (by omega) (by omega) (by omega)
    refine ⟨r, q, e, h1, ?_, by omega, by omega⟩
    rw [List.length_append, List.length_singleton] at h2
    omega
theorem message_ok {s : List Int} (hs : Bytes s) {p : Int} (hp0 : 0 ≤ p) (hp1 : p ≤ 900000) (k : Nat) (hk : 15 ≤ k) :
    ∃ r q, spec_l30Message.f k s p = some (r, q) ∧ U8 r ∧ r.length ≤ 9 ∧ p ≤ q ∧ q ≤ p + 19 := by
  unfold spec_l30Message.f
  obtain ⟨a, ea, ha⟩ := pick_ok hs hp0 (by omega) (n := 8) (by omega) k (by omega)
  rw [Option.bind_some, ea]
  simp only [Option.bind_some]
  rw [if_pos ha.1, if_pos (by simpa using ha.2)]
  obtain ⟨n, en, hn⟩ : ∃ n : Nat, rd [0, 1, 2, 3, 4, 8, 8, 9] a = (n : Int) ∧ n ≤ 9 := by
    obtain ⟨m, rfl⟩ := Int.eq_ofNat_of_zero_le ha.1
    have : m < 8 := by omega
    match m, this with
    | 0, _ => exact ⟨0, rfl, by omega⟩
    | 1, _ => exact ⟨1, rfl, by omega⟩
    | 2, _ => exact ⟨2, rfl, by omega⟩
    | 3, _ => exact ⟨3, rfl, by omega⟩
    | 4, _ => exact ⟨4, rfl, by omega⟩
    | 5, _ => exact ⟨8, rfl, by omega⟩
    | 6, _ => exact ⟨8, rfl, by omega⟩
    | 7, _ => exact ⟨9, rfl, by omega⟩
  rw [en]
  obtain ⟨r, q, e, h1, h2, h3, h4⟩ := message_loop hs n k [] (p + 1) (fun x hx => absurd hx (by simp)) (by simp; omega) (by omega) (by omega) (by omega)
  exact ⟨r, q, e, h1, by simp at h2; omega, by omega, by omega⟩
theorem bytes_loop {s : List Int} (hs : Bytes s) : ∀ (d k : Nat) (y : List Int) (p : Int), U8 y → y.length + d ≤ 100 → 0 ≤ p → p + d ≤ 1000000 → d + 1 < k →
    ∃ r, spec_l30Bytes.l0 k (d : Int) y s p = some (r, p + d) ∧ U8 r ∧ r.length = y.length + d := by
  intro d
  induction d with
  | zero =>
    intro k y p hy hl hp0 hp1 hk
    obtain ⟨k, rfl⟩ : ∃ m, k = m + 1 := ⟨k - 1, by omega⟩
    simp only [spec_l30Bytes.l0]
    rw [if_neg (by omega)]
    exact ⟨_, by simp, hy, by omega⟩
  | succ d ih =>
    intro k y p hy hl hp0 hp1 hk
    obtain ⟨k, rfl⟩ : ∃ m, k = m + 1 := ⟨k - 1, by omega⟩
    simp only [spec_l30Bytes.l0]
    obtain ⟨a, ea, ha⟩ := pick_ok hs hp0 (by omega) (n := 256) (by omega) k (by omega)
    rw [if_pos (by omega), ea]
    simp only [Option.bind_some]
    rw [if_pos (by omega), show wrap64 (((d + 1 : Nat) : Int) - 1) = (d : Int) by rw [wrap_in (by omega) (by omega)]; omega]
    obtain ⟨r, e, hr, hrl⟩ := ih k _ (p + 1) (hy.snoc a) (by rw [List.length_append, List.length_singleton]; omega) (by omega) (by omega) (by omega)
    rw [List.length_append, List.length_singleton] at hrl
    exact ⟨r, by rw [e]; congr 2; omega, hr, by omega⟩
theorem boxPad_ok (s : List Int) (d0 : Int) (h4 : d0 ≤ 4) : ∀ (d k : Nat) (it : List (List Int)) (p : Int), it.length + d = 6 → d + 1 < k → ∃ r, spec_l31Box.l1 k s p d0 it = some (d0, r, p) ∧ r.length ≤ 6 := by
  intro d
  induction d with
  | zero =>
    intro k it p hl hk
    obtain ⟨k, rfl⟩ : ∃ m, k = m + 1 := ⟨k - 1, by omega⟩
    simp only [spec_l31Box.l1]
    rw [if_neg (by omega)]
    exact ⟨_, rfl, by omega⟩
  | succ d ih =>
    intro k it p hl hk
    obtain ⟨k, rfl⟩ : ∃ m, k = m + 1 := ⟨k - 1, by omega⟩
    simp only [spec_l31Box.l1]
    by_cases h : (it.length : Int) ≤ d0
    · rw [if_pos h, if_pos (by omega)]
      exact ih k _ p (by rw [List.length_append, List.length_singleton]; omega) (by omega)
    · rw [if_neg h]
      exact ⟨_, rfl, by omega⟩
theorem bytes_ok {s : List Int} (hs : Bytes s) {p : Int} (hp0 : 0 ≤ p) (hp1 : p ≤ 900000) (n : Nat) (hn : n ≤ 20) (k : Nat) (hk : 30 ≤ k) : ∃ r, spec_l30Bytes.f k s p (n : Int) = some (r, p + n) := by
  obtain ⟨r, e, _⟩ := bytes_loop hs n k [] p (fun x hx => absurd hx (by simp)) (by simp; omega) hp0 (by omega) (by omega)
  exact ⟨r, e⟩
theorem boxEnd_ok {s : List Int} (hs : Bytes s) {p : Int} (hp0 : 0 ≤ p) (hp1 : p ≤ 800000) (n d0 : Int) (h4 : d0 ≤ 4) (it : List (List Int)) (hit : it.length ≤ 5) (k : Nat) (hk : 40 ≤ k) :
    ∃ d1 r q, spec_l31Box.j1 k n false s p d0 it = some (d1, r, q) ∧ r.length ≤ 6 ∧ p ≤ q ∧ q ≤ p + 20 := by
  obtain ⟨k, rfl⟩ : ∃ m, k = m + 1 := ⟨k - 1, by omega⟩
  simp only [spec_l31Box.j1]
  obtain ⟨a, ea, ha⟩ := pick_ok hs hp0 (by omega) (n := 16) (by omega) k (by omega)
  obtain ⟨b, eb, hb⟩ := pick_ok hs (p := p + 1) (by omega) (by omega) (n := 3) (by omega) k (by omega)
  obtain ⟨c, ec⟩ := bytes_ok hs (p := p + 1) (by omega) (by omega) 9 (by omega) k (by omega)
  rw [if_neg Bool.false_ne_true, ea]
  simp only [Option.bind_some]
  by_cases h0 : a = 0
  · rw [if_pos h0, eb]
    simp only [Option.bind_some]
    rw [if_pos hb.1, if_pos (by simpa using hb.2)]
    exact ⟨_, _, _, rfl, by omega, by omega, by omega⟩
  rw [if_neg h0]
  by_cases h1 : a = 1
  · rw [if_pos h1, show (9 : Int) = ((9 : Nat) : Int) from rfl, ec]
    simp only [Option.bind_some]
    rw [if_pos (by omega)]
    exact ⟨_, _, _, rfl, by rw [List.length_append, List.length_singleton]; omega, by omega, by omega⟩
  rw [if_neg h1]
  by_cases h2 : a = 2
  · rw [if_pos h2]
    obtain ⟨r, e, hr⟩ := boxPad_ok s d0 h4 (6 - it.length) k it (p + 1) (by omega) (by omega)
    exact ⟨_, r, _, e, hr, by omega, by omega⟩
  rw [if_neg h2]
  exact ⟨_, _, _, rfl, by omega, by omega, by omega⟩
theorem boxLoop_ok {s : List Int} (hs : Bytes s) (d0 : Int) (h4 : d0 ≤ 4) : ∀ (d k : Nat) (it : List (List Int)) (p : Int), it.length + d ≤ 5 → 0 ≤ p → p + 10 * (d : Int) ≤ 700000 → 2 * d + 50 < k →
    ∃ d1 r q, spec_l31Box.l0 k (d : Int) s p d0 it = some (d1, r, q) ∧ r.length ≤ 6 ∧ p ≤ q ∧ q ≤ p + 10 * (d : Int) + 20 := by
  intro d
  induction d with
  | zero =>
    intro k it p hl hp0 hp1 hk
    obtain ⟨k, rfl⟩ : ∃ m, k = m + 1 := ⟨k - 1, by omega⟩
    simp only [spec_l31Box.l0]
    rw [if_neg (by omega)]
    obtain ⟨d1, r, q, e, h1, h2, h3⟩ := boxEnd_ok hs hp0 (by omega) ((0 : Nat) : Int) d0 h4 it (by omega) k (by omega)
    exact ⟨d1, r, q, e, h1, h2, by omega⟩
  | succ d ih =>
    intro k it p hl hp0 hp1 hk
    obtain ⟨k, rfl⟩ : ∃ m, k = m + 1 := ⟨k - 1, by omega⟩
    simp only [spec_l31Box.l0]
    rw [if_pos (by omega)]
    by_cases hb : (it.length : Int) < d0
    · rw [decide_eq_true hb]
      obtain ⟨k, rfl⟩ : ∃ m, k = m + 1 := ⟨k - 1, by omega⟩
      simp only [spec_l31Box.j1]
      obtain ⟨a, ea, ha⟩ := pick_ok hs hp0 (by omega) (n := 5) (by omega) k (by omega)
      obtain ⟨m, rfl⟩ := Int.eq_ofNat_of_zero_le ha.1
      obtain ⟨c, ec⟩ := bytes_ok hs (p := p + 1) (by omega) (by omega) m (by omega) k (by omega)
      rw [if_pos trivial, ea]
      simp only [Option.bind_some]
      rw [ec]
      simp only [Option.bind_some]
      rw [if_pos (by omega), show wrap64 (((d + 1 : Nat) : Int) - 1) = (d : Int) by rw [wrap_in (by omega) (by omega)]; omega]
      obtain ⟨d1, r, q, e, h1, h2, h3⟩ := ih k (it ++ [c]) (p + 1 + (m : Int)) (by rw [List.length_append, List.length_singleton]; omega) (by omega) (by omega) (by omega)
      exact ⟨d1, r, q, e, h1, by omega, by omega⟩
    · rw [decide_eq_false hb]
      obtain ⟨d1, r, q, e, h1, h2, h3⟩ := boxEnd_ok hs hp0 (by omega) ((d + 1 : Nat) : Int) d0 h4 it (by omega) k (by omega)
      exact ⟨d1, r, q, e, h1, h2, by omega⟩
theorem box_ok {s : List Int} (hs : Bytes s) {p : Int} (hp0 : 0 ≤ p) (hp1 : p ≤ 500000) (k : Nat) (hk : 100 ≤ k) : ∃ d1 r q, spec_l31Box.f k s p = some (d1, r, q) ∧ r.length ≤ 6 ∧ p ≤ q ∧ q ≤ p + 100 := by
  unfold spec_l31Box.f
  obtain ⟨a, ea, ha⟩ := pick_ok hs hp0 (by omega) (n := 4) (by omega) k (by omega)
  obtain ⟨b, eb, hb⟩ := pick_ok hs (p := p + 1) (by omega) (by omega) (n := 5) (by omega) k (by omega)
  obtain ⟨m, rfl⟩ := Int.eq_ofNat_of_zero_le hb.1
  have hn : spec_BoxNew.f (1 + a) = some (1 + a, []) := by
    unfold spec_BoxNew.f
    rw [l1In_eq, Option.bind_some, decide_eq_true (by omega), if_pos rfl]
  rw [ea]
  simp only [Option.bind_some]
  rw [wrap_in (x := 1 + a) (by omega) (by omega), hn]
  simp only [Option.bind_some]
  rw [eb]
  simp only [Option.bind_some]
  obtain ⟨d1, r, q, e, h1, h2, h3⟩ := boxLoop_ok hs (1 + a) (by omega) m k [] (p + 1 + 1) (by simp; omega) (by omega) (by omega) (by omega)
  exact ⟨d1, r, q, e, h1, by omega, by omega⟩
theorem drawBoxPut_ok (l : List Int) (hl : ∀ x ∈ l, (Lit.int .u8 x).wf = true) (k : Nat) (hk : 100 ≤ k) : ∃ d1 r m, spec_DrawBoxPut.f k l = some (d1, r, m) ∧ r.length ≤ 6 ∧ m.length ≤ 9 := by
  obtain ⟨s, es, hs⟩ := open_ok l hl
  obtain ⟨d1, r, q, e, h1, h2, h3⟩ := box_ok hs (p := 0) (by omega) (by omega) k (by omega)
  obtain ⟨m, q', e', h4, h5, h6, h7⟩ := message_ok hs (p := q) (by omega) (by omega) k (by omega)
  unfold spec_DrawBoxPut.f
  rw [es]
  simp only [Option.bind_some]
  rw [e]
  simp only [Option.bind_some]
  rw [e']
  exact ⟨d1, r, m, rfl, h1, h5⟩
end FnBoxFull_
open FnBoxFull_
open Go.Proofs
theorem FnBoxFull : laws_FnBoxFull.Pure := by
  intro l _ hl
  refine ⟨200 + 1 + 1, ?_⟩
  unfold laws_FnBoxFull.f
  by_cases hb : (l.length : Int) > 1048576
  · rw [if_pos hb]
  obtain ⟨dep, L, m, e, hL, hm⟩ := drawBoxPut_ok l hl (200 + 1 + 1) (by omega)
  rw [if_neg hb, e]
  simp only [Option.bind_some]
  rw [show impl_BoxPut.f dep L m = _ from putZ_eq dep L m (by omega) hm, specPut_eq dep L m (by omega) hm _ (by omega)]
  simp only [Option.bind_some]
  by_cases h : boxOkB dep L = true ∧ m.length ≤ 8
  · obtain ⟨p1, p2, p3, p8⟩ := ok_parts h.1
    rw [if_pos h]
    by_cases h2 : (L.length : Int) ≥ dep
    · rw [if_pos h2]
      simp only
      rw [caBox_self _ _ (by omega) _ (by omega), Option.bind_some, if_pos rfl, bne_self_eq_false]
      simp only [laws_FnBoxFull.j0]
      rw [if_neg Bool.false_ne_true, specBoxOk_eq _ _ (by omega) _ (by omega), Option.bind_some, if_pos h.1]
      unfold spec_BytMessage.f
      rw [Option.bind_some, decide_eq_true (show (m.length : Int) ≤ 8 by omega)]
      simp only [laws_FnBoxFull.j1, Bool.not_true]
      rw [if_neg Bool.false_ne_true, if_neg Bool.false_ne_true, if_pos (by omega), caBox_self _ _ (by omega) _ (by omega)]
      rfl
    · rw [if_neg h2]
      have hok2 : boxOkB dep (L ++ [m]) = true := ok_of p1 p2 (by rw [List.length_append, List.length_singleton]; omega) (fun x hx => by
        rcases List.mem_append.1 hx with hx | hx
        · exact p8 x hx
        · rw [List.mem_singleton.1 hx]
          exact h.2)
      have hlen : (L ++ [m]).length = L.length + 1 := by simp
      simp only
      rw [caBox_self _ _ (by omega) _ (by omega), Option.bind_some, if_pos rfl, bne_self_eq_false]
      simp only [laws_FnBoxFull.j0]
      rw [if_neg Bool.false_ne_true, specBoxOk_eq _ _ (by omega) _ (by omega), Option.bind_some, if_pos h.1]
      unfold spec_BytMessage.f
      rw [Option.bind_some, decide_eq_true (show (m.length : Int) ≤ 8 by omega)]
      simp only [laws_FnBoxFull.j1, Bool.not_true]
      rw [if_neg Bool.false_ne_true, if_pos trivial]
      obtain ⟨x, t, hx⟩ : ∃ x t, L ++ [m] = x :: t := by
        cases L with
        | nil => exact ⟨_, _, rfl⟩
        | cons a b => exact ⟨_, _, rfl⟩
      have ht : t.length = L.length := by
        have := congrArg List.length hx
        simp at this
        omega
      have htk : impl_BoxTake.f dep (L ++ [m]) = some (dep, t, x, true) := by
        unfold impl_BoxTake.f YtekeehhbalhfiaaBoxTold.takeZ
        rw [if_pos (by omega)]
        have hok3 : YtekeehhbalhfiaaBoxDo.boxOkB dep (L ++ [m]) = true := hok2
        rw [if_pos hok3, hx]
      have r1 : rd_L1 (L ++ [m]) (L.length : Int) = m := by
        rw [rdX_nat _ _ (by omega)]
        simp
      have r2 : rd_L1 (L ++ [m]) 0 = x := by
        rw [hx]
        rfl
      rw [htk]
      simp only [Option.bind_some]
      rw [implBoxOk_eq _ _ (by omega) _ (by omega), Option.bind_some, if_pos hok2, hlen, wrap_nat (by omega), if_pos rfl, if_pos (by omega), if_pos (by omega), r1, caBytes_self, Option.bind_some, if_pos rfl, if_pos trivial, if_pos (by omega), r2, caBytes_self, Option.bind_some, if_pos rfl, ht]
      simp
  · rw [if_neg h]
    simp only
    rw [caBox_self _ _ (by simp) _ (by simp), Option.bind_some, if_pos rfl, bne_self_eq_false]
    simp only [laws_FnBoxFull.j0]
    have hn : impl_BoxNew.f 1 = some (1, []) := by
      unfold impl_BoxNew.f
      rw [if_neg (by omega), if_neg (by omega)]
    have hj : ∀ (a c : Int) (b d : List (List Int)), laws_FnBoxFull.j1 (200 + 1) m false true a b c d = some true := by
      intro a c b d
      simp only [laws_FnBoxFull.j1]
      rw [if_pos trivial, if_neg Bool.false_ne_true, hn]
      simp only [Option.bind_some]
      rw [implBoxOk_eq 1 [] (by simp) _ (by simp)]
      rfl
    rw [if_neg Bool.false_ne_true, specBoxOk_eq _ _ (by omega) _ (by omega), Option.bind_some]
    by_cases h1 : boxOkB dep L = true
    · rw [if_pos h1]
      unfold spec_BytMessage.f
      rw [Option.bind_some, decide_eq_false (show ¬ (m.length : Int) ≤ 8 from fun h8 => h ⟨h1, by omega⟩)]
      exact hj _ _ _ _
    · rw [if_neg h1]
      exact hj _ _ _ _

end Go.Proofs.Ytekeehhbalhfiaa.Pure
