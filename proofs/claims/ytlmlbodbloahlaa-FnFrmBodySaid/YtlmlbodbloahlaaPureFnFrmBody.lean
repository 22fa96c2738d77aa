/- The pure statement of FnFrmBody: filling and spilling a body are each other's way back, and the program's are the reference's. Conditions: bytes. -/
import Derived.Test.YtlmlbodbloahlaaPFnFrmBodyx3
import Derived.Test.YtlmlbodbloahlaaPl
set_option linter.unusedSimpArgs false
set_option linter.unusedVariables false
namespace Go.Proofs.Ytlmlbodbloahlaa.Pure
open Go.RowKit Go.Proofs.Ytlmlbodbloahlaa.PFnFrmBody Go.Proofs.YtlmlbodbloahlaaW.PrintWords Go.Proofs.YtlmlbodbloahlaaW.PrintLast Go.Proofs.YtlmlbodbloahlaaW.PrintMore Go.Proofs.YtlmlbodbloahlaaPl

namespace FnFrmBody_
open Go.Proofs.YtlmlbodbloahlaaFrmFill
theorem pad_loop : ∀ (d k : Nat) (y : List Int), y.length + d = 9 → d < k → spec_FrmFill.l0 k y = some (y ++ List.replicate d 0) := by
  intro d
  induction d with
  | zero =>
    intro k y hy hk
    obtain ⟨k, rfl⟩ : ∃ m, k = m + 1 := ⟨k - 1, by omega⟩
    simp only [spec_FrmFill.l0]
    rw [if_neg (by omega)]
    simp
  | succ d ih =>
    intro k y hy hk
    obtain ⟨k, rfl⟩ : ∃ m, k = m + 1 := ⟨k - 1, by omega⟩
    simp only [spec_FrmFill.l0]
    rw [if_pos (by omega), if_pos (by omega), ih k (y ++ [0]) (by rw [List.length_append, List.length_singleton]; omega) (by omega), List.append_assoc]
    rfl
theorem specFill_eq (l : List Int) (r : Bool) (k : Nat) (hk : 15 ≤ k) : spec_FrmFill.f k l r = some (fill l r) := by
  obtain ⟨k, rfl⟩ : ∃ m, k = m + 1 + 1 := ⟨k - 2, by omega⟩
  unfold spec_FrmFill.f spec_BytMessage.f fill
  simp only [Option.bind_some, spec_FrmFill.j0, spec_FrmFill.j1]
  by_cases h8 : l.length ≤ 8
  · rw [if_pos (by simpa using (by omega : (l.length : Int) ≤ 8)), if_pos h8]
    have e : wrap64 ((l.length : Int) + 1) % 256 = (l.length : Int) + 1 := by
      rw [wrap_in (by omega) (by omega)]
      omega
    cases r
    · by_cases h0 : l.length = 0
      · obtain rfl := List.eq_nil_of_length_eq_zero h0
        rw [if_neg (by simp), if_neg (by simp), if_neg (by simp), if_pos (by simp), pad_loop 8 _ _ (by simp) (by omega)]
        rfl
      · rw [if_neg (by simp), if_pos (by simpa using (by omega : 0 < l.length)), if_neg (by simp), if_neg h0]
    · rw [if_pos rfl, if_neg (by simp), if_pos rfl, if_pos (by simp), if_pos rfl]
      simp only [Int.toNat_zero, List.set_cons_zero, e]
      rw [if_pos (by simp; omega), pad_loop (8 - l.length) _ _ (by simp; omega) (by omega)]
      simp
  · rw [if_neg (by simpa using (by omega : 8 < (l.length : Int))), if_pos trivial, if_neg h8]
theorem implFill_eq (l : List Int) (r : Bool) : impl_FrmFill.f l r = some (fill l r) := rfl
theorem fill_len (l : List Int) (r : Bool) : (fill l r).length ≤ 9 := by
  unfold fill
  split
  · split
    · simp
      omega
    · split <;> simp
  · simp
open Go.Proofs.YtlmlbodbloahlaaFrmSpill
theorem copy_eq (l : List Int) (h : l.length ≤ 100) : spec_l2Copy.f l = some l := by
  unfold spec_l2Copy.f
  rw [Option.bind_some, if_pos (by simp; omega)]
  rfl
theorem specSpill_loop (l : List Int) (h9 : l.length = 9) (n : Nat) (hn9 : n ≤ 9) : ∀ (d k i : Nat), i + d = 9 → 1 ≤ i → d < k →
    spec_FrmSpill.l0 k l (n : Int) (i : Int) = if (l.drop i).all (fun x => x == 0) = true then (if n = 0 then some ([], false, true) else some ((l.take n).drop 1, true, true)) else some ([], false, false) := by
  intro d
  induction d with
  | zero =>
    intro k i hi h1 hk
    obtain ⟨k, rfl⟩ : ∃ m, k = m + 1 := ⟨k - 1, by omega⟩
    simp only [spec_FrmSpill.l0]
    have e0 : l.drop i = [] := List.drop_eq_nil_of_le (by omega)
    rw [if_neg (by omega), e0]
    by_cases hz : n = 0
    · rw [if_pos (by omega)]
      simp [hz]
    · rw [if_neg (by omega), if_pos (by omega), if_pos (by omega), Int.toNat_natCast, copy_eq _ (by simp; omega)]
      simp [hz]
  | succ d ih =>
    intro k i hi h1 hk
    obtain ⟨k, rfl⟩ : ∃ m, k = m + 1 := ⟨k - 1, by omega⟩
    simp only [spec_FrmSpill.l0]
    have e0 : l.drop i = l[i] :: l.drop (i + 1) := List.drop_eq_getElem_cons (by omega)
    rw [if_pos (by omega), if_pos (by omega), if_pos (by omega), if_pos (by omega), rd_nat l i (by omega), e0, wrap_nat (by omega)]
    by_cases hx : l[i] = 0
    · rw [if_pos hx, ih k (i + 1) (by omega) (by omega) (by omega), hx]
      simp
    · have hx' : (l[i] == 0) = false := by simpa using hx
      rw [if_neg hx, List.all_cons, hx', Bool.false_and, if_neg (by simp)]
theorem specSpill_eq (l : List Int) (hb : ∀ x ∈ l, (Lit.int .u8 x).wf = true) (k : Nat) (hk : 15 ≤ k) : spec_FrmSpill.f k l = some (spillV l) := by
  obtain ⟨k, rfl⟩ : ∃ m, k = m + 1 + 1 := ⟨k - 2, by omega⟩
  have hr := rd_u8 hb 0
  unfold spec_FrmSpill.f spillV
  by_cases h9 : l.length = 9
  · rw [if_pos (by omega), if_pos (by omega)]
    simp only [spec_FrmSpill.j0]
    rw [wrap_in (by omega) (by omega)]
    by_cases hn : rd l 0 ≤ 9
    · rw [if_neg (by simp; omega), if_pos (by omega)]
      obtain ⟨n, e⟩ := Int.eq_ofNat_of_zero_le hr.1
      rw [e] at hn ⊢
      by_cases hz : n = 0
      · subst hz
        have s1 : start_ ((0 : Nat) : Int) = 1 := rfl
        have L := specSpill_loop l h9 0 (by omega) 8 k 1 (by omega) (by omega) (by omega)
        have e0 : spec_FrmSpill.l0 (k + 1) l ((0 : Nat) : Int) ((0 : Nat) : Int) = spec_FrmSpill.l0 k l ((0 : Nat) : Int) ((1 : Nat) : Int) := by
          rw [spec_FrmSpill.l0, if_pos (by omega), if_neg (by omega), wrap_in (by omega) (by omega)]
          rfl
        rw [if_pos rfl] at L
        rw [e0, L, s1]
        by_cases hq : zeros l 1 = true
        · have hq' : (l.drop 1).all (fun x => x == 0) = true := hq
          rw [if_pos hq', if_pos ⟨h9, hn, hq⟩]
          cases l <;> rfl
        · have hq' : ¬ (l.drop 1).all (fun x => x == 0) = true := hq
          rw [if_neg hq', if_neg (fun h => hq h.2.2)]
      · have s1 : start_ (n : Int) = n := by
          unfold Go.Proofs.YtlmlbodbloahlaaFrmSpill.start_
          rw [if_neg (by omega)]
          omega
        rw [specSpill_loop l h9 n (by omega) (9 - n) (k + 1) n (by omega) (by omega) (by omega), s1, if_neg hz]
        by_cases hq : zeros l n = true
        · have hq' := hq
          unfold zeros at hq'
          rw [if_pos hq', if_pos ⟨h9, hn, hq⟩, show ((n : Int) != 0) = true by rw [bne_iff_ne]; omega]
        · have hq' := hq
          unfold zeros at hq'
          rw [if_neg hq', if_neg (fun h => hq h.2.2)]
    · rw [if_pos (by simp; omega), if_neg (fun h => hn h.2.1)]
  · rw [if_neg (by omega), if_neg (fun h => h9 h.1)]
    simp only [spec_FrmSpill.j0]
    rfl
theorem implSpill_eq (l : List Int) (hb : ∀ x ∈ l, (Lit.int .u8 x).wf = true) : impl_FrmSpill.f l = some (spillV l) := by
  unfold impl_FrmSpill.f
  rw [if_pos (rd_u8 hb 0).1]
theorem spill_len (l : List Int) : (spillV l).1.length ≤ 9 := by
  unfold spillV
  split
  · rename_i h
    simp
    omega
  · simp
theorem drop_rep {l : List Int} {s : Nat} (h : (l.drop s).all (fun x => x == 0) = true) : l.drop s = List.replicate (l.length - s) 0 := by
  rw [List.eq_replicate_iff]
  refine ⟨by simp, fun x hx => ?_⟩
  have := List.all_eq_true.mp h x hx
  simpa using this
theorem fill_spill (l : List Int) (b : Bool) (h : fill l b ≠ []) : spillV (fill l b) = (l, b, true) ∧ (fill l b).length = 9 := by
  unfold fill at *
  by_cases h8 : l.length ≤ 8
  · rw [if_pos h8] at h ⊢
    cases b
    · rw [if_neg (by simp)] at h ⊢
      by_cases h0 : l.length = 0
      · rw [if_pos h0]
        obtain rfl := List.eq_nil_of_length_eq_zero h0
        exact ⟨by decide, by simp⟩
      · rw [if_neg h0] at h
        exact absurd rfl h
    · rw [if_pos rfl] at h ⊢
      have hL : (((l.length : Int) + 1) :: (l ++ List.replicate (8 - l.length) (0 : Int))).length = 9 := by simp; omega
      refine ⟨?_, hL⟩
      unfold spillV
      have e1 : rd (((l.length : Int) + 1) :: (l ++ List.replicate (8 - l.length) (0 : Int))) 0 = (l.length : Int) + 1 := rfl
      have e2 : Go.Proofs.YtlmlbodbloahlaaFrmSpill.start_ ((l.length : Int) + 1) = l.length + 1 := by
        unfold Go.Proofs.YtlmlbodbloahlaaFrmSpill.start_
        rw [if_neg (by omega)]
        omega
      rw [e1, e2, if_pos ⟨hL, by omega, by unfold zeros; simp⟩, show (((l.length : Int) + 1) != 0) = true by rw [bne_iff_ne]; omega]
      simp
  · rw [if_neg h8] at h
    exact absurd rfl h
theorem spill_fill (t : List Int) (ht : ∀ x ∈ t, (Lit.int .u8 x).wf = true) (h : (spillV t).2.2 = true) : fill (spillV t).1 (spillV t).2.1 = t := by
  unfold spillV at *
  split at h
  · rename_i hc
    rw [if_pos hc]
    obtain ⟨h9, hn, hz⟩ := hc
    have hr := rd_u8 ht 0
    cases t with
    | nil => simp at h9
    | cons n u =>
      have hu : u.length = 8 := by simpa using h9
      have e1 : rd (n :: u) 0 = n := rfl
      rw [e1] at hn hz hr ⊢
      obtain ⟨m, rfl⟩ := Int.eq_ofNat_of_zero_le hr.1
      unfold zeros Go.Proofs.YtlmlbodbloahlaaFrmSpill.start_ at *
      by_cases h0 : m = 0
      · subst h0
        have z : ((0 : Nat) : Int) = 0 := rfl
        rw [if_pos z] at hz ⊢
        have := drop_rep hz
        simp only [List.drop_succ_cons, List.drop_zero] at this
        rw [this, h9]
        rfl
      · rw [if_neg (by omega), Int.toNat_natCast] at hz ⊢
        have := drop_rep hz
        obtain ⟨m, rfl⟩ : ∃ q, m = q + 1 := ⟨m - 1, by omega⟩
        rw [show (((m + 1 : Nat) : Int) != 0) = true by rw [bne_iff_ne]; omega]
        simp only [List.drop_succ_cons, List.drop_zero, List.take_succ_cons, List.length_cons] at this ⊢
        unfold fill
        have hl : (u.take m).length = m := by rw [List.length_take]; omega
        rw [if_pos (by omega), if_pos rfl, hl]
        have e : List.replicate (8 - m) (0 : Int) = u.drop m := by rw [this]; congr 1; omega
        rw [e, List.take_append_drop]
        rfl
  · exact absurd h (by simp)
def Bytes (l : List Int) : Prop := (∀ x ∈ l, (Lit.int .u8 x).wf = true) ∧ l.length ≤ 2000
theorem pick_ok {l : List Int} (hl : Bytes l) {p : Int} (hp0 : 0 ≤ p) (hp1 : p ≤ 1000000) {n : Int} (hn0 : 1 ≤ n) (k : Nat) (hk : 1 ≤ k) :
    ∃ r, spec_l30Rd_pick.f k l p n = some (r, p + 1) ∧ 0 ≤ r ∧ r < n := by
  obtain ⟨k, rfl⟩ : ∃ m, k = m + 1 := ⟨k - 1, by omega⟩
  obtain ⟨hb, hlen⟩ := hl
  unfold spec_l30Rd_pick.f
  rw [if_neg (by omega), wrap_in (by omega) (by omega)]
  simp only [spec_l30Rd_pick.j0]
  by_cases h0 : l.length = 0
  · rw [if_pos (by simp [h0])]
    exact ⟨0, rfl, by omega, by omega⟩
  · rw [if_neg (by simpa using h0), show wrap64 (p + 1 - 1) = p by rw [wrap_in (by omega) (by omega)]; omega]
    by_cases h1 : p < (l.length : Int)
    · rw [if_pos h1, if_pos hp0, if_neg (by omega), wrap_in (by have := rd_u8 hb p; omega) (by have := rd_u8 hb p; omega)]
      have := rd_u8 hb p
      exact ⟨_, rfl, Int.tmod_nonneg _ (by omega), Int.tmod_lt_of_pos _ (by omega)⟩
    · rw [if_neg h1, if_neg (by omega)]
      have hpos : (0 : Int) < (l.length : Int) := by omega
      have m1 : 0 ≤ Int.tmod p (l.length : Int) ∧ Int.tmod p (l.length : Int) < (l.length : Int) := ⟨Int.tmod_nonneg _ hp0, Int.tmod_lt_of_pos _ hpos⟩
      have e7 : wrap64 (p * 7) = p * 7 := wrap_in (by omega) (by omega)
      have e73 : wrap64 (p * 7 + 3) = p * 7 + 3 := wrap_in (by omega) (by omega)
      have m2 : 0 ≤ Int.tmod (p * 7 + 3) (l.length : Int) ∧ Int.tmod (p * 7 + 3) (l.length : Int) < (l.length : Int) := ⟨Int.tmod_nonneg _ (by omega), Int.tmod_lt_of_pos _ hpos⟩
      rw [e7, e73, if_pos m1.1, if_pos m1.2, if_pos m2.1, if_pos m2.2, if_neg (by omega)]
      have b1 := rd_u8 hb (Int.tmod p (l.length : Int))
      have b2 := rd_u8 hb (Int.tmod (p * 7 + 3) (l.length : Int))
      have d0 : 0 ≤ Int.tdiv p (l.length : Int) ∧ Int.tdiv p (l.length : Int) ≤ p := ⟨Int.tdiv_nonneg hp0 (by omega), Int.tdiv_le_self _ hp0⟩
      generalize rd l (Int.tmod p (l.length : Int)) = a at *
      generalize rd l (Int.tmod (p * 7 + 3) (l.length : Int)) = b at *
      generalize Int.tdiv p (l.length : Int) = d at *
      have s1 : wrap64 (wrap64 a * 131) = a * 131 := by rw [wrap_in (x := a) (by omega) (by omega)]; exact wrap_in (by omega) (by omega)
      have s2 : wrap64 (wrap64 b * 1117) = b * 1117 := by rw [wrap_in (x := b) (by omega) (by omega)]; exact wrap_in (by omega) (by omega)
      have s3 : wrap64 (p * 29) = p * 29 := wrap_in (by omega) (by omega)
      have s4 : wrap64 (wrap64 d * 53) = d * 53 := by rw [wrap_in (x := d) (by omega) (by omega)]; exact wrap_in (by omega) (by omega)
      rw [s1, s2, s3, s4, wrap_in (x := a * 131 + b * 1117) (by omega) (by omega), wrap_in (x := a * 131 + b * 1117 + p * 29) (by omega) (by omega), wrap_in (x := a * 131 + b * 1117 + p * 29 + d * 53) (by omega) (by omega)]
      have hx0 : 0 ≤ a * 131 + b * 1117 + p * 29 + d * 53 := by omega
      have hx1 : a * 131 + b * 1117 + p * 29 + d * 53 < 1000000000 := by omega
      generalize a * 131 + b * 1117 + p * 29 + d * 53 = x at *
      have q0 : 0 ≤ Int.tdiv x 64 ∧ Int.tdiv x 64 ≤ x := ⟨Int.tdiv_nonneg hx0 (by omega), Int.tdiv_le_self _ hx0⟩
      rw [wrap_in (x := Int.tdiv x 64) (by omega) (by omega)]
      have := xor_nonneg x (Int.tdiv x 64) hx0 (by omega) q0.1 (by omega)
      exact ⟨_, rfl, Int.tmod_nonneg _ this.1, Int.tmod_lt_of_pos _ (by omega)⟩
theorem open_ok (l : List Int) (hl : ∀ x ∈ l, (Lit.int .u8 x).wf = true) : ∃ m, spec_l30Open.f l = some (m, 0) ∧ Bytes m := by
  unfold spec_l30Open.f
  by_cases h : (l.length : Int) > 2000
  · rw [if_pos h, if_pos (by omega)]
    exact ⟨_, rfl, fun x hx => hl x (List.mem_of_mem_take hx), by rw [List.length_take]; omega⟩
  · rw [if_neg h]
    exact ⟨_, rfl, hl, by omega⟩
def U8 (l : List Int) : Prop := ∀ x ∈ l, (Lit.int .u8 x).wf = true
theorem u8_mod (x : Int) : (Lit.int .u8 (x % 256)).wf = true := by
  simp only [Lit.wf, IntKind.min, IntKind.max, Bool.and_eq_true, decide_eq_true_eq]
  first
    | omega
    | (constructor <;> (simp [IntKind.signed, IntKind.bits]; omega))
theorem U8.snoc {l : List Int} (h : U8 l) (x : Int) : U8 (l ++ [x % 256]) := by
  intro y hy
  rcases List.mem_append.mp hy with hy | hy
  · exact h y hy
  · rw [List.mem_singleton.mp hy]
    exact u8_mod x
theorem U8.set {l : List Int} (h : U8 l) (i : Nat) (x : Int) : U8 (l.set i (x % 256)) := by
  intro y hy
  rcases List.mem_or_eq_of_mem_set hy with hy | hy
  · exact h y hy
  · rw [hy]
    exact u8_mod x
theorem message_loop {s : List Int} (hs : Bytes s) : ∀ (d k : Nat) (y : List Int) (p : Int), U8 y → y.length + d ≤ 100 → 0 ≤ p → p + 2 * d ≤ 1000000 → d + 1 < k →
    ∃ r q, spec_l30Message.l0 k y (d : Int) s p = some (r, q) ∧ U8 r ∧ r.length ≤ y.length + d ∧ p ≤ q ∧ q ≤ p + 2 * d := by
  intro d
  induction d with
  | zero =>
    intro k y p hy hl hp0 hp1 hk
    obtain ⟨k, rfl⟩ : ∃ m, k = m + 1 := ⟨k - 1, by omega⟩
    simp only [spec_l30Message.l0]
    rw [if_neg (by omega)]
    exact ⟨_, _, rfl, hy, by omega, by omega, by omega⟩
  | succ d ih =>
    intro k y p hy hl hp0 hp1 hk
    obtain ⟨k, rfl⟩ : ∃ m, k = m + 1 := ⟨k - 1, by omega⟩
    simp only [spec_l30Message.l0]
    obtain ⟨a, ea, ha⟩ := pick_ok hs hp0 (by omega) (n := 256) (by omega) k (by omega)
    obtain ⟨b, eb, hb⟩ := pick_ok hs (p := p + 1) (by omega) (by omega) (n := 5) (by omega) k (by omega)
    rw [if_pos (by omega), ea]
    simp only [Option.bind_some]
    rw [eb]
    simp only [Option.bind_some]
    rw [if_pos hb.1, if_pos (by simpa using hb.2), if_pos (by omega), show wrap64 (((d + 1 : Nat) : Int) - 1) = (d : Int) by rw [wrap_in (by omega) (by omega)]; omega]
    obtain ⟨r, q, e, h1, h2, h3, h4⟩ := ih k _ (p + 1 + 1) (hy.snoc (rd [0, 1, 7, 255, a] b)) (by rw [List.length_append, List.length_singleton]; omega) (by omega) (by omega) (by omega)
    refine ⟨r, q, e, h1, ?_, by omega, by omega⟩
    rw [List.length_append, List.length_singleton] at h2
    omega
theorem message_ok {s : List Int} (hs : Bytes s) {p : Int} (hp0 : 0 ≤ p) (hp1 : p ≤ 900000) (k : Nat) (hk : 15 ≤ k) :
    ∃ r q, spec_l30Message.f k s p = some (r, q) ∧ U8 r ∧ r.length ≤ 9 ∧ p ≤ q ∧ q ≤ p + 19 := by
  unfold spec_l30Message.f
  obtain ⟨a, ea, ha⟩ := pick_ok hs hp0 (by omega) (n := 8) (by omega) k (by omega)
  rw [Option.bind_some, ea]
  simp only [Option.bind_some]
  rw [if_pos ha.1, if_pos (by simpa using ha.2)]
  obtain ⟨n, en, hn⟩ : ∃ n : Nat, rd [0, 1, 2, 3, 4, 8, 8, 9] a = (n : Int) ∧ n ≤ 9 := by
    obtain ⟨m, rfl⟩ := Int.eq_ofNat_of_zero_le ha.1
    have : m < 8 := by omega
    match m, this with
    | 0, _ => exact ⟨0, rfl, by omega⟩
    | 1, _ => exact ⟨1, rfl, by omega⟩
    | 2, _ => exact ⟨2, rfl, by omega⟩
    | 3, _ => exact ⟨3, rfl, by omega⟩
    | 4, _ => exact ⟨4, rfl, by omega⟩
    | 5, _ => exact ⟨8, rfl, by omega⟩
    | 6, _ => exact ⟨8, rfl, by omega⟩
    | 7, _ => exact ⟨9, rfl, by omega⟩
  rw [en]
  obtain ⟨r, q, e, h1, h2, h3, h4⟩ := message_loop hs n k [] (p + 1) (fun x hx => absurd hx (by simp)) (by simp; omega) (by omega) (by omega) (by omega)
  exact ⟨r, q, e, h1, by simp at h2; omega, by omega, by omega⟩
theorem drawFill_ok (l : List Int) (hl : U8 l) (k : Nat) (hk : 15 ≤ k) : ∃ r b, spec_DrawFrmFill.f k l = some (r, b) ∧ U8 r ∧ r.length ≤ 9 := by
  obtain ⟨m, em, hm⟩ := open_ok l hl
  unfold spec_DrawFrmFill.f
  obtain ⟨a, ea, ha⟩ := pick_ok hm (p := 0) (by omega) (by omega) (n := 3) (by omega) k (by omega)
  rw [em]
  simp only [Option.bind_some]
  rw [ea]
  simp only [Option.bind_some]
  by_cases h : a > 0
  · obtain ⟨r, q, e, h1, h2, _⟩ := message_ok hm (p := 0 + 1) (by omega) (by omega) k hk
    rw [if_pos h, e]
    exact ⟨_, _, rfl, h1, h2⟩
  · obtain ⟨b, eb, hb⟩ := pick_ok hm (p := 0 + 1) (by omega) (by omega) (n := 2) (by omega) k (by omega)
    rw [if_neg h, eb]
    simp only [Option.bind_some]
    by_cases h' : b = 0
    · rw [if_pos h']
      exact ⟨_, _, rfl, fun x hx => absurd hx (by simp), by simp⟩
    · obtain ⟨r, q, e, h1, h2, _⟩ := message_ok hm (p := 0 + 1 + 1) (by omega) (by omega) k hk
      rw [if_neg h', e]
      exact ⟨_, _, rfl, h1, h2⟩
theorem bytes_loop {s : List Int} (hs : Bytes s) : ∀ (d k : Nat) (y : List Int) (p : Int), U8 y → y.length + d ≤ 100 → 0 ≤ p → p + d ≤ 1000000 → d + 1 < k →
    ∃ r q, spec_l30Bytes.l0 k (d : Int) y s p = some (r, q) ∧ U8 r := by
  intro d
  induction d with
  | zero =>
    intro k y p hy hl hp0 hp1 hk
    obtain ⟨k, rfl⟩ : ∃ m, k = m + 1 := ⟨k - 1, by omega⟩
    simp only [spec_l30Bytes.l0]
    rw [if_neg (by omega)]
    exact ⟨_, _, rfl, hy⟩
  | succ d ih =>
    intro k y p hy hl hp0 hp1 hk
    obtain ⟨k, rfl⟩ : ∃ m, k = m + 1 := ⟨k - 1, by omega⟩
    simp only [spec_l30Bytes.l0]
    obtain ⟨a, ea, ha⟩ := pick_ok hs hp0 (by omega) (n := 256) (by omega) k (by omega)
    rw [if_pos (by omega), ea]
    simp only [Option.bind_some]
    rw [if_pos (by omega), show wrap64 (((d + 1 : Nat) : Int) - 1) = (d : Int) by rw [wrap_in (by omega) (by omega)]; omega]
    exact ih k _ (p + 1) (hy.snoc a) (by rw [List.length_append, List.length_singleton]; omega) (by omega) (by omega) (by omega)
theorem fill_u8 (l : List Int) (b : Bool) (hl : U8 l) : U8 (fill l b) := by
  unfold fill
  have h0 : (Lit.int .u8 0).wf = true := by decide
  split
  · rename_i h8
    cases b
    · rw [if_neg (by simp)]
      split
      · intro x hx
        rw [List.eq_of_mem_replicate hx]
        exact h0
      · exact fun x hx => absurd hx (by simp)
    · rw [if_pos rfl]
      intro x hx
      rcases List.mem_cons.mp hx with hx | hx
      · rw [hx, show (l.length : Int) + 1 = ((l.length : Int) + 1) % 256 by omega]
        exact u8_mod _
      · rcases List.mem_append.mp hx with hx | hx
        · exact hl x hx
        · rw [List.eq_of_mem_replicate hx]
          exact h0
  · exact fun x hx => absurd hx (by simp)
theorem drawSpill_j {s : List Int} (hs : Bytes s) (y : List Int) (b : Bool) (hy : U8 y) {p : Int} (hp0 : 0 ≤ p) (hp1 : p ≤ 900000) (k : Nat) (hk : 35 ≤ k) : ∃ r, spec_DrawFrmSpill.j0 k y b s p = some r ∧ U8 r := by
  obtain ⟨k, rfl⟩ : ∃ m, k = m + 1 := ⟨k - 1, by omega⟩
  simp only [spec_DrawFrmSpill.j0]
  rw [specFill_eq _ _ _ (by omega)]
  simp only [Option.bind_some]
  have hu := fill_u8 y b hy
  have hn := fill_len y b
  have h9 : (fill y b).length = 0 ∨ (fill y b).length = 9 := by
    by_cases h : fill y b = []
    · exact Or.inl (by rw [h]; rfl)
    · exact Or.inr (fill_spill y b h).2
  by_cases h0 : (fill y b).length = 0
  · obtain ⟨a, ea, ha⟩ := pick_ok hs hp0 (by omega) (n := 3) (by omega) k (by omega)
    rw [if_pos (by omega), ea]
    simp only [Option.bind_some]
    rw [wrap_in (by omega) (by omega)]
    obtain ⟨d, ed⟩ := Int.eq_ofNat_of_zero_le (show 0 ≤ 8 + a by omega)
    unfold spec_l30Bytes.f
    rw [ed]
    obtain ⟨r, q, e, h⟩ := bytes_loop hs d k [] (p + 1) (fun x hx => absurd hx (by simp)) (by simp; omega) (by omega) (by omega) (by omega)
    rw [e]
    exact ⟨_, rfl, h⟩
  · obtain ⟨a, ea, ha⟩ := pick_ok hs hp0 (by omega) (n := 6) (by omega) k (by omega)
    rw [if_neg (by omega), ea]
    simp only [Option.bind_some]
    by_cases h1 : a = 0
    · obtain ⟨c, ec, hc⟩ := pick_ok hs (p := p + 1) (by omega) (by omega) (n := 5) (by omega) k (by omega)
      rw [if_pos h1, ec]
      simp only [Option.bind_some]
      rw [if_pos hc.1, if_pos (by simpa using hc.2), if_pos (by omega)]
      exact ⟨_, rfl, hu.set _ _⟩
    · rw [if_neg h1]
      by_cases h2 : a = 1
      · obtain ⟨c, ec, hc⟩ := pick_ok hs (p := p + 1) (by omega) (by omega) (n := 9) (by omega) k (by omega)
        obtain ⟨d, ed, hd⟩ := pick_ok hs (p := p + 1 + 1) (by omega) (by omega) (n := 3) (by omega) k (by omega)
        rw [if_pos h2, ec]
        simp only [Option.bind_some]
        rw [ed]
        simp only [Option.bind_some]
        rw [if_pos hc.1, if_pos (by omega)]
        exact ⟨_, rfl, hu.set _ _⟩
      · rw [if_neg h2]
        exact ⟨_, rfl, hu⟩
theorem drawSpill_ok (l : List Int) (hl : U8 l) (k : Nat) (hk : 35 ≤ k) : ∃ r, spec_DrawFrmSpill.f k l = some r ∧ U8 r := by
  obtain ⟨m, em, hm⟩ := open_ok l hl
  obtain ⟨r, q, e, h1, h2, h3, h4⟩ := message_ok hm (p := 0) (by omega) (by omega) k (by omega)
  obtain ⟨a, ea, ha⟩ := pick_ok hm (p := q) (by omega) (by omega) (n := 4) (by omega) k (by omega)
  unfold spec_DrawFrmSpill.f
  rw [em]
  simp only [Option.bind_some]
  rw [e]
  simp only [Option.bind_some]
  rw [ea]
  simp only [Option.bind_some]
  by_cases h : a > 0
  · rw [if_pos h]
    exact drawSpill_j hm r _ h1 (by omega) (by omega) k hk
  · rw [if_neg h]
    exact drawSpill_j hm [] _ (fun x hx => absurd hx (by simp)) (by omega) (by omega) k hk
theorem ca_eq (l : List Int) : laws_caBytes.f l l = some true := by
  unfold laws_caBytes.f
  simp
end FnFrmBody_
open FnFrmBody_
open Go.Proofs.YtlmlbodbloahlaaFrmFill
open Go.Proofs.YtlmlbodbloahlaaFrmSpill
theorem FnFrmBody : laws_FnFrmBody.Pure := by
  intro l l' hm hw hm' hw'
  obtain ⟨K, hK⟩ : ∃ K : Nat, 100 ≤ K := ⟨100, Nat.le_refl _⟩
  refine ⟨K + 1 + 1, ?_⟩
  obtain ⟨v, b, ev, hv, hv9⟩ := drawFill_ok l hw (K + 1) (by omega)
  obtain ⟨t, et, ht⟩ := drawSpill_ok l' hw' (K + 1) (by omega)
  have J : laws_FnFrmBody.j1 (K + 1) v b (fill v b) false = some true := by
    simp only [laws_FnFrmBody.j1]
    rw [if_neg (by simp)]
    by_cases h0 : (fill v b).length = 0
    · rw [if_pos (by omega), implFill_eq]
      rfl
    · rw [if_neg (by omega), implSpill_eq _ (fill_u8 v b hv)]
      obtain ⟨e, e9⟩ := fill_spill v b (by intro h; rw [h] at h0; exact h0 rfl)
      rw [e]
      simp only [Option.bind_some, if_true, beq_self_eq_true]
      rw [ca_eq]
      simp only [Option.bind_some, if_true]
      rw [e9]
      rfl
  have M : laws_FnFrmBody.j0 (K + 1 + 1) l l' false = some true := by
    simp only [laws_FnFrmBody.j0]
    rw [if_neg (by simp), ev]
    simp only [Option.bind_some]
    rw [implFill_eq]
    simp only [Option.bind_some]
    rw [et]
    simp only [Option.bind_some]
    rw [implSpill_eq t ht]
    simp only [Option.bind_some]
    rw [specSpill_eq t ht _ (by omega)]
    simp only [Option.bind_some]
    rw [specFill_eq _ _ _ (by omega)]
    simp only [Option.bind_some]
    rw [ca_eq]
    simp only [Option.bind_some, if_true]
    rw [ca_eq]
    simp only [Option.bind_some, if_true, bne_self_eq_false, Bool.false_eq_true, if_false]
    by_cases hs : (spillV t).2.2 = true
    · rw [if_pos hs, implFill_eq]
      simp only [Option.bind_some]
      rw [spill_fill t ht hs, ca_eq]
      exact J
    · rw [if_neg hs]
      exact J
  have N' : laws_FnFrmBody.j0 (K + 1 + 1) l l' true = some true := by
    simp only [laws_FnFrmBody.j0]
    rw [if_pos trivial]
  unfold laws_FnFrmBody.f
  by_cases h : (l.length : Int) > 1048576
  · rw [if_pos h]
    exact N'
  · rw [if_neg h]
    by_cases h' : (l'.length : Int) > 1048576
    · rw [decide_eq_true h']
      exact N'
    · rw [decide_eq_false h']
      exact M

end Go.Proofs.Ytlmlbodbloahlaa.Pure
