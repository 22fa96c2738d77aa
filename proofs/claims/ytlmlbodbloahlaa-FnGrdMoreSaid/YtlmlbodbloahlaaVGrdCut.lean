/- What grdCut answers: what a rule lets through of a message. Conditions: the bytes can be read; the rule's places are in their bounds. -/
import Derived.Test.YtlmlbodbloahlaaVCopy
set_option linter.unusedVariables false
set_option linter.unusedSimpArgs false
namespace Go.Proofs.YtlmlbodbloahlaaGrdCut
open Go.RowKit Go.Proofs.YtlmlbodbloahlaaW.PrintWords Go.Proofs.YtlmlbodbloahlaaW.PrintMore Go.Proofs.YtlmlbodbloahlaaCopy
attribute [local go_sem] max2_int min2_int

def cutZ (z : Int) (k : Nat) (m : List Int) : List Int := if 0 ≤ z ∧ z < ((m.take k).length : Int) then (m.take k).set z.toNat 0 else m.take k
theorem R_nums {w : World} {base : Nat} {v : Value} {l : List Int} (h : Kd.R (Kd.int .u8) 5 w base (fun _ => True) v l) : w.ownsRow base 5 1 v l.length (nums .u8 l) := by
  obtain ⟨_, inner, ho, hr⟩ := h
  have e : inner = nums .u8 l := by
    apply List.ext_getElem?
    intro j
    have hl := hr.1
    have esz : (Kd.int .u8).sz = 1 := rfl
    rw [esz, Nat.mul_one] at hl
    by_cases hj : j < l.length
    · have h1 : (inner.drop (j * 1)).take 1 = [Value.int .u8 l[j]] := hr.2 j l[j] (List.getElem?_eq_getElem hj)
      rw [Nat.mul_one] at h1
      have h2 : inner[j]? = some (Value.int .u8 l[j]) := by
        have : ((inner.drop j).take 1)[0]? = some (Value.int .u8 l[j]) := by rw [h1]; rfl
        rw [List.getElem?_take, List.getElem?_drop] at this
        simpa using this
      rw [h2]
      simp [nums, hj]
    · rw [List.getElem?_eq_none (by omega), List.getElem?_eq_none (by simp [nums]; omega)]
  rw [← e]
  exact ho
theorem own_at {w : World} {base n i : Nat} {v : Value} {xs : List Value} (h : w.ownsRow base 5 1 v n xs) (hi : i < n) :
    ∃ g cap, v = .slice (some ⟨g, 0, none⟩) n cap ∧ base ≤ g ∧ w.cell? ⟨g, i, none⟩ = xs[i]? ∧ w.frozen? ⟨g, i, none⟩ = false ∧ ∀ u, (w.setCell ⟨g, i, none⟩ u).ownsRow base 5 1 v n (xs.set i u) := by
  obtain ⟨h1, h2⟩ := h
  rcases h2 with ⟨_, h0⟩ | ⟨g, cap, cur, rfl, hg, hh, hn, hm, hs, ht⟩
  · omega
  · refine ⟨g, cap, rfl, hg, ?_, blk_frozen hh i, fun u => ⟨by rw [List.length_set]; exact h1, .inr ⟨g, cap, _, rfl, hg, blk_set hh i u, hn, hm, by simpa using hs, ?_⟩⟩⟩
    · rw [blk_cell hh i, ← ht]
      rw [List.getElem?_take]
      simp [hi]
    · rw [← ht]
      simp [List.take_set]


set_option maxHeartbeats 2000000 in
theorem cut_le (a0 a1 a2 a3 a4 z : Int) (A : Option Addr) (c k : Nat) (m : List Int) (w : World) (hA : Kd.C (Kd.int .u8) w A m.length m) (hc : m.length ≤ c) (hm : m.length ≤ 8) (hk : k ≤ 8) (hj : k ≤ m.length) (hz0 : -1 ≤ z) (hz1 : z ≤ 7) :
    Calls Try.prog 45 #[.agg #[.int .i64 a0, .int .i64 a1, .int .i64 a2, .int .i64 a3, .int .i64 a4, .int .i64 z, .int .i64 (k : Int)], .slice A m.length c] w fun e w' => ∃ v, e = .returned v ∧ Kd.R (Kd.int .u8) 5 w' w.heap.size (fun _ => True) v (cutZ z k m) ∧ Below w.heap.size w w' := by
  have hC := Kd.C_take hA (m := k) (by omega)
  have hL : m.take k = m.take k := by
    first | rfl | rw [List.take_of_length_le (Nat.le_refl _), List.take_of_length_le (by omega)]
  rw [hL] at hC
  have hn : (m.take k).length = k := by rw [← hL, List.length_take]; omega
  obtain ⟨L, hLL⟩ : ∃ L, m.take k = L := ⟨_, rfl⟩
  have HCUT : Aside0 (cutZ z k m = if 0 ≤ z ∧ z < (L.length : Int) then L.set z.toNat 0 else L) := ⟨by unfold cutZ; rw [hLL]⟩
  rw [hLL] at hC hn
  obtain ⟨R, hR⟩ : ∃ R, cutZ z k m = R := ⟨_, rfl⟩
  rw [hR] at HCUT ⊢
  have hcopy := copy_any A c L L (w.alloc (.cells #[.int .i64 a0, .int .i64 a1, .int .i64 a2, .int .i64 a3, .int .i64 a4, .int .i64 z, .int .i64 (k : Int)] 46)) (Kd.C_alloc hC _) (by omega) (if_pos (by omega))
  rw [hn] at hcopy
  have HCOPY := Aside0.mk hcopy
  have HN := Aside0.mk hn
  obtain ⟨n, hnm⟩ : ∃ n, n = m.length := ⟨_, rfl⟩
  rw [← hnm] at hj hm hc ⊢
  try rw [← hnm] at HN
  try rw [← hnm] at HCOPY
  have hnc : (n : Int) ≤ (c : Int) := by omega
  have h5 : (w.alloc (.cells #[.int .i64 a0, .int .i64 a1, .int .i64 a2, .int .i64 a3, .int .i64 a4, .int .i64 z, .int .i64 (k : Int)] 46)).cell? ⟨w.heap.size, 5, none⟩ = some (.int .i64 z) := by simp
  have H5 := Aside0.mk h5
  clear hA hC hL hLL hR hcopy hn hnm h5
  obtain ⟨W1, hW1⟩ : ∃ W1, (w.alloc (.cells #[.int .i64 a0, .int .i64 a1, .int .i64 a2, .int .i64 a3, .int .i64 a4, .int .i64 z, .int .i64 (k : Int)] 46)) = W1 := ⟨_, rfl⟩
  have HW1 := Aside0.mk hW1
  have hB1 : Below w.heap.size w W1 := by rw [← hW1]; exact (Below.refl _ _).alloc (Nat.le_refl _) _
  have hS1 : W1.heap.size = w.heap.size + 1 := by rw [← hW1]; simp
  have HBB := Aside0.mk hB1
  have HSS := Aside0.mk hS1
  rw [hW1] at HCOPY H5
  clear hB1 hS1 hW1
  by_cases hzr : 0 ≤ z ∧ z < (L.length : Int)
  · obtain ⟨zn, rfl⟩ := Int.eq_ofNat_of_zero_le hzr.1
    have hzl : (zn : Int) < (k : Int) := by rw [← HN.out]; exact hzr.2
    have hcut := HCUT.out
    rw [if_pos hzr, Int.toNat_natCast] at hcut
    have HC2 := Aside0.mk hcut
    clear hzr hcut
    go_enter Try.func45, Try.ntmps45
    go_wp2_with (go_at_call 37; rw [HW1.out]; refine HCOPY.out.mono ?_; rintro e w' ⟨v, rfl, hv, hb⟩; obtain ⟨g, cap, hve, hg, hc1, hf1, hset⟩ := own_at (i := zn) (R_nums hv) (by rw [HN.out]; omega); rw [HN.out] at hve; subst hve; have hcz : w'.cell? ⟨w.heap.size, 5, none⟩ = some (.int .i64 (zn : Int)) := (hb.cell (p := ⟨w.heap.size, 5, none⟩) (by show w.heap.size < W1.heap.size; rw [HSS.out]; omega)).trans H5.out; have hc2 : w'.cell? ⟨g, zn, none⟩ = some (.int .u8 (L.getD zn 0)) := (by rw [hc1]; simp [nums, List.getD, show zn < L.length by rw [HN.out]; omega]); have HSET := Aside0.mk hset; have HB2 := Aside0.mk hb; have HG := Aside0.mk hg; clear hset hb hc1 hg hv)
    go_ret
    refine ⟨_, rfl, ?_, ?_⟩
    · have ho := HSET.out (.int .u8 0)
      rw [HC2.out]
      have e : (nums .u8 L).set zn (.int .u8 0) = nums .u8 (L.set zn 0) := by simp [nums]
      rw [e, HN.out] at ho
      have hn2 : (L.set zn 0).length = k := by rw [List.length_set]; exact HN.out
      have ho2 : World.ownsRow (w'.setCell ⟨g, zn, none⟩ (.int .u8 0)) W1.heap.size 5 1 (.slice (some ⟨g, 0, none⟩) k cap) (L.set zn 0).length (nums .u8 (L.set zn 0)) := by rw [hn2]; exact ho
      exact Kd.R_of_own (own_weaken ho2 (by rw [HSS.out]; omega)) (fun _ _ => trivial)
    · exact (HBB.out.trans (HB2.out.mono (by rw [HSS.out]; omega))).setCell (p := ⟨g, zn, none⟩) (by have := HG.out; rw [HSS.out] at this; show w.heap.size ≤ g; omega) _
  · have hcut := HCUT.out
    rw [if_neg hzr] at hcut
    have HC2 := Aside0.mk hcut
    have hzl : z < 0 ∨ (k : Int) ≤ z := by rw [← HN.out]; omega
    clear hzr hcut
    rcases hzl with hzl | hzl
    all_goals
      go_enter Try.func45, Try.ntmps45
      go_wp2_with (go_at_call 37; rw [HW1.out]; refine HCOPY.out.mono ?_; rintro e w' ⟨v, rfl, hv, hb⟩; obtain ⟨A2, c2, hve⟩ := Kd.R_slice hv; rw [HN.out] at hve; subst hve; have hcz : w'.cell? ⟨w.heap.size, 5, none⟩ = some (.int .i64 z) := (hb.cell (p := ⟨w.heap.size, 5, none⟩) (by show w.heap.size < W1.heap.size; rw [HSS.out]; omega)).trans H5.out; have HV := Aside0.mk hv; have HB2 := Aside0.mk hb; clear hb hv)
      go_ret
      refine ⟨_, rfl, ?_, HBB.out.trans (HB2.out.mono (by rw [HSS.out]; omega))⟩
      rw [HC2.out]
      exact Kd.R_lower HV.out (by rw [HSS.out]; omega)

set_option maxHeartbeats 2000000 in
theorem cut_gt (a0 a1 a2 a3 a4 z : Int) (A : Option Addr) (c k : Nat) (m : List Int) (w : World) (hA : Kd.C (Kd.int .u8) w A m.length m) (hc : m.length ≤ c) (hm : m.length ≤ 8) (hk : k ≤ 8) (hj : m.length < k) (hz0 : -1 ≤ z) (hz1 : z ≤ 7) :
    Calls Try.prog 45 #[.agg #[.int .i64 a0, .int .i64 a1, .int .i64 a2, .int .i64 a3, .int .i64 a4, .int .i64 z, .int .i64 (k : Int)], .slice A m.length c] w fun e w' => ∃ v, e = .returned v ∧ Kd.R (Kd.int .u8) 5 w' w.heap.size (fun _ => True) v (cutZ z k m) ∧ Below w.heap.size w w' := by
  have hC := Kd.C_take hA (m := m.length) (by omega)
  have hL : m.take m.length = m.take k := by
    first | rfl | rw [List.take_of_length_le (Nat.le_refl _), List.take_of_length_le (by omega)]
  rw [hL] at hC
  have hn : (m.take k).length = m.length := by rw [← hL, List.length_take]; omega
  obtain ⟨L, hLL⟩ : ∃ L, m.take k = L := ⟨_, rfl⟩
  have HCUT : Aside0 (cutZ z k m = if 0 ≤ z ∧ z < (L.length : Int) then L.set z.toNat 0 else L) := ⟨by unfold cutZ; rw [hLL]⟩
  rw [hLL] at hC hn
  obtain ⟨R, hR⟩ : ∃ R, cutZ z k m = R := ⟨_, rfl⟩
  rw [hR] at HCUT ⊢
  have hcopy := copy_any A c L L (w.alloc (.cells #[.int .i64 a0, .int .i64 a1, .int .i64 a2, .int .i64 a3, .int .i64 a4, .int .i64 z, .int .i64 (k : Int)] 46)) (Kd.C_alloc hC _) (by omega) (if_pos (by omega))
  rw [hn] at hcopy
  have HCOPY := Aside0.mk hcopy
  have HN := Aside0.mk hn
  obtain ⟨n, hnm⟩ : ∃ n, n = m.length := ⟨_, rfl⟩
  rw [← hnm] at hj hm hc ⊢
  try rw [← hnm] at HN
  try rw [← hnm] at HCOPY
  have hnc : (n : Int) ≤ (c : Int) := by omega
  have h5 : (w.alloc (.cells #[.int .i64 a0, .int .i64 a1, .int .i64 a2, .int .i64 a3, .int .i64 a4, .int .i64 z, .int .i64 (k : Int)] 46)).cell? ⟨w.heap.size, 5, none⟩ = some (.int .i64 z) := by simp
  have H5 := Aside0.mk h5
  clear hA hC hL hLL hR hcopy hn hnm h5
  obtain ⟨W1, hW1⟩ : ∃ W1, (w.alloc (.cells #[.int .i64 a0, .int .i64 a1, .int .i64 a2, .int .i64 a3, .int .i64 a4, .int .i64 z, .int .i64 (k : Int)] 46)) = W1 := ⟨_, rfl⟩
  have HW1 := Aside0.mk hW1
  have hB1 : Below w.heap.size w W1 := by rw [← hW1]; exact (Below.refl _ _).alloc (Nat.le_refl _) _
  have hS1 : W1.heap.size = w.heap.size + 1 := by rw [← hW1]; simp
  have HBB := Aside0.mk hB1
  have HSS := Aside0.mk hS1
  rw [hW1] at HCOPY H5
  clear hB1 hS1 hW1
  by_cases hzr : 0 ≤ z ∧ z < (L.length : Int)
  · obtain ⟨zn, rfl⟩ := Int.eq_ofNat_of_zero_le hzr.1
    have hzl : (zn : Int) < (n : Int) := by rw [← HN.out]; exact hzr.2
    have hcut := HCUT.out
    rw [if_pos hzr, Int.toNat_natCast] at hcut
    have HC2 := Aside0.mk hcut
    clear hzr hcut
    go_enter Try.func45, Try.ntmps45
    go_wp2_with (go_at_call 37; rw [HW1.out]; refine HCOPY.out.mono ?_; rintro e w' ⟨v, rfl, hv, hb⟩; obtain ⟨g, cap, hve, hg, hc1, hf1, hset⟩ := own_at (i := zn) (R_nums hv) (by rw [HN.out]; omega); rw [HN.out] at hve; subst hve; have hcz : w'.cell? ⟨w.heap.size, 5, none⟩ = some (.int .i64 (zn : Int)) := (hb.cell (p := ⟨w.heap.size, 5, none⟩) (by show w.heap.size < W1.heap.size; rw [HSS.out]; omega)).trans H5.out; have hc2 : w'.cell? ⟨g, zn, none⟩ = some (.int .u8 (L.getD zn 0)) := (by rw [hc1]; simp [nums, List.getD, show zn < L.length by rw [HN.out]; omega]); have HSET := Aside0.mk hset; have HB2 := Aside0.mk hb; have HG := Aside0.mk hg; clear hset hb hc1 hg hv)
    go_ret
    refine ⟨_, rfl, ?_, ?_⟩
    · have ho := HSET.out (.int .u8 0)
      rw [HC2.out]
      have e : (nums .u8 L).set zn (.int .u8 0) = nums .u8 (L.set zn 0) := by simp [nums]
      rw [e, HN.out] at ho
      have hn2 : (L.set zn 0).length = n := by rw [List.length_set]; exact HN.out
      have ho2 : World.ownsRow (w'.setCell ⟨g, zn, none⟩ (.int .u8 0)) W1.heap.size 5 1 (.slice (some ⟨g, 0, none⟩) n cap) (L.set zn 0).length (nums .u8 (L.set zn 0)) := by rw [hn2]; exact ho
      exact Kd.R_of_own (own_weaken ho2 (by rw [HSS.out]; omega)) (fun _ _ => trivial)
    · exact (HBB.out.trans (HB2.out.mono (by rw [HSS.out]; omega))).setCell (p := ⟨g, zn, none⟩) (by have := HG.out; rw [HSS.out] at this; show w.heap.size ≤ g; omega) _
  · have hcut := HCUT.out
    rw [if_neg hzr] at hcut
    have HC2 := Aside0.mk hcut
    have hzl : z < 0 ∨ (n : Int) ≤ z := by rw [← HN.out]; omega
    clear hzr hcut
    rcases hzl with hzl | hzl
    all_goals
      go_enter Try.func45, Try.ntmps45
      go_wp2_with (go_at_call 37; rw [HW1.out]; refine HCOPY.out.mono ?_; rintro e w' ⟨v, rfl, hv, hb⟩; obtain ⟨A2, c2, hve⟩ := Kd.R_slice hv; rw [HN.out] at hve; subst hve; have hcz : w'.cell? ⟨w.heap.size, 5, none⟩ = some (.int .i64 z) := (hb.cell (p := ⟨w.heap.size, 5, none⟩) (by show w.heap.size < W1.heap.size; rw [HSS.out]; omega)).trans H5.out; have HV := Aside0.mk hv; have HB2 := Aside0.mk hb; clear hb hv)
      go_ret
      refine ⟨_, rfl, ?_, HBB.out.trans (HB2.out.mono (by rw [HSS.out]; omega))⟩
      rw [HC2.out]
      exact Kd.R_lower HV.out (by rw [HSS.out]; omega)
theorem cut_any (a0 a1 a2 a3 a4 z cut : Int) (A : Option Addr) (c : Nat) (m : List Int) (w : World) (hA : Kd.C (Kd.int .u8) w A m.length m) (hc : m.length ≤ c) (hm : m.length ≤ 8) (hk0 : 0 ≤ cut) (hk1 : cut ≤ 8) (hz0 : -1 ≤ z) (hz1 : z ≤ 7) :
    Calls Try.prog 45 #[.agg #[.int .i64 a0, .int .i64 a1, .int .i64 a2, .int .i64 a3, .int .i64 a4, .int .i64 z, .int .i64 cut], .slice A m.length c] w fun e w' => ∃ v, e = .returned v ∧ Kd.R (Kd.int .u8) 5 w' w.heap.size (fun _ => True) v (cutZ z cut.toNat m) ∧ Below w.heap.size w w' := by
  obtain ⟨k, rfl⟩ := Int.eq_ofNat_of_zero_le hk0
  rw [Int.toNat_natCast]
  by_cases h : k ≤ m.length
  · exact cut_le a0 a1 a2 a3 a4 z A c k m w hA hc hm (by omega) h hz0 hz1
  · exact cut_gt a0 a1 a2 a3 a4 z A c k m w hA hc hm (by omega) (by omega) hz0 hz1
end Go.Proofs.YtlmlbodbloahlaaGrdCut
