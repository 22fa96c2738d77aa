/- BoxTake: what it answers. Conditions: none. -/
import Derived.Test.YtekeehhbalhfiaaBoxDo
set_option linter.unusedVariables false
set_option linter.unusedSimpArgs false
namespace Go.Proofs.YtekeehhbalhfiaaBoxTak
open Go.RowKit Go.Proofs.YtekeehhbalhfiaaW.PrintWords Go.Proofs.YtekeehhbalhfiaaPl Go.Proofs.YtekeehhbalhfiaaBoxPut1 Go.Proofs.YtekeehhbalhfiaaBoxList Go.Proofs.YtekeehhbalhfiaaBoxFill Go.Proofs.YtekeehhbalhfiaaBoxDo Go.Proofs.Ytekeehhbalhfiaa.PBoxBase

theorem take_any (g : Nat) (s : Sl) (us : List Sl) (h : us.length ≤ 3) (w : World) (hg : w.heap[g]? = some (.cells (ring (s :: us)) 61 (0, 0))) :
    Calls Try.prog 38 #[.pointer (some ⟨g, 0, none⟩)] w fun e w' => e = .returned (.tuple #[s.v, .bool true]) ∧ Below g w w' ∧ KeepBut w w' g none ∧ ∃ cs, w'.heap[g]? = some (.cells cs 61 (0, 0)) ∧ Holds cs 1 us := by
  refine (take_some g s.1 s.2.1 s.2.2 (at_ (s :: us) 1) (at_ (s :: us) 2) (at_ (s :: us) 3) (((s :: us).length : Nat) : Int) (by simp; omega) (by simp; omega) w hg).mono ?_
  rintro e w' ⟨rfl, hb, hk, hc⟩
  refine ⟨rfl, hb, hk, _, hc, rfl, ?_, fun k t ht => ?_⟩
  · have e : (((s :: us).length : Nat) : Int) - 1 = (us.length : Int) := by simp
    rw [e]
    rfl
  · match us, h with
    | [], _ => simp at ht
    | [a], _ =>
      match k with
      | 0 => exact congrArg (fun o => o.map Sl.v) ht
      | k + 1 => simp at ht
    | [a, b], _ =>
      match k with
      | 0 => exact congrArg (fun o => o.map Sl.v) ht
      | 1 => exact congrArg (fun o => o.map Sl.v) ht
      | k + 2 => simp at ht
    | [a, b, c], _ =>
      match k with
      | 0 => exact congrArg (fun o => o.map Sl.v) ht
      | 1 => exact congrArg (fun o => o.map Sl.v) ht
      | 2 => exact congrArg (fun o => o.map Sl.v) ht
      | k + 3 => simp at ht

set_option maxRecDepth 100000 in
set_option maxHeartbeats 1000000 in
theorem take_bad (dep : Int) (A : Option Addr) (c : Nat) (L : List (List Int)) (w : World) (hA : Kd.C (Kd.slice 5 (Kd.int .u8)) w A L.length L) (hc : L.length ≤ c) (hL : L.length ≤ 1048576) (hbad : boxOkB dep L = false) :
    Calls Try.prog 12 #[.agg #[.int .i64 dep, .slice A L.length c]] w fun e w' => e = .returned (.tuple #[.agg #[.int .i64 0, .slice none 0 0], .slice none 0 0, .bool false]) ∧ Below w.heap.size w w' := by
  have HS0 := Aside0.mk (St.start dep A L.length c w)
  have HOK := Aside0.mk (fun W (h : St dep A L.length c w W) => ok_any dep A c L W (Kd.C_below hA h.1) hc hL)
  rw [hbad] at HOK
  obtain ⟨n, hn⟩ : ∃ n, n = L.length := ⟨_, rfl⟩
  rw [← hn] at HS0 HOK ⊢
  clear hA hc hL hbad hn
  go_enter Try.func12, Try.ntmps12
  go_wp2_with (go_at_call 15; with_reducible refine (HOK.out _ HS0.out).mono ?_; rintro e w1 ⟨rfl, hb1⟩; have HS1 := Aside0.mk (HS0.out.next hb1); obtain ⟨k0, k1, k2, k3, k4, k5⟩ := HS1.out.cells; clear hb1)
  refine bodyPost_ret (results_ctt rfl _ _ (w.heap.size + 1) 25 #[.int .i64 0, .slice none 0 0] (0, 0) _ rfl (blk_set (blk_set HS1.out.2.2 0 _) 1 _) Try.underlying25 rfl (by kernel_rfl)) rfl ?_
  exact ⟨rfl, (HS1.out.1.setCell (p := ⟨w.heap.size + 1, 0, none⟩) (by simp) _).setCell (p := ⟨w.heap.size + 1, 1, none⟩) (by simp) _⟩

set_option maxRecDepth 100000 in
set_option maxHeartbeats 1000000 in
theorem take_good (dep : Int) (A : Option Addr) (c : Nat) (x : List Int) (L : List (List Int)) (w : World) (hA : Kd.C (Kd.slice 5 (Kd.int .u8)) w A (x :: L).length (x :: L)) (hc : (x :: L).length ≤ c) (hok : boxOkB dep (x :: L) = true) :
    Calls Try.prog 12 #[.agg #[.int .i64 dep, .slice A (x :: L).length c]] w fun e w' => ∃ v1 v2, e = .returned (.tuple #[.agg #[.int .i64 dep, v1], v2, .bool true]) ∧ Kd.S (Kd.slice 5 (Kd.int .u8)) 22 w' w.heap.size (fun k_ => some k_ ≠ (v2 : Value).ownBlock) v1 L ∧ Kd.R (Kd.int .u8) 5 w' w.heap.size (fun _ => True) v2 x ∧ Below w.heap.size w w' := by
  obtain ⟨p1, p2, p3, p8⟩ := ok_parts hok
  have HS0 := Aside0.mk (St.start dep A (x :: L).length c w)
  have HOK := Aside0.mk (fun W (h : St dep A (x :: L).length c w W) => ok_any dep A c (x :: L) W (Kd.C_below hA h.1) hc (by omega))
  have HFI := Aside0.mk (fun W (h : St dep A (x :: L).length c w W) => fill_any dep A c (x :: L) W (Kd.C_below hA h.1) hc (by omega) p8)
  rw [hok] at HOK
  have HL4 := Aside0.mk (show (x :: L).length ≤ 4 by omega)
  obtain ⟨n, hn⟩ : ∃ n, n = (x :: L).length := ⟨_, rfl⟩
  rw [← hn] at HS0 HOK HFI ⊢
  have HN := Aside0.mk hn
  clear hA hc hn hok p1 p2 p3 p8
  go_enter Try.func12, Try.ntmps12
  go_wp2_with (first | (go_at_call 15; with_reducible refine (HOK.out _ HS0.out).mono ?_; rintro e w1 ⟨rfl, hb1⟩; have HS1 := Aside0.mk (HS0.out.next hb1); obtain ⟨k0, k1, k2, k3, k4, k5⟩ := HS1.out.cells; clear hb1) | (go_at_call 34; refine (HFI.out _ HS1.out).mono ?_; rintro e w4 ⟨rfl, us0, T, hG, hE, hb4⟩; rw [HN.out, List.take_of_length_le (Nat.le_refl _)] at hE; obtain ⟨s, us, rfl⟩ : ∃ s us, us0 = s :: us := (by match us0, hE.1 with | s :: us, _ => exact ⟨s, us, rfl⟩); have HS4 := Aside0.mk (HS1.out.next hb4); have HB4 := Aside0.mk hb4; have HG := Aside0.mk hG; have HE := Aside0.mk hE; clear k0 k1 k2 k3 k4 k5; obtain ⟨k0, k1, k2, k3, k4, k5⟩ := HS4.out.cells; clear hb4 hG hE) | (go_at_call 38; refine (take_any (w1.heap.size + 1) s us (by have h1 := HE.out.1; have h2 := HL4.out; simp at h1 h2; omega) _ HG.out).mono ?_; obtain ⟨A5, n5, c5⟩ := s; rintro e w6 ⟨rfl, hb6, hk6, cs, hg6, hh6⟩; have HS6 := Aside0.mk (HS4.out.far (by have := HS1.out.size; omega) hb6); have HK6 := Aside0.mk hk6; have HG6 := Aside0.mk hg6; have HH6 := Aside0.mk hh6; clear k0 k1 k2 k3 k4 k5; obtain ⟨k0, k1, k2, k3, k4, k5⟩ := HS6.out.cells; clear hb6 hk6 hg6 hh6))
  have hE6 : ∀ (k : Nat) (t : Sl) (y : List Int), (((A5, n5, c5) : Sl) :: us)[k]? = some t → (x :: L)[k]? = some y → Kd.R (Kd.int .u8) 5 w6 w.heap.size (fun b => T b = k ∧ b < w4.heap.size) t.v y := fun k t y ht hy => Kd.R_lower (R_away61 (HE.out.2 k t y ht hy) HG.out HK6.out) HS1.out.1.size
  have HE6 := Aside0.mk hE6
  have hul : us.length ≤ 4 := by
    have h1 := HE.out.1
    have h2 := HL4.out
    simp at h1 h2
    omega
  have HLI := Aside0.mk (list_any (w1.heap.size + 1) 1 us cs (by omega) hul w6.drew (blk_drew HG6.out) HH6.out)
  have HUL := Aside0.mk (show us.length = L.length by have h1 := HE.out.1; simpa using h1)
  clear hul hE6
  go_region_with (go_at_call 37; refine HLI.out.mono ?_; rintro e w7 ⟨v, rfl, ho, hb7⟩; obtain ⟨A7, c7, rfl⟩ := own_slice ho; have HS7 := Aside0.mk (HS6.out.drew.next hb7); have HO7 := Aside0.mk ho; have HB7 := Aside0.mk hb7; clear k0 k1 k2 k3 k4 k5; obtain ⟨k0, k1, k2, k3, k4, k5⟩ := HS7.out.cells; clear hb7 ho)
  all_goals go_wp2
  all_goals have h0 := HE6.out 0 (A5, n5, c5) x rfl rfl
  all_goals have hS : Kd.S (Kd.slice 5 (Kd.int .u8)) 22 w7 w.heap.size (fun k_ => some k_ ≠ (Value.slice A5 n5 c5).ownBlock) (.slice A7 us.length c7) L := rows_S (w1 := w6.drew) (us := us) (fun j b => T b = j + 1 ∧ b < w4.heap.size) _ HUL.out (fun k t y ht hy => Kd.R_drew (HE6.out (k + 1) t y ht hy)) (fun i j b h1 h2 => by have := h1.1.symm.trans h2.1; omega) (fun j b h => Nat.lt_of_lt_of_le h.2 HK6.out.1) (fun j b h e => by have := (h0.1 b e.symm).1; have := h.1; omega) (fun b hb e => by have := (h0.1 b e.symm).2; have := HK6.out.1; have : w6.heap.size ≤ b := hb; omega) HO7.out HB7.out HS6.out.1.size
  all_goals have hR : Kd.R (Kd.int .u8) 5 w7 w.heap.size (fun _ => True) (Value.slice A5 n5 c5) x := Kd.R_mono (Kd.R_below (Kd.R_drew h0) HB7.out) (fun _ _ => trivial)
  all_goals have HSS := Aside0.mk hS
  all_goals have HRR := Aside0.mk hR
  all_goals clear hS hR h0
  all_goals refine bodyPost_ret (results_ctt rfl _ _ (w.heap.size + 1) 25 #[.int .i64 dep, .slice A7 us.length c7] (0, 0) _ rfl (blk_set (blk_set HS7.out.2.2 0 _) 1 _) Try.underlying25 rfl (by kernel_rfl)) rfl ?_
  all_goals refine ⟨_, _, rfl, Kd.S_set (Kd.S_set HSS.out HS7.out.2.2 ?_ 0 _) (blk_set HS7.out.2.2 0 _) ?_ 1 _, Kd.R_set (Kd.R_set HRR.out HS7.out.2.2 ?_ 0 _) (blk_set HS7.out.2.2 0 _) ?_ 1 _, (HS7.out.1.setCell (p := ⟨w.heap.size + 1, 0, none⟩) (by simp) _).setCell (p := ⟨w.heap.size + 1, 1, none⟩) (by simp) _⟩
  all_goals
    intro q hq
    simp [Kd.slice, Kd.int, Kd.scalar] at hq
    omega

set_option maxRecDepth 100000 in
set_option maxHeartbeats 1000000 in
theorem take_empty (dep : Int) (A : Option Addr) (c : Nat) (w : World) (hA : Kd.C (Kd.slice 5 (Kd.int .u8)) w A 0 ([] : List (List Int))) (hok : boxOkB dep [] = true) :
    Calls Try.prog 12 #[.agg #[.int .i64 dep, .slice A 0 c]] w fun e w' => ∃ v1, e = .returned (.tuple #[.agg #[.int .i64 dep, v1], .slice none 0 0, .bool false]) ∧ Kd.S (Kd.slice 5 (Kd.int .u8)) 22 w' w.heap.size (fun _ => True) v1 [] ∧ Below w.heap.size w w' := by
  have HS0 := Aside0.mk (St.start dep A 0 c w)
  have HOK := Aside0.mk (fun W (h : St dep A 0 c w W) => ok_any dep A c [] W (Kd.C_below hA h.1) (Nat.zero_le _) (Nat.zero_le _))
  have HFI := Aside0.mk (fun W (h : St dep A 0 c w W) => fill_any dep A c [] W (Kd.C_below hA h.1) (Nat.zero_le _) (Nat.zero_le _) (fun x hx => absurd hx (by simp)))
  have HOK' : Aside0 (∀ W, St dep A 0 c w W → Calls Try.prog 15 #[.agg #[.int .i64 dep, .slice A 0 c]] W fun e w' => e = .returned (.bool true) ∧ Below W.heap.size W w') := ⟨fun W h => by have := HOK.out W h; rw [hok] at this; exact this⟩
  have HFI' : Aside0 (∀ W, St dep A 0 c w W → Calls Try.prog 34 #[.agg #[.int .i64 dep, .slice A 0 c]] W fun e w' => e = .returned (.pointer (some ⟨W.heap.size + 1, 0, none⟩)) ∧ FillRel [] (W.heap.size + 1) W 0 w') := ⟨fun W h => HFI.out W h⟩
  clear hA hok HOK HFI
  go_enter Try.func12, Try.ntmps12
  go_wp2_with (first | (go_at_call 15; with_reducible refine (HOK'.out _ HS0.out).mono ?_; rintro e w1 ⟨rfl, hb1⟩; have HS1 := Aside0.mk (HS0.out.next hb1); obtain ⟨k0, k1, k2, k3, k4, k5⟩ := HS1.out.cells; clear hb1) | (go_at_call 34; refine (HFI'.out _ HS1.out).mono ?_; rintro e w4 ⟨rfl, us0, T, hG, hE, hb4⟩; obtain rfl : us0 = [] := (by match us0, hE.1 with | [], _ => rfl); have HS4 := Aside0.mk (HS1.out.next hb4); have HG := Aside0.mk hG; clear k0 k1 k2 k3 k4 k5; obtain ⟨k0, k1, k2, k3, k4, k5⟩ := HS4.out.cells; clear hb4 hG hE) | (go_at_call 38; refine (take_none (w1.heap.size + 1) _ _ _ _ _ HG.out).mono ?_; rintro e w6 ⟨rfl, rfl⟩))
  have HLI := Aside0.mk (list_any (w1.heap.size + 1) 0 [] _ (by omega) (by simp) w6.drew (blk_drew HG.out) (ring_holds [] (by simp)))
  go_region_with (go_at_call 37; refine HLI.out.mono ?_; rintro e w7 ⟨v, rfl, ho, hb7⟩; obtain ⟨A7, c7, rfl⟩ := own_slice ho; have HS7 := Aside0.mk (HS4.out.drew.next hb7); have HO7 := Aside0.mk ho; have HB7 := Aside0.mk hb7; clear k0 k1 k2 k3 k4 k5; obtain ⟨k0, k1, k2, k3, k4, k5⟩ := HS7.out.cells; clear hb7 ho)
  all_goals go_wp2
  all_goals have hS : Kd.S (Kd.slice 5 (Kd.int .u8)) 22 w7 w.heap.size (fun _ => True) (.slice A7 0 c7) ([] : List (List Int)) := rows_S (w1 := w6.drew) (us := []) (fun j b => False) _ rfl (fun k t y ht hy => by simp at ht) (fun i j b h1 h2 => h1.elim) (fun j b h => h.elim) (fun j b h => h.elim) (fun _ _ => trivial) HO7.out HB7.out HS4.out.1.size
  all_goals have HSS := Aside0.mk hS
  all_goals clear hS
  all_goals refine bodyPost_ret (results_ctt rfl _ _ (w.heap.size + 1) 25 #[.int .i64 dep, .slice A7 0 c7] (0, 0) _ rfl (blk_set (blk_set HS7.out.2.2 0 _) 1 _) Try.underlying25 rfl (by kernel_rfl)) rfl ?_
  all_goals refine ⟨_, rfl, Kd.S_set (Kd.S_set HSS.out HS7.out.2.2 ?_ 0 _) (blk_set HS7.out.2.2 0 _) ?_ 1 _, (HS7.out.1.setCell (p := ⟨w.heap.size + 1, 0, none⟩) (by simp) _).setCell (p := ⟨w.heap.size + 1, 1, none⟩) (by simp) _⟩
  all_goals
    intro q hq
    simp [Kd.slice, Kd.int, Kd.scalar] at hq
    omega
end Go.Proofs.YtekeehhbalhfiaaBoxTak
