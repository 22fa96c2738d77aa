/- What BytPut answers: a number as bytes, the greatest first. Conditions: none. -/
import Derived.Test.YtghmfcfgmcngpaaDoorBytLay
set_option linter.unusedVariables false
set_option linter.unusedSimpArgs false
namespace Go.Proofs.YtghmfcfgmcngpaaDoorBytPut
open Go.RowKit Go.Proofs.YtghmfcfgmcngpaaDoorW.PrintWords Go.Proofs.YtghmfcfgmcngpaaDoorBytLay

theorem own_R' {w : World} {base n : Nat} {v : Value} {l : List Int} (h : w.ownsRow (base + 1) 5 1 v n (nums .u8 (l.take n))) (hm : l.length = n) : Kd.R (Kd.int .u8) 5 w base (fun _ => True) v l := by
  subst hm
  rw [List.take_length] at h
  exact Kd.R_of_own (own_weaken h (Nat.le_succ _)) (fun _ _ => trivial)

set_option maxRecDepth 100000 in
set_option maxHeartbeats 4000000 in
theorem put_good1 (n : Int) (w : World) (hn0 : 0 ≤ n) (hn1 : n < 256) :
    Calls Tryd.prog 15 #[.int .i64 n, .int .i64 1] w fun e w' => ∃ v, e = .returned v ∧ Kd.R (Kd.int .u8) 5 w' w.heap.size (fun _ => True) v (putL n 1) ∧ Below w.heap.size w w' := by
  have hlay := lay_any n 1 w.heap.size (by decide) hn0 (by omega) (w.alloc (.cells #[.slice none 0 0] 48)) (heap_alloc_new w _)
  have HL := Aside0.mk hlay
  have hd : n / 256 = 0 := by omega
  clear hlay
  go_enter Tryd.func15, Tryd.ntmps15
  go_wp2_with (go_at_call 37; refine HL.out.mono ?_; rintro e w' ⟨⟨v0, rfl⟩, v, hv, hown, hB⟩; have hc := blk_cell hv 0; have HV := Aside0.mk hv; have HO := Aside0.mk hown; have HB := Aside0.mk hB; clear hv hown hB)
  go_ret
  exact ⟨_, rfl, own_R' HO.out (putL_length _ _), (below_alloc (Below.refl _ _) _).trans HB.out⟩

set_option maxRecDepth 100000 in
set_option maxHeartbeats 4000000 in
theorem put_good2 (n : Int) (w : World) (hn0 : 0 ≤ n) (hn1 : n < 65536) :
    Calls Tryd.prog 15 #[.int .i64 n, .int .i64 2] w fun e w' => ∃ v, e = .returned v ∧ Kd.R (Kd.int .u8) 5 w' w.heap.size (fun _ => True) v (putL n 2) ∧ Below w.heap.size w w' := by
  have hlay := lay_any n 2 w.heap.size (by decide) hn0 (by omega) (w.alloc (.cells #[.slice none 0 0] 48)) (heap_alloc_new w _)
  have HL := Aside0.mk hlay
  have hd : n / 65536 = 0 := by omega
  clear hlay
  go_enter Tryd.func15, Tryd.ntmps15
  go_wp2_with (go_at_call 37; refine HL.out.mono ?_; rintro e w' ⟨⟨v0, rfl⟩, v, hv, hown, hB⟩; have hc := blk_cell hv 0; have HV := Aside0.mk hv; have HO := Aside0.mk hown; have HB := Aside0.mk hB; clear hv hown hB)
  go_ret
  exact ⟨_, rfl, own_R' HO.out (putL_length _ _), (below_alloc (Below.refl _ _) _).trans HB.out⟩

set_option maxRecDepth 100000 in
set_option maxHeartbeats 4000000 in
theorem put_good3 (n : Int) (w : World) (hn0 : 0 ≤ n) (hn1 : n < 16777216) :
    Calls Tryd.prog 15 #[.int .i64 n, .int .i64 3] w fun e w' => ∃ v, e = .returned v ∧ Kd.R (Kd.int .u8) 5 w' w.heap.size (fun _ => True) v (putL n 3) ∧ Below w.heap.size w w' := by
  have hlay := lay_any n 3 w.heap.size (by decide) hn0 (by omega) (w.alloc (.cells #[.slice none 0 0] 48)) (heap_alloc_new w _)
  have HL := Aside0.mk hlay
  have hd : n / 16777216 = 0 := by omega
  clear hlay
  go_enter Tryd.func15, Tryd.ntmps15
  go_wp2_with (go_at_call 37; refine HL.out.mono ?_; rintro e w' ⟨⟨v0, rfl⟩, v, hv, hown, hB⟩; have hc := blk_cell hv 0; have HV := Aside0.mk hv; have HO := Aside0.mk hown; have HB := Aside0.mk hB; clear hv hown hB)
  go_ret
  exact ⟨_, rfl, own_R' HO.out (putL_length _ _), (below_alloc (Below.refl _ _) _).trans HB.out⟩

set_option maxRecDepth 100000 in
set_option maxHeartbeats 4000000 in
theorem put_good4 (n : Int) (w : World) (hn0 : 0 ≤ n) (hn1 : n < 4294967296) :
    Calls Tryd.prog 15 #[.int .i64 n, .int .i64 4] w fun e w' => ∃ v, e = .returned v ∧ Kd.R (Kd.int .u8) 5 w' w.heap.size (fun _ => True) v (putL n 4) ∧ Below w.heap.size w w' := by
  have hlay := lay_any n 4 w.heap.size (by decide) hn0 (by omega) (w.alloc (.cells #[.slice none 0 0] 48)) (heap_alloc_new w _)
  have HL := Aside0.mk hlay
  have hd : n / 4294967296 = 0 := by omega
  clear hlay
  go_enter Tryd.func15, Tryd.ntmps15
  go_wp2_with (go_at_call 37; refine HL.out.mono ?_; rintro e w' ⟨⟨v0, rfl⟩, v, hv, hown, hB⟩; have hc := blk_cell hv 0; have HV := Aside0.mk hv; have HO := Aside0.mk hown; have HB := Aside0.mk hB; clear hv hown hB)
  go_ret
  exact ⟨_, rfl, own_R' HO.out (putL_length _ _), (below_alloc (Below.refl _ _) _).trans HB.out⟩

set_option maxHeartbeats 1000000 in
theorem put_low (n s : Int) (w : World) (h : s < 1) :
    Calls Tryd.prog 15 #[.int .i64 n, .int .i64 s] w fun e w' => ∃ v, e = .returned v ∧ Kd.R (Kd.int .u8) 5 w' w.heap.size (fun _ => True) v [] ∧ Below w.heap.size w w' := by
  go_enter Tryd.func15, Tryd.ntmps15
  go_wp2
  go_ret
  exact ⟨_, rfl, Kd.R_nil _ _ _ _ _, Below.refl _ _⟩

set_option maxHeartbeats 1000000 in
theorem put_high (n s : Int) (w : World) (h : 4 < s) :
    Calls Tryd.prog 15 #[.int .i64 n, .int .i64 s] w fun e w' => ∃ v, e = .returned v ∧ Kd.R (Kd.int .u8) 5 w' w.heap.size (fun _ => True) v [] ∧ Below w.heap.size w w' := by
  go_enter Tryd.func15, Tryd.ntmps15
  go_wp2
  go_ret
  exact ⟨_, rfl, Kd.R_nil _ _ _ _ _, Below.refl _ _⟩

set_option maxHeartbeats 1000000 in
theorem put_neg (n s : Int) (w : World) (h0 : 1 ≤ s) (h1 : s ≤ 4) (h : n < 0) :
    Calls Tryd.prog 15 #[.int .i64 n, .int .i64 s] w fun e w' => ∃ v, e = .returned v ∧ Kd.R (Kd.int .u8) 5 w' w.heap.size (fun _ => True) v [] ∧ Below w.heap.size w w' := by
  go_enter Tryd.func15, Tryd.ntmps15
  go_wp2
  go_ret
  exact ⟨_, rfl, Kd.R_nil _ _ _ _ _, Below.refl _ _⟩

set_option maxHeartbeats 1000000 in
theorem put_big1 (n : Int) (w : World) (h0 : 0 ≤ n) (h : 256 ≤ n) :
    Calls Tryd.prog 15 #[.int .i64 n, .int .i64 1] w fun e w' => ∃ v, e = .returned v ∧ Kd.R (Kd.int .u8) 5 w' w.heap.size (fun _ => True) v [] ∧ Below w.heap.size w w' := by
  have t0 : (n / 256 != 0) = true := by rw [bne_iff_ne]; omega
  go_enter Tryd.func15, Tryd.ntmps15
  go_wp2
  go_ret
  exact ⟨_, rfl, Kd.R_nil _ _ _ _ _, Below.refl _ _⟩

set_option maxHeartbeats 1000000 in
theorem put_big2 (n : Int) (w : World) (h0 : 0 ≤ n) (h : 65536 ≤ n) :
    Calls Tryd.prog 15 #[.int .i64 n, .int .i64 2] w fun e w' => ∃ v, e = .returned v ∧ Kd.R (Kd.int .u8) 5 w' w.heap.size (fun _ => True) v [] ∧ Below w.heap.size w w' := by
  have t0 : (n / 65536 != 0) = true := by rw [bne_iff_ne]; omega
  go_enter Tryd.func15, Tryd.ntmps15
  go_wp2
  go_ret
  exact ⟨_, rfl, Kd.R_nil _ _ _ _ _, Below.refl _ _⟩

set_option maxHeartbeats 1000000 in
theorem put_big3 (n : Int) (w : World) (h0 : 0 ≤ n) (h : 16777216 ≤ n) :
    Calls Tryd.prog 15 #[.int .i64 n, .int .i64 3] w fun e w' => ∃ v, e = .returned v ∧ Kd.R (Kd.int .u8) 5 w' w.heap.size (fun _ => True) v [] ∧ Below w.heap.size w w' := by
  have t0 : (n / 16777216 != 0) = true := by rw [bne_iff_ne]; omega
  go_enter Tryd.func15, Tryd.ntmps15
  go_wp2
  go_ret
  exact ⟨_, rfl, Kd.R_nil _ _ _ _ _, Below.refl _ _⟩

set_option maxHeartbeats 1000000 in
theorem put_big4 (n : Int) (w : World) (h0 : 0 ≤ n) (h : 4294967296 ≤ n) :
    Calls Tryd.prog 15 #[.int .i64 n, .int .i64 4] w fun e w' => ∃ v, e = .returned v ∧ Kd.R (Kd.int .u8) 5 w' w.heap.size (fun _ => True) v [] ∧ Below w.heap.size w w' := by
  have t0 : (n / 4294967296 != 0) = true := by rw [bne_iff_ne]; omega
  go_enter Tryd.func15, Tryd.ntmps15
  go_wp2
  go_ret
  exact ⟨_, rfl, Kd.R_nil _ _ _ _ _, Below.refl _ _⟩

def putZ (n s : Int) : List Int := if (1 ≤ s ∧ s ≤ 4) ∧ 0 ≤ n ∧ n < 256 ^ s.toNat then putL n s.toNat else []
theorem put_any (n s : Int) (w : World) :
    Calls Tryd.prog 15 #[.int .i64 n, .int .i64 s] w fun e w' => ∃ v, e = .returned v ∧ Kd.R (Kd.int .u8) 5 w' w.heap.size (fun _ => True) v (putZ n s) ∧ Below w.heap.size w w' := by
  by_cases h1 : 1 ≤ s ∧ s ≤ 4
  · by_cases h0 : 0 ≤ n
    · obtain rfl | rfl | rfl | rfl : s = 1 ∨ s = 2 ∨ s = 3 ∨ s = 4 := by omega
      · by_cases h : n < 256
        · have e : putZ n 1 = putL n 1 := if_pos ⟨h1, h0, h⟩
          rw [e]; exact put_good1 n w h0 h
        · have e : putZ n 1 = [] := if_neg (fun hh => h hh.2.2)
          rw [e]; exact put_big1 n w h0 (by omega)
      · by_cases h : n < 65536
        · have e : putZ n 2 = putL n 2 := if_pos ⟨h1, h0, h⟩
          rw [e]; exact put_good2 n w h0 h
        · have e : putZ n 2 = [] := if_neg (fun hh => h hh.2.2)
          rw [e]; exact put_big2 n w h0 (by omega)
      · by_cases h : n < 16777216
        · have e : putZ n 3 = putL n 3 := if_pos ⟨h1, h0, h⟩
          rw [e]; exact put_good3 n w h0 h
        · have e : putZ n 3 = [] := if_neg (fun hh => h hh.2.2)
          rw [e]; exact put_big3 n w h0 (by omega)
      · by_cases h : n < 4294967296
        · have e : putZ n 4 = putL n 4 := if_pos ⟨h1, h0, h⟩
          rw [e]; exact put_good4 n w h0 h
        · have e : putZ n 4 = [] := if_neg (fun hh => h hh.2.2)
          rw [e]; exact put_big4 n w h0 (by omega)
    · have e : putZ n s = [] := if_neg (fun hh => h0 hh.2.1)
      rw [e]; exact put_neg n s w h1.1 h1.2 (by omega)
  · have e : putZ n s = [] := if_neg (fun hh => h1 hh.1)
    rw [e]
    by_cases hl : s < 1
    · exact put_low n s w hl
    · exact put_high n s w (by omega)
end Go.Proofs.YtghmfcfgmcngpaaDoorBytPut
