/- What OutNext answers, the reference's and the program's: the half behind the number that is given away, and that number. Conditions: none. -/
import Derived.Test.YtaohaebgpbagmaaProg
import Derived.Test.YtaohaebgpbagmaaWMore
import Derived.WalkKit
import Derived.RegionTactic
import Derived.BigRegion
import Derived.Deep.QuietTactic
import Derived.BigQuiet
set_option linter.unusedSimpArgs false
set_option linter.unusedVariables false
namespace Go.Proofs.YtaohaebgpbagmaaOutNext
open Go.RowKit Go.Proofs.YtaohaebgpbagmaaW.PrintWords

theorem ret_bool {a b : Bool} (h : a = b) : Ending.returned (.bool a) = .returned (.bool b) := by rw [h]
theorem bcell {W w1 : World} (hb : Below W.heap.size W w1) : (∀ b o, b < W.heap.size → w1.cell? ⟨b, o, none⟩ = W.cell? ⟨b, o, none⟩) ∧ (∀ b o, b < W.heap.size → w1.frozen? ⟨b, o, none⟩ = W.frozen? ⟨b, o, none⟩) :=
  ⟨fun b o h => hb.cell (p := ⟨b, o, none⟩) h, fun b o h => hb.frozen (p := ⟨b, o, none⟩) h⟩
def outB (a b c d : Int) : Bool := decide ((1 ≤ a ∧ a ≤ 60000) ∧ (0 ≤ b ∧ b ≤ 60000) ∧ (0 ≤ c ∧ c ≤ 200) ∧ (0 ≤ d ∧ d ≤ 15))
def inR (a b c : Int) : Bool := decide (b ≤ a ∧ a ≤ c)
theorem in_any (a b c : Int) (w : World) : Calls Try.prog 42 #[.int .i64 a, .int .i64 b, .int .i64 c] w fun e w' => e = .returned (.bool (inR a b c)) ∧ w = w' := by
  go_enter Try.func42, Try.ntmps42
  go_wp2
  all_goals go_ret
  all_goals exact ⟨ret_bool (by unfold inR; first | (symm; rw [decide_eq_false_iff_not]; omega) | (rw [decide_eq_decide]; omega)), rfl⟩
theorem sok_any (a b c d : Int) (w : World) : Calls Try.prog 35 #[.agg #[.int .i64 a, .int .i64 b, .int .i64 c, .int .i64 d]] w fun e w' => e = .returned (.bool (outB a b c d)) ∧ Below w.heap.size w w' := by
  have kin := fun (a b c : Int) (x : Bool) (h : inR a b c = x) (w : World) => (in_any a b c w).mono (R' := fun e w' => e = .returned (.bool x) ∧ w = w') (fun _ _ hh => ⟨by rw [hh.1, h], hh.2⟩)
  have K := Aside0.mk kin
  clear kin
  unfold outB
  by_cases h1 : 1 ≤ a ∧ a ≤ 60000
  · by_cases h2 : 0 ≤ b ∧ b ≤ 60000
    · by_cases h3 : 0 ≤ c ∧ c ≤ 200
      · have k1 := Aside0.mk (K.out a 1 60000 true (by unfold inR; simpa using h1))
        have k2 := Aside0.mk (K.out b 0 60000 true (by unfold inR; simpa using h2))
        have k3 := Aside0.mk (K.out c 0 200 true (by unfold inR; simpa using h3))
        have k4 := Aside0.mk (K.out d 0 15 _ rfl)
        rw [show decide ((1 ≤ a ∧ a ≤ 60000) ∧ (0 ≤ b ∧ b ≤ 60000) ∧ (0 ≤ c ∧ c ≤ 200) ∧ (0 ≤ d ∧ d ≤ 15)) = decide (0 ≤ d ∧ d ≤ 15) by rw [decide_eq_decide]; omega]
        clear K
        obtain ⟨x, hx⟩ : ∃ x, inR d 0 15 = x := ⟨_, rfl⟩
        rw [show decide (0 ≤ d ∧ d ≤ 15) = inR d 0 15 from rfl]
        rw [hx] at k4 ⊢
        clear h1 h2 h3 hx
        go_enter Try.func35, Try.ntmps35
        go_wp2_with fail
        refine (k1.out _).mono ?_
        rintro e w1 ⟨rfl, rfl⟩
        go_wp2_with fail
        refine (k2.out _).mono ?_
        rintro e w1 ⟨rfl, rfl⟩
        go_wp2_with fail
        refine (k3.out _).mono ?_
        rintro e w1 ⟨rfl, rfl⟩
        go_wp2_with fail
        refine (k4.out _).mono ?_
        rintro e w1 ⟨rfl, rfl⟩
        go_wp2
        go_ret
        exact ⟨rfl, (Below.refl _ _).alloc (Nat.le_refl _) _⟩
      · have k1 := Aside0.mk (K.out a 1 60000 true (by unfold inR; simpa using h1))
        have k2 := Aside0.mk (K.out b 0 60000 true (by unfold inR; simpa using h2))
        have k3 := Aside0.mk (K.out c 0 200 false (by unfold inR; simpa using h3))
        rw [show decide ((1 ≤ a ∧ a ≤ 60000) ∧ (0 ≤ b ∧ b ≤ 60000) ∧ (0 ≤ c ∧ c ≤ 200) ∧ (0 ≤ d ∧ d ≤ 15)) = false by rw [decide_eq_false_iff_not]; omega]
        clear K h1 h2 h3
        go_enter Try.func35, Try.ntmps35
        go_wp2_with fail
        refine (k1.out _).mono ?_
        rintro e w1 ⟨rfl, rfl⟩
        go_wp2_with fail
        refine (k2.out _).mono ?_
        rintro e w1 ⟨rfl, rfl⟩
        go_wp2_with fail
        refine (k3.out _).mono ?_
        rintro e w1 ⟨rfl, rfl⟩
        go_wp2
        go_ret
        exact ⟨rfl, (Below.refl _ _).alloc (Nat.le_refl _) _⟩
    · have k1 := Aside0.mk (K.out a 1 60000 true (by unfold inR; simpa using h1))
      have k2 := Aside0.mk (K.out b 0 60000 false (by unfold inR; simpa using h2))
      rw [show decide ((1 ≤ a ∧ a ≤ 60000) ∧ (0 ≤ b ∧ b ≤ 60000) ∧ (0 ≤ c ∧ c ≤ 200) ∧ (0 ≤ d ∧ d ≤ 15)) = false by rw [decide_eq_false_iff_not]; omega]
      clear K h1 h2
      go_enter Try.func35, Try.ntmps35
      go_wp2_with fail
      refine (k1.out _).mono ?_
      rintro e w1 ⟨rfl, rfl⟩
      go_wp2_with fail
      refine (k2.out _).mono ?_
      rintro e w1 ⟨rfl, rfl⟩
      go_wp2
      go_ret
      exact ⟨rfl, (Below.refl _ _).alloc (Nat.le_refl _) _⟩
  · have k1 := Aside0.mk (K.out a 1 60000 false (by unfold inR; simpa using h1))
    rw [show decide ((1 ≤ a ∧ a ≤ 60000) ∧ (0 ≤ b ∧ b ≤ 60000) ∧ (0 ≤ c ∧ c ≤ 200) ∧ (0 ≤ d ∧ d ≤ 15)) = false by rw [decide_eq_false_iff_not]; omega]
    clear K h1
    go_enter Try.func35, Try.ntmps35
    go_wp2_with fail
    refine (k1.out _).mono ?_
    rintro e w1 ⟨rfl, rfl⟩
    go_wp2
    go_ret
    exact ⟨rfl, (Below.refl _ _).alloc (Nat.le_refl _) _⟩
theorem iok_any (a b c d : Int) (w : World) : Calls Try.prog 36 #[.agg #[.int .i64 a, .int .i64 b, .int .i64 c, .int .i64 d]] w fun e w' => e = .returned (.bool (outB a b c d)) ∧ Below w.heap.size w w' := by
  go_enter Try.func36, Try.ntmps36
  go_wp2
  all_goals go_ret
  all_goals exact ⟨ret_bool (by unfold outB; first | (symm; rw [decide_eq_false_iff_not]; omega) | (rw [decide_eq_decide]; omega)), (Below.refl _ _).alloc (Nat.le_refl _) _⟩

theorem out_in {a b c d : Int} (h : outB a b c d = true) : 0 ≤ c ∧ c ≤ 200 ∧ 0 ≤ d ∧ d ≤ 15 := by
  unfold outB at h
  rw [decide_eq_true_eq] at h
  omega
def nextV (a b c d : Int) : Int × Int × Int × Int × Int × Int × Bool :=
  if outB a b c d = true ∧ c ≠ 200 then (if d = 15 then (a, b, c + 1, 0, c, d, true) else (a, b, c, d + 1, c, d, true)) else (a, b, c, d, 0, 0, false)
def Gives (w : World) (r : Int × Int × Int × Int × Int × Int × Bool) (e : Ending) (w' : World) : Prop :=
  e = .returned (.tuple #[.agg #[.int .i64 r.1, .int .i64 r.2.1, .int .i64 r.2.2.1, .int .i64 r.2.2.2.1], .int .i64 r.2.2.2.2.1, .int .i64 r.2.2.2.2.2.1, .bool r.2.2.2.2.2.2]) ∧ Below w.heap.size w w'
theorem two_blocks (w : World) (o1 o2 : Obj) : Below w.heap.size w ((w.alloc o1).alloc o2) := ((Below.refl _ _).alloc (Nat.le_refl _) _).alloc (by simp) _

set_option maxHeartbeats 4000000 in
theorem snext_any (a b c d : Int) (w : World) : Calls Try.prog 34 #[.agg #[.int .i64 a, .int .i64 b, .int .i64 c, .int .i64 d]] w (Gives w (nextV a b c d)) := by
  obtain ⟨x, hx⟩ : ∃ x, outB a b c d = x := ⟨_, rfl⟩
  have k := sok_any a b c d
  rw [hx] at k
  have K := Aside0.mk k
  clear k
  cases x
  · rw [show nextV a b c d = (a, b, c, d, 0, 0, false) by simp [nextV, hx]]
    clear hx
    go_enter Try.func34, Try.ntmps34
    go_wp2_with (go_at_call 35; refine (K.out _).mono ?_; rintro e w1 ⟨rfl, hb1⟩; obtain ⟨hc1, hf1⟩ := bcell hb1; have hz1 : w.heap.size + 1 < w1.heap.size := (by have := hb1.size; simp at this; omega); have hz0 : w.heap.size < w1.heap.size := (by omega))
    have HB := below_step (two_blocks w (.cells #[.int .i64 a, .int .i64 b, .int .i64 c, .int .i64 d] 53) (.cells #[.int .i64 0, .int .i64 0, .int .i64 0, .int .i64 0] 53)) hb1
    refine bodyPost_ret (v := .tuple #[.agg #[.int .i64 a, .int .i64 b, .int .i64 c, .int .i64 d], .int .i64 0, .int .i64 0, .bool false]) (by simp [results, Try.results34, go_sem, hc1, hz0, hz1]) rfl ⟨rfl, ?_⟩
    repeat (with_reducible first | exact HB | apply below_alloc | apply below_drew | apply pw_below_drewN | refine below_set ?_ (Nat.le_refl _) | refine below_set ?_ (Nat.le_succ _))
  · have hin := out_in hx
    by_cases hc : c = 200
    · rw [show nextV a b c d = (a, b, c, d, 0, 0, false) by simp [nextV, hx, hc]]
      clear hx hin
      have tc : (c == 200) = true := by simpa using hc
      clear hc
      go_enter Try.func34, Try.ntmps34
      go_wp2_with (go_at_call 35; refine (K.out _).mono ?_; rintro e w1 ⟨rfl, hb1⟩; obtain ⟨hc1, hf1⟩ := bcell hb1; have hz1 : w.heap.size + 1 < w1.heap.size := (by have := hb1.size; simp at this; omega); have hz0 : w.heap.size < w1.heap.size := (by omega))
      have HB := below_step (two_blocks w (.cells #[.int .i64 a, .int .i64 b, .int .i64 c, .int .i64 d] 53) (.cells #[.int .i64 0, .int .i64 0, .int .i64 0, .int .i64 0] 53)) hb1
      refine bodyPost_ret (v := .tuple #[.agg #[.int .i64 a, .int .i64 b, .int .i64 c, .int .i64 d], .int .i64 0, .int .i64 0, .bool false]) (by simp [results, Try.results34, go_sem, hc1, hz0, hz1]) rfl ⟨rfl, ?_⟩
      repeat (with_reducible first | exact HB | apply below_alloc | apply below_drew | apply pw_below_drewN | refine below_set ?_ (Nat.le_refl _) | refine below_set ?_ (Nat.le_succ _))
    · have tc : (c == 200) = false := by simpa using hc
      by_cases hd : d = 15
      · subst hd
        rw [show nextV a b c 15 = (a, b, c + 1, 0, c, 15, true) by simp [nextV, hx, hc]]
        clear hx hc
        obtain ⟨hi0, hi1, _, _⟩ := hin
        go_enter Try.func34, Try.ntmps34
        go_wp2_with (go_at_call 35; refine (K.out _).mono ?_; rintro e w1 ⟨rfl, hb1⟩; obtain ⟨hc1, hf1⟩ := bcell hb1; have hz1 : w.heap.size + 1 < w1.heap.size := (by have := hb1.size; simp at this; omega); have hz0 : w.heap.size < w1.heap.size := (by omega))
        go_region
        all_goals try go_wp2
        have HB := below_step (two_blocks w (.cells #[.int .i64 a, .int .i64 b, .int .i64 c, .int .i64 15] 53) (.cells #[.int .i64 0, .int .i64 0, .int .i64 0, .int .i64 0] 53)) hb1
        refine bodyPost_ret (v := .tuple #[.agg #[.int .i64 a, .int .i64 b, .int .i64 (c + 1), .int .i64 0], .int .i64 c, .int .i64 15, .bool true]) (by simp [results, Try.results34, go_sem, hc1, hz0, hz1]) rfl ⟨rfl, ?_⟩
        repeat (with_reducible first | exact HB | apply below_alloc | apply below_drew | apply pw_below_drewN | refine below_set ?_ (Nat.le_refl _) | refine below_set ?_ (Nat.le_succ _))
      · rw [show nextV a b c d = (a, b, c, d + 1, c, d, true) by simp [nextV, hx, hc, hd]]
        have td : (d == 15) = false := by simpa using hd
        clear hx hc hd
        obtain ⟨hi0, hi1, hi2, hi3⟩ := hin
        go_enter Try.func34, Try.ntmps34
        go_wp2_with (go_at_call 35; refine (K.out _).mono ?_; rintro e w1 ⟨rfl, hb1⟩; obtain ⟨hc1, hf1⟩ := bcell hb1; have hz1 : w.heap.size + 1 < w1.heap.size := (by have := hb1.size; simp at this; omega); have hz0 : w.heap.size < w1.heap.size := (by omega))
        go_region
        all_goals try go_wp2
        have HB := below_step (two_blocks w (.cells #[.int .i64 a, .int .i64 b, .int .i64 c, .int .i64 d] 53) (.cells #[.int .i64 0, .int .i64 0, .int .i64 0, .int .i64 0] 53)) hb1
        refine bodyPost_ret (v := .tuple #[.agg #[.int .i64 a, .int .i64 b, .int .i64 c, .int .i64 (d + 1)], .int .i64 c, .int .i64 d, .bool true]) (by simp [results, Try.results34, go_sem, hc1, hz0, hz1]) rfl ⟨rfl, ?_⟩
        repeat (with_reducible first | exact HB | apply below_alloc | apply below_drew | apply pw_below_drewN | refine below_set ?_ (Nat.le_refl _) | refine below_set ?_ (Nat.le_succ _))

theorem num_any (c d : Int) (hc0 : 0 ≤ c) (hc1 : c ≤ 200) (hd0 : 0 ≤ d) (hd1 : d ≤ 15) (w : World) : Calls Try.prog 62 #[.agg #[.int .i64 c, .int .i64 d]] w
    fun e w' => e = .returned (if d = 15 then .agg #[.int .i64 (c + 1), .int .i64 0] else .agg #[.int .i64 c, .int .i64 (d + 1)]) ∧ Below w.heap.size w w' := by
  by_cases h : d = 15
  · subst h
    rw [if_pos rfl]
    go_enter Try.func62, Try.ntmps62
    go_wp2
    exact bodyPost_ret (v := .agg #[.int .i64 (c + 1), .int .i64 0]) (by simp [results, Try.results62, go_sem]) rfl ⟨rfl, two_blocks _ _ _⟩
  · rw [if_neg h]
    have td : (d == 15) = false := by simpa using h
    go_enter Try.func62, Try.ntmps62
    go_wp2
    exact bodyPost_ret (v := .agg #[.int .i64 c, .int .i64 (d + 1)]) (by simp [results, Try.results62, go_sem]) rfl ⟨rfl, two_blocks _ _ _⟩

set_option maxHeartbeats 8000000 in
theorem inext_any (a b c d : Int) (w : World) : Calls Try.prog 33 #[.agg #[.int .i64 a, .int .i64 b, .int .i64 c, .int .i64 d]] w (Gives w (nextV a b c d)) := by
  obtain ⟨x, hx⟩ : ∃ x, outB a b c d = x := ⟨_, rfl⟩
  have k := iok_any a b c d
  rw [hx] at k
  have K := Aside0.mk k
  clear k
  cases x
  · rw [show nextV a b c d = (a, b, c, d, 0, 0, false) by simp [nextV, hx]]
    clear hx
    go_enter Try.func33, Try.ntmps33
    go_wp2_with (go_at_call 36; refine (K.out _).mono ?_; rintro e w1 ⟨rfl, hb1⟩; obtain ⟨hc1, hf1⟩ := bcell hb1; have hz1 : w.heap.size + 1 < w1.heap.size := (by have := hb1.size; simp at this; omega); have hz0 : w.heap.size < w1.heap.size := (by omega))
    have HB := below_step (two_blocks w (.cells #[.int .i64 a, .int .i64 b, .int .i64 c, .int .i64 d] 53) (.cells #[.int .i64 0, .int .i64 0, .int .i64 0, .int .i64 0] 53)) hb1
    refine bodyPost_ret (v := .tuple #[.agg #[.int .i64 a, .int .i64 b, .int .i64 c, .int .i64 d], .int .i64 0, .int .i64 0, .bool false]) (by simp [results, Try.results33, go_sem, hc1, hz0, hz1]) rfl ⟨rfl, ?_⟩
    repeat (with_reducible first | exact HB | apply below_alloc | apply below_drew | apply pw_below_drewN | refine below_set ?_ (Nat.le_refl _) | refine below_set ?_ (Nat.le_succ _))
  · have hin := out_in hx
    by_cases hc : c = 200
    · rw [show nextV a b c d = (a, b, c, d, 0, 0, false) by simp [nextV, hx, hc]]
      clear hx hin
      have tc : (c == 200) = true := by simpa using hc
      clear hc
      go_enter Try.func33, Try.ntmps33
      go_wp2_with (go_at_call 36; refine (K.out _).mono ?_; rintro e w1 ⟨rfl, hb1⟩; obtain ⟨hc1, hf1⟩ := bcell hb1; have hz1 : w.heap.size + 1 < w1.heap.size := (by have := hb1.size; simp at this; omega); have hz0 : w.heap.size < w1.heap.size := (by omega))
      have HB := below_step (two_blocks w (.cells #[.int .i64 a, .int .i64 b, .int .i64 c, .int .i64 d] 53) (.cells #[.int .i64 0, .int .i64 0, .int .i64 0, .int .i64 0] 53)) hb1
      refine bodyPost_ret (v := .tuple #[.agg #[.int .i64 a, .int .i64 b, .int .i64 c, .int .i64 d], .int .i64 0, .int .i64 0, .bool false]) (by simp [results, Try.results33, go_sem, hc1, hz0, hz1]) rfl ⟨rfl, ?_⟩
      repeat (with_reducible first | exact HB | apply below_alloc | apply below_drew | apply pw_below_drewN | refine below_set ?_ (Nat.le_refl _) | refine below_set ?_ (Nat.le_succ _))
    · have tc : (c == 200) = false := by simpa using hc
      have nx := num_any c d hin.1 hin.2.1 hin.2.2.1 hin.2.2.2
      by_cases hd : d = 15
      · subst hd
        rw [show nextV a b c 15 = (a, b, c + 1, 0, c, 15, true) by simp [nextV, hx, hc]]
        rw [if_pos rfl] at nx
        have NX := Aside0.mk nx
        clear hx hc nx
        obtain ⟨hi0, hi1, _, _⟩ := hin
        go_enter Try.func33, Try.ntmps33
        go_wp2_with (first | (go_at_call 36; refine (K.out _).mono ?_; rintro e w1 ⟨rfl, hb1⟩; obtain ⟨hc1, hf1⟩ := bcell hb1; have hz1 : w.heap.size + 1 < w1.heap.size := (by have := hb1.size; simp at this; omega); have hz0 : w.heap.size < w1.heap.size := (by omega)) | (go_at_call 62; refine (NX.out _).mono ?_; rintro e w2 ⟨rfl, hb2⟩; obtain ⟨hc2, hf2⟩ := bcell hb2; have hz2 : w1.heap.size < w2.heap.size := (by have := hb2.size; simp at this; omega); have hy0 : w.heap.size < w1.heap.size + 1 := (by omega); have hy1 : w.heap.size + 1 < w1.heap.size + 1 := (by omega); have hy2 : w.heap.size < w2.heap.size := (by omega); have hy3 : w.heap.size + 1 < w2.heap.size := (by omega); have ny0 : ¬ w.heap.size = w1.heap.size := (by omega); have ny1 : ¬ w.heap.size + 1 = w1.heap.size := (by omega); have q0 : w2.cell? ⟨w.heap.size, 0, none⟩ = some (.int .i64 a) := (by rw [hc2 _ _ (by simp <;> omega)]; go_simp); have q1 : w2.cell? ⟨w.heap.size, 1, none⟩ = some (.int .i64 b) := (by rw [hc2 _ _ (by simp <;> omega)]; go_simp); have q2 : w2.cell? ⟨w.heap.size, 2, none⟩ = some (.int .i64 c) := (by rw [hc2 _ _ (by simp <;> omega)]; go_simp); have q3 : w2.cell? ⟨w.heap.size, 3, none⟩ = some (.int .i64 15) := (by rw [hc2 _ _ (by simp <;> omega)]; go_simp); have q4 : w2.cell? ⟨w.heap.size + 1, 0, none⟩ = some (.int .i64 0) := (by rw [hc2 _ _ (by simp <;> omega)]; go_simp); have q5 : w2.cell? ⟨w.heap.size + 1, 1, none⟩ = some (.int .i64 0) := (by rw [hc2 _ _ (by simp <;> omega)]; go_simp); have q6 : w2.cell? ⟨w.heap.size + 1, 2, none⟩ = some (.int .i64 0) := (by rw [hc2 _ _ (by simp <;> omega)]; go_simp); have q7 : w2.cell? ⟨w.heap.size + 1, 3, none⟩ = some (.int .i64 0) := (by rw [hc2 _ _ (by simp <;> omega)]; go_simp); have q8 : w2.cell? ⟨w1.heap.size, 0, none⟩ = some (.int .i64 c) := (by rw [hc2 _ _ (by simp <;> omega)]; go_simp); have q9 : w2.cell? ⟨w1.heap.size, 1, none⟩ = some (.int .i64 15) := (by rw [hc2 _ _ (by simp <;> omega)]; go_simp); clear hc2))
        go_region
        all_goals go_wp2
        go_region
        all_goals go_wp2
        have HB1 := below_step (two_blocks w (.cells #[.int .i64 a, .int .i64 b, .int .i64 c, .int .i64 15] 53) (.cells #[.int .i64 0, .int .i64 0, .int .i64 0, .int .i64 0] 53)) hb1
        have HB := below_step (below_alloc HB1 _) hb2
        refine bodyPost_ret (v := .tuple #[.agg #[.int .i64 a, .int .i64 b, .int .i64 (c + 1), .int .i64 0], .int .i64 c, .int .i64 15, .bool true]) (by simp [results, Try.results33, go_sem, *]) rfl ⟨rfl, ?_⟩
        repeat (with_reducible first | exact HB | apply below_alloc | apply below_drew | apply pw_below_drewN | refine below_set ?_ (Nat.le_refl _) | refine below_set ?_ (Nat.le_succ _))
      · rw [show nextV a b c d = (a, b, c, d + 1, c, d, true) by simp [nextV, hx, hc, hd]]
        rw [if_neg hd] at nx
        have NX := Aside0.mk nx
        clear hx hc hd nx
        obtain ⟨hi0, hi1, hi2, hi3⟩ := hin
        go_enter Try.func33, Try.ntmps33
        go_wp2_with (first | (go_at_call 36; refine (K.out _).mono ?_; rintro e w1 ⟨rfl, hb1⟩; obtain ⟨hc1, hf1⟩ := bcell hb1; have hz1 : w.heap.size + 1 < w1.heap.size := (by have := hb1.size; simp at this; omega); have hz0 : w.heap.size < w1.heap.size := (by omega)) | (go_at_call 62; refine (NX.out _).mono ?_; rintro e w2 ⟨rfl, hb2⟩; obtain ⟨hc2, hf2⟩ := bcell hb2; have hz2 : w1.heap.size < w2.heap.size := (by have := hb2.size; simp at this; omega); have hy0 : w.heap.size < w1.heap.size + 1 := (by omega); have hy1 : w.heap.size + 1 < w1.heap.size + 1 := (by omega); have hy2 : w.heap.size < w2.heap.size := (by omega); have hy3 : w.heap.size + 1 < w2.heap.size := (by omega); have ny0 : ¬ w.heap.size = w1.heap.size := (by omega); have ny1 : ¬ w.heap.size + 1 = w1.heap.size := (by omega); have q0 : w2.cell? ⟨w.heap.size, 0, none⟩ = some (.int .i64 a) := (by rw [hc2 _ _ (by simp <;> omega)]; go_simp); have q1 : w2.cell? ⟨w.heap.size, 1, none⟩ = some (.int .i64 b) := (by rw [hc2 _ _ (by simp <;> omega)]; go_simp); have q2 : w2.cell? ⟨w.heap.size, 2, none⟩ = some (.int .i64 c) := (by rw [hc2 _ _ (by simp <;> omega)]; go_simp); have q3 : w2.cell? ⟨w.heap.size, 3, none⟩ = some (.int .i64 d) := (by rw [hc2 _ _ (by simp <;> omega)]; go_simp); have q4 : w2.cell? ⟨w.heap.size + 1, 0, none⟩ = some (.int .i64 0) := (by rw [hc2 _ _ (by simp <;> omega)]; go_simp); have q5 : w2.cell? ⟨w.heap.size + 1, 1, none⟩ = some (.int .i64 0) := (by rw [hc2 _ _ (by simp <;> omega)]; go_simp); have q6 : w2.cell? ⟨w.heap.size + 1, 2, none⟩ = some (.int .i64 0) := (by rw [hc2 _ _ (by simp <;> omega)]; go_simp); have q7 : w2.cell? ⟨w.heap.size + 1, 3, none⟩ = some (.int .i64 0) := (by rw [hc2 _ _ (by simp <;> omega)]; go_simp); have q8 : w2.cell? ⟨w1.heap.size, 0, none⟩ = some (.int .i64 c) := (by rw [hc2 _ _ (by simp <;> omega)]; go_simp); have q9 : w2.cell? ⟨w1.heap.size, 1, none⟩ = some (.int .i64 d) := (by rw [hc2 _ _ (by simp <;> omega)]; go_simp); clear hc2))
        go_region
        all_goals go_wp2
        go_region
        all_goals go_wp2
        have HB1 := below_step (two_blocks w (.cells #[.int .i64 a, .int .i64 b, .int .i64 c, .int .i64 d] 53) (.cells #[.int .i64 0, .int .i64 0, .int .i64 0, .int .i64 0] 53)) hb1
        have HB := below_step (below_alloc HB1 _) hb2
        refine bodyPost_ret (v := .tuple #[.agg #[.int .i64 a, .int .i64 b, .int .i64 c, .int .i64 (d + 1)], .int .i64 c, .int .i64 d, .bool true]) (by simp [results, Try.results33, go_sem, *]) rfl ⟨rfl, ?_⟩
        repeat (with_reducible first | exact HB | apply below_alloc | apply below_drew | apply pw_below_drewN | refine below_set ?_ (Nat.le_refl _) | refine below_set ?_ (Nat.le_succ _))
end Go.Proofs.YtaohaebgpbagmaaOutNext
