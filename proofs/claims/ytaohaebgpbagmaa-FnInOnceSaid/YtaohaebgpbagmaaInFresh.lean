/- What InFresh answers: a half that is ok, a number that may be, and that isn't ahead of what comes next. Conditions: none. -/
import Derived.Test.YtaohaebgpbagmaaProg
import Derived.Test.YtaohaebgpbagmaaWMore
import Derived.WalkKit
import Derived.RegionTactic
import Derived.Deep.QuietTactic
import Derived.BigQuiet
import Derived.Deep.RegionWith
namespace Go.Proofs.YtaohaebgpbagmaaInFresh
open Go.RowKit Go.Proofs.YtaohaebgpbagmaaW.PrintWords

theorem nan_int (x : Int) (w : World) : Calls Try.prog 67 #[.int .i64 x] w fun e w' => e = .returned (.bool false) ∧ w = w' := by
  have h : (x != x) = false := by simp
  go_enter Try.func67, Try.ntmps67
  go_wp2
  go_ret
  exact ⟨rfl, rfl⟩
def cmp3 (x y : Int) : Int := if x < y then -1 else if y < x then 1 else 0
theorem cmp_int (x y : Int) (w : World) : Calls Try.prog 66 #[.int .i64 x, .int .i64 y] w fun e w' => e = .returned (.int .i64 (cmp3 x y)) ∧ w = w' := by
  by_cases h1 : x < y
  · have e : cmp3 x y = -1 := by unfold cmp3; rw [if_pos h1]
    rw [e]
    clear e
    go_enter Try.func66, Try.ntmps66
    go_wp2_with (go_at_call 67; refine (nan_int _ _).mono ?_; rintro e w' ⟨rfl, rfl⟩)
    go_ret
    exact ⟨rfl, rfl⟩
  · by_cases h2 : y < x
    · have e : cmp3 x y = 1 := by unfold cmp3; rw [if_neg h1, if_pos h2]
      rw [e]
      clear e
      go_enter Try.func66, Try.ntmps66
      go_wp2_with (go_at_call 67; refine (nan_int _ _).mono ?_; rintro e w' ⟨rfl, rfl⟩)
      go_ret
      exact ⟨rfl, rfl⟩
    · have e : cmp3 x y = 0 := by unfold cmp3; rw [if_neg h1, if_neg h2]
      rw [e]
      clear e
      go_enter Try.func66, Try.ntmps66
      go_wp2_with (go_at_call 67; refine (nan_int _ _).mono ?_; rintro e w' ⟨rfl, rfl⟩)
      go_ret
      exact ⟨rfl, rfl⟩

def lex3 (x0 x1 x2 y0 y1 y2 : Int) : Int := if cmp3 x0 y0 ≠ 0 then cmp3 x0 y0 else if cmp3 x1 y1 ≠ 0 then cmp3 x1 y1 else cmp3 x2 y2
theorem compare3 (g h : Nat) (x0 x1 x2 y0 y1 y2 : Int) (w : World)
    (a0 : w.cell? ⟨g, 0, none⟩ = some (.int .i64 x0)) (a1 : w.cell? ⟨g, 1, none⟩ = some (.int .i64 x1)) (a2 : w.cell? ⟨g, 2, none⟩ = some (.int .i64 x2))
    (b0 : w.cell? ⟨h, 0, none⟩ = some (.int .i64 y0)) (b1 : w.cell? ⟨h, 1, none⟩ = some (.int .i64 y1)) (b2 : w.cell? ⟨h, 2, none⟩ = some (.int .i64 y2)) :
    Calls Try.prog 63 #[.slice (some ⟨g, 0, none⟩) 3 3, .slice (some ⟨h, 0, none⟩) 3 3] w fun e w' => e = .returned (.int .i64 (lex3 x0 x1 x2 y0 y1 y2)) ∧ w = w' := by
  obtain ⟨c0, hc0⟩ : ∃ c, cmp3 x0 y0 = c := ⟨_, rfl⟩
  obtain ⟨c1, hc1⟩ : ∃ c, cmp3 x1 y1 = c := ⟨_, rfl⟩
  obtain ⟨c2, hc2⟩ : ∃ c, cmp3 x2 y2 = c := ⟨_, rfl⟩
  have k0 := cmp_int x0 y0
  have k1 := cmp_int x1 y1
  have k2 := cmp_int x2 y2
  rw [hc0] at k0
  rw [hc1] at k1
  rw [hc2] at k2
  unfold lex3
  rw [hc0, hc1, hc2]
  clear hc0 hc1 hc2
  have K0 := Aside0.mk k0
  have K1 := Aside0.mk k1
  have K2 := Aside0.mk k2
  clear k0 k1 k2
  by_cases h0 : c0 = 0
  · subst h0
    by_cases h1 : c1 = 0
    · subst h1
      rw [if_neg (by simp), if_neg (by simp)]
      by_cases h2 : c2 = 0
      · subst h2
        go_enter Try.func63, Try.ntmps63
        go_wp2
        refine wp_loop_rounds 4 ?_
        rw [rounds_succ]
        go_wp2_with (go_at_call 66; refine (K0.out _).mono ?_; rintro e w' ⟨rfl, rfl⟩)
        rw [rounds_succ]
        go_wp2_with (go_at_call 66; refine (K1.out _).mono ?_; rintro e w' ⟨rfl, rfl⟩)
        rw [rounds_succ]
        go_wp2_with (go_at_call 66; refine (K2.out _).mono ?_; rintro e w' ⟨rfl, rfl⟩)
        rw [rounds_succ]
        go_wp2
        go_ret
        exact ⟨rfl, rfl⟩
      · have t2 : (c2 != 0) = true := by simpa using h2
        go_enter Try.func63, Try.ntmps63
        go_wp2
        refine wp_loop_rounds 4 ?_
        rw [rounds_succ]
        go_wp2_with (go_at_call 66; refine (K0.out _).mono ?_; rintro e w' ⟨rfl, rfl⟩)
        rw [rounds_succ]
        go_wp2_with (go_at_call 66; refine (K1.out _).mono ?_; rintro e w' ⟨rfl, rfl⟩)
        rw [rounds_succ]
        go_wp2_with (go_at_call 66; refine (K2.out _).mono ?_; rintro e w' ⟨rfl, rfl⟩)
        go_ret
        exact ⟨rfl, rfl⟩
    · rw [if_neg (by simp), if_pos h1]
      have t1 : (c1 != 0) = true := by simpa using h1
      go_enter Try.func63, Try.ntmps63
      go_wp2
      refine wp_loop_rounds 4 ?_
      rw [rounds_succ]
      go_wp2_with (go_at_call 66; refine (K0.out _).mono ?_; rintro e w' ⟨rfl, rfl⟩)
      rw [rounds_succ]
      go_wp2_with (go_at_call 66; refine (K1.out _).mono ?_; rintro e w' ⟨rfl, rfl⟩)
      go_ret
      exact ⟨rfl, rfl⟩
  · rw [if_pos h0]
    have t0 : (c0 != 0) = true := by simpa using h0
    go_enter Try.func63, Try.ntmps63
    go_wp2
    refine wp_loop_rounds 4 ?_
    rw [rounds_succ]
    go_wp2_with (go_at_call 66; refine (K0.out _).mono ?_; rintro e w' ⟨rfl, rfl⟩)
    go_ret
    exact ⟨rfl, rfl⟩

theorem ret_bool {a b : Bool} (h : a = b) : Ending.returned (.bool a) = .returned (.bool b) := by rw [h]
def mayB (b e s : Int) : Bool := decide ((1 ≤ b ∧ b ≤ 60000) ∧ (0 ≤ e ∧ e ≤ 200) ∧ (0 ≤ s ∧ s ≤ 15))
theorem may_any (b e s : Int) (w : World) : Calls Try.prog 44 #[.agg #[.int .i64 b, .int .i64 e, .int .i64 s]] w fun en w' => en = .returned (.bool (mayB b e s)) ∧ Below w.heap.size w w' := by
  go_enter Try.func44, Try.ntmps44
  go_wp2
  all_goals go_ret
  all_goals exact ⟨ret_bool (by unfold mayB; first | (symm; rw [decide_eq_false_iff_not]; omega) | (rw [decide_eq_decide]; omega)), (Below.refl _ _).alloc (Nat.le_refl _) _⟩

theorem ahead_any (x0 x1 x2 y0 y1 y2 : Int) (w : World) : Calls Try.prog 45 #[.agg #[.int .i64 x0, .int .i64 x1, .int .i64 x2], .agg #[.int .i64 y0, .int .i64 y1, .int .i64 y2]] w
    fun en w' => en = .returned (.bool (decide (lex3 x0 x1 x2 y0 y1 y2 < 0))) ∧ Below w.heap.size w w' := by
  go_enter Try.func45, Try.ntmps45
  go_wp2
  go_quiet ((go_at_call 63; refine Calls.quiet_of_same ((compare3 _ _ x0 x1 x2 y0 y1 y2 _ (by go_simp) (by go_simp) (by go_simp) (by go_simp) (by go_simp) (by go_simp)).mono fun _ _ hh => ⟨hh.1, hh.2.symm⟩)))
  go_wp2
  go_ret
  exact ⟨rfl, pw_below_drewN (((Below.refl _ _).alloc (Nat.le_refl _) _).alloc (by simp) _) _⟩

theorem bcell {W w1 : World} (hb : Below W.heap.size W w1) : (∀ b o, b < W.heap.size → w1.cell? ⟨b, o, none⟩ = W.cell? ⟨b, o, none⟩) ∧ (∀ b o, b < W.heap.size → w1.frozen? ⟨b, o, none⟩ = W.frozen? ⟨b, o, none⟩) :=
  ⟨fun b o h => hb.cell (p := ⟨b, o, none⟩) h, fun b o h => hb.frozen (p := ⟨b, o, none⟩) h⟩
def inB (b e s : Int) : Bool := decide ((0 ≤ b ∧ b ≤ 60000) ∧ (0 ≤ e ∧ e ≤ 200) ∧ (0 ≤ s ∧ s ≤ 16))
theorem ok_any (b e s : Int) (w : World) : Calls Try.prog 19 #[.agg #[.int .i64 b, .int .i64 e, .int .i64 s]] w fun en w' => en = .returned (.bool (inB b e s)) ∧ Below w.heap.size w w' := by
  go_enter Try.func19, Try.ntmps19
  go_wp2
  all_goals go_ret
  all_goals exact ⟨ret_bool (by unfold inB; first | (symm; rw [decide_eq_false_iff_not]; omega) | (rw [decide_eq_decide]; omega)), (Below.refl _ _).alloc (Nat.le_refl _) _⟩

def freshB (i0 i1 i2 b e s : Int) : Bool := inB i0 i1 i2 && (mayB b e s && !(decide (lex3 b e s i0 i1 i2 < 0)))
theorem two_blocks (w : World) (o1 o2 : Obj) : Below w.heap.size w ((w.alloc o1).alloc o2) := ((Below.refl _ _).alloc (Nat.le_refl _) _).alloc (by simp) _
theorem fresh_any (i0 i1 i2 b e s : Int) (w : World) : Calls Try.prog 13 #[.agg #[.int .i64 i0, .int .i64 i1, .int .i64 i2], .int .i64 b, .int .i64 e, .int .i64 s] w
    fun en w' => en = .returned (.bool (freshB i0 i1 i2 b e s)) ∧ Below w.heap.size w w' := by
  obtain ⟨x, hx⟩ : ∃ x, inB i0 i1 i2 = x := ⟨_, rfl⟩
  obtain ⟨y, hy⟩ : ∃ y, mayB b e s = y := ⟨_, rfl⟩
  obtain ⟨z, hz⟩ : ∃ z, decide (lex3 b e s i0 i1 i2 < 0) = z := ⟨_, rfl⟩
  have k1 := ok_any i0 i1 i2
  have k2 := may_any b e s
  have k3 := ahead_any b e s i0 i1 i2
  unfold freshB
  rw [hx] at k1 ⊢
  rw [hy] at k2 ⊢
  rw [hz] at k3 ⊢
  clear hx hy hz
  have K1 := Aside0.mk k1
  have K2 := Aside0.mk k2
  have K3 := Aside0.mk k3
  clear k1 k2 k3
  cases x
  · go_enter Try.func13, Try.ntmps13
    go_wp2_with (go_at_call 19; refine (K1.out _).mono ?_; rintro e w1 ⟨rfl, hb1⟩)
    go_ret
    exact ⟨rfl, below_step (two_blocks _ _ _) hb1⟩
  · cases y
    · go_enter Try.func13, Try.ntmps13
      go_wp2_with (first | (go_at_call 19; refine (K1.out _).mono ?_; rintro e w1 ⟨rfl, hb1⟩; obtain ⟨hc1, hf1⟩ := bcell hb1) | (go_at_call 44; refine (K2.out _).mono ?_; rintro e w2 ⟨rfl, hb2⟩))
      go_ret
      exact ⟨rfl, below_step (below_step (two_blocks _ _ _) hb1) hb2⟩
    · go_enter Try.func13, Try.ntmps13
      go_wp2_with (first | (go_at_call 19; refine (K1.out _).mono ?_; rintro e w1 ⟨rfl, hb1⟩; obtain ⟨hc1, hf1⟩ := bcell hb1; have hz1 : w.heap.size + 1 < w1.heap.size := (by have := hb1.size; simp at this; omega); have hz0 : w.heap.size < w1.heap.size := (by omega)) | (go_at_call 44; refine (K2.out _).mono ?_; rintro e w2 ⟨rfl, hb2⟩; obtain ⟨hc2, hf2⟩ := bcell hb2) | (go_at_call 45; refine (K3.out _).mono ?_; rintro e w3 ⟨rfl, hb3⟩))
      go_ret
      exact ⟨by simp, below_step (below_step (below_step (two_blocks _ _ _) hb1) hb2) hb3⟩
end Go.Proofs.YtaohaebgpbagmaaInFresh
