/- What CelSightOk answers: whether what a cell saw is told rightly. Conditions: none. -/
import Derived.Test.YtcnipdbommmkmaaProg
import Derived.Test.YtcnipdbommmkmaaWMore
import Derived.WalkKit
import Derived.RegionTactic
import Derived.Deep.RegionWith
import Derived.Deep.QuietTactic
import Derived.BigQuiet
import Derived.IntWalk
set_option linter.unusedVariables false
set_option linter.unusedSimpArgs false
namespace Go.Proofs.YtcnipdbommmkmaaCelSight
open Go.RowKit Go.Proofs.YtcnipdbommmkmaaW.PrintWords Go.Proofs.YtcnipdbommmkmaaW.PrintMore
attribute [local go_sem] max2_int

theorem ret_bool {a b : Bool} (h : a = b) : (Ending.returned (.bool a)) = .returned (.bool b) := by rw [h]
set_option maxRecDepth 100000 in
theorem kind_way (k way : Int) (A : Option Addr) (n c : Nat) (w : World) (h1 : 1 ≤ k) (h2 : k ≤ 4) : Calls Try.prog 80 #[.agg #[.int .i64 k, .int .i64 way, .slice A n c]] w fun e w' => e = .returned (.iface 98 (.agg #[.int .i64 way, .slice A n c])) ∧ Below w.heap.size w w' := by
  go_enter Try.func80, Try.ntmps80
  go_wp2
  all_goals go_ret
  all_goals exact ⟨rfl, (Below.refl _ _).alloc (Nat.le_refl _) _⟩
set_option maxRecDepth 100000 in
theorem kind_none (k way : Int) (A : Option Addr) (n c : Nat) (w : World) (h1 : 5 ≤ k) (h2 : k ≤ 10) : Calls Try.prog 80 #[.agg #[.int .i64 k, .int .i64 way, .slice A n c]] w fun e w' => e = .returned (.iface 100 (.agg #[.int .i64 way, .slice A n c])) ∧ Below w.heap.size w w' := by
  go_enter Try.func80, Try.ntmps80
  go_wp2
  all_goals go_ret
  all_goals exact ⟨rfl, (Below.refl _ _).alloc (Nat.le_refl _) _⟩
set_option maxRecDepth 100000 in
theorem kind_nil (k way : Int) (A : Option Addr) (n c : Nat) (w : World) (h : k < 1 ∨ 10 < k) : Calls Try.prog 80 #[.agg #[.int .i64 k, .int .i64 way, .slice A n c]] w fun e w' => e = .returned .nilIface ∧ Below w.heap.size w w' := by
  rcases h with h | h
  · go_enter Try.func80, Try.ntmps80
    go_wp2
    all_goals go_ret
    all_goals exact ⟨rfl, (Below.refl _ _).alloc (Nat.le_refl _) _⟩
  · go_enter Try.func80, Try.ntmps80
    go_wp2
    all_goals go_ret
    all_goals exact ⟨rfl, (Below.refl _ _).alloc (Nat.le_refl _) _⟩
theorem message_any (A : Option Addr) (n c : Nat) (w : World) : Calls Try.prog 60 #[.slice A n c] w fun e w' => e = .returned (.bool (decide (n ≤ 8))) ∧ w = w' := by
  go_enter Try.func60, Try.ntmps60
  go_wp2
  all_goals go_ret
  all_goals exact ⟨ret_bool (by rw [decide_eq_decide]; omega), rfl⟩
theorem way_bytes (way : Value) (A : Option Addr) (n c : Nat) (w : World) : Calls Try.prog 100 #[.agg #[way, .slice A n c]] w fun e w' => e = .returned (.slice A n c) ∧ Below w.heap.size w w' := by
  go_enter Try.func100, Try.ntmps100
  go_wp2
  go_ret
  exact ⟨rfl, (Below.refl _ _).alloc (Nat.le_refl _) _⟩
theorem none_bytes (way : Value) (A : Option Addr) (n c : Nat) (w : World) : Calls Try.prog 101 #[.agg #[way, .slice A n c]] w fun e w' => e = .returned (.slice A n c) ∧ Below w.heap.size w w' := by
  go_enter Try.func101, Try.ntmps101
  go_wp2
  go_ret
  exact ⟨rfl, (Below.refl _ _).alloc (Nat.le_refl _) _⟩
theorem inv_way (x : Value) (w : World) : (method 221 98 x "loop.example/casemate/impl.bytes").run Try.prog w = .ok (100, x) w := by kernel_rfl
theorem inv_none (x : Value) (w : World) : (method 221 100 x "loop.example/casemate/impl.bytes").run Try.prog w = .ok (101, x) w := by kernel_rfl
theorem asks_way (x : Value) (w : World) : (Instr.typeAssert (.iface 98 x) 94 98 true).run Try.prog w = .ok (.tuple #[x, .bool true]) w := by kernel_rfl
theorem asks_none (x : Value) (w : World) : (Instr.typeAssert (.iface 100 x) 94 98 true).run Try.prog w = .ok (.tuple #[.agg #[.int .i64 0, .slice none 0 0], .bool false]) w := by kernel_rfl
theorem asks_none' (x : Value) (w : World) : (Instr.typeAssert (.iface 100 x) 94 100 true).run Try.prog w = .ok (.tuple #[x, .bool true]) w := by kernel_rfl
theorem bcell {W w1 : World} (hb : Below W.heap.size W w1) : (∀ b o, b < W.heap.size → w1.cell? ⟨b, o, none⟩ = W.cell? ⟨b, o, none⟩) ∧ (∀ b o, b < W.heap.size → w1.frozen? ⟨b, o, none⟩ = W.frozen? ⟨b, o, none⟩) :=
  ⟨fun b o h => hb.cell (p := ⟨b, o, none⟩) h, fun b o h => hb.frozen (p := ⟨b, o, none⟩) h⟩
def sightB (k way : Int) (n : Nat) : Bool :=
  if 1 ≤ k ∧ k ≤ 4 then (decide (n ≤ 8) && decide (0 ≤ way ∧ way ≤ 9)) else if 5 ≤ k ∧ k ≤ 10 then (decide (n ≤ 8) && (way == 0)) else false
set_option maxRecDepth 100000 in
theorem ok_nil (k way : Int) (A : Option Addr) (n c : Nat) (w : World) (h : k < 1 ∨ 10 < k) : Calls Try.prog 49 #[.agg #[.int .i64 k, .int .i64 way, .slice A n c]] w fun e w' => e = .returned (.bool false) ∧ Below w.heap.size w w' := by
  have K := Aside0.mk fun W => kind_nil k way A n c W h
  clear h
  go_enter Try.func49, Try.ntmps49
  go_wp2_with (go_at_call 80; refine (K.out _).mono ?_; rintro e w1 ⟨rfl, hb1⟩)
  all_goals go_ret
  all_goals exact ⟨rfl, below_step ((Below.refl _ _).alloc (Nat.le_refl _) _) hb1⟩
set_option maxRecDepth 100000 in
theorem ok_way (k way : Int) (A : Option Addr) (n c : Nat) (w : World) (h1 : 1 ≤ k) (h2 : k ≤ 4) (hn : n ≤ 8) : Calls Try.prog 49 #[.agg #[.int .i64 k, .int .i64 way, .slice A n c]] w fun e w' => e = .returned (.bool (decide (0 ≤ way ∧ way ≤ 9))) ∧ Below w.heap.size w w' := by
  have K := Aside0.mk fun W => kind_way k way A n c W h1 h2
  have hm : decide (n ≤ 8) = true := decide_eq_true hn
  have km : ∀ W, Calls Try.prog 60 #[.slice A n c] W fun e w' => e = .returned (.bool true) ∧ W = w' := fun W => by
    have := message_any A n c W
    rw [hm] at this
    exact this
  have KM := Aside0.mk km
  have hiv := inv_way
  have has := asks_way
  clear h1 h2 hm hn km
  go_enter Try.func49, Try.ntmps49
  go_wp2_with (first | (go_at_call 80; refine (K.out _).mono ?_; rintro e w1 ⟨rfl, hb1⟩) | (go_at_call 100; refine (way_bytes _ _ _ _ _).mono ?_; rintro e w2 ⟨rfl, hb2⟩) | (go_at_call 60; refine (KM.out _).mono ?_; rintro e w' ⟨rfl, rfl⟩))
  all_goals go_ret
  all_goals exact ⟨ret_bool (by first | rfl | (simp; omega) | (simp [*]; done) | (rw [decide_eq_decide]; omega)), below_alloc (below_step (below_step ((Below.refl _ _).alloc (Nat.le_refl _) _) hb1) hb2) _⟩
set_option maxRecDepth 100000 in
theorem ok_none (k way : Int) (A : Option Addr) (n c : Nat) (w : World) (h1 : 5 ≤ k) (h2 : k ≤ 10) (hn : n ≤ 8) : Calls Try.prog 49 #[.agg #[.int .i64 k, .int .i64 way, .slice A n c]] w fun e w' => e = .returned (.bool (way == 0)) ∧ Below w.heap.size w w' := by
  have K := Aside0.mk fun W => kind_none k way A n c W h1 h2
  have hm : decide (n ≤ 8) = true := decide_eq_true hn
  have km : ∀ W, Calls Try.prog 60 #[.slice A n c] W fun e w' => e = .returned (.bool true) ∧ W = w' := fun W => by
    have := message_any A n c W
    rw [hm] at this
    exact this
  have KM := Aside0.mk km
  have hiv := inv_none
  have has := asks_none
  have has' := asks_none'
  clear h1 h2 hm hn km
  go_enter Try.func49, Try.ntmps49
  go_wp2_with (first | (go_at_call 80; refine (K.out _).mono ?_; rintro e w1 ⟨rfl, hb1⟩) | (go_at_call 101; refine (none_bytes _ _ _ _ _).mono ?_; rintro e w2 ⟨rfl, hb2⟩) | (go_at_call 60; refine (KM.out _).mono ?_; rintro e w' ⟨rfl, rfl⟩))
  all_goals go_ret
  all_goals exact ⟨rfl, below_alloc (below_alloc (below_step (below_step ((Below.refl _ _).alloc (Nat.le_refl _) _) hb1) hb2) _) _⟩
set_option maxRecDepth 100000 in
theorem way_big (k way : Int) (A : Option Addr) (n c : Nat) (w : World) (h1 : 1 ≤ k) (h2 : k ≤ 4) (hn : ¬ n ≤ 8) : Calls Try.prog 49 #[.agg #[.int .i64 k, .int .i64 way, .slice A n c]] w fun e w' => e = .returned (.bool false) ∧ Below w.heap.size w w' := by
  have K := Aside0.mk fun W => kind_way k way A n c W h1 h2
  have hm : decide (n ≤ 8) = false := decide_eq_false hn
  have km : ∀ W, Calls Try.prog 60 #[.slice A n c] W fun e w' => e = .returned (.bool false) ∧ W = w' := fun W => by
    have := message_any A n c W
    rw [hm] at this
    exact this
  have KM := Aside0.mk km
  have hiv := inv_way
  clear h1 h2 hm hn km
  go_enter Try.func49, Try.ntmps49
  go_wp2_with (first | (go_at_call 80; refine (K.out _).mono ?_; rintro e w1 ⟨rfl, hb1⟩) | (go_at_call 100; refine (way_bytes _ _ _ _ _).mono ?_; rintro e w2 ⟨rfl, hb2⟩) | (go_at_call 60; refine (KM.out _).mono ?_; rintro e w' ⟨rfl, rfl⟩))
  all_goals go_ret
  all_goals exact ⟨rfl, below_step (below_step ((Below.refl _ _).alloc (Nat.le_refl _) _) hb1) hb2⟩
set_option maxRecDepth 100000 in
theorem none_big (k way : Int) (A : Option Addr) (n c : Nat) (w : World) (h1 : 5 ≤ k) (h2 : k ≤ 10) (hn : ¬ n ≤ 8) : Calls Try.prog 49 #[.agg #[.int .i64 k, .int .i64 way, .slice A n c]] w fun e w' => e = .returned (.bool false) ∧ Below w.heap.size w w' := by
  have K := Aside0.mk fun W => kind_none k way A n c W h1 h2
  have hm : decide (n ≤ 8) = false := decide_eq_false hn
  have km : ∀ W, Calls Try.prog 60 #[.slice A n c] W fun e w' => e = .returned (.bool false) ∧ W = w' := fun W => by
    have := message_any A n c W
    rw [hm] at this
    exact this
  have KM := Aside0.mk km
  have hiv := inv_none
  clear h1 h2 hm hn km
  go_enter Try.func49, Try.ntmps49
  go_wp2_with (first | (go_at_call 80; refine (K.out _).mono ?_; rintro e w1 ⟨rfl, hb1⟩) | (go_at_call 101; refine (none_bytes _ _ _ _ _).mono ?_; rintro e w2 ⟨rfl, hb2⟩) | (go_at_call 60; refine (KM.out _).mono ?_; rintro e w' ⟨rfl, rfl⟩))
  all_goals go_ret
  all_goals exact ⟨rfl, below_step (below_step ((Below.refl _ _).alloc (Nat.le_refl _) _) hb1) hb2⟩
theorem sight_any (k way : Int) (A : Option Addr) (n c : Nat) (w : World) : Calls Try.prog 49 #[.agg #[.int .i64 k, .int .i64 way, .slice A n c]] w fun e w' => e = .returned (.bool (sightB k way n)) ∧ Below w.heap.size w w' := by
  unfold sightB
  by_cases h1 : 1 ≤ k ∧ k ≤ 4
  · rw [if_pos h1]
    by_cases hn : n ≤ 8
    · rw [decide_eq_true hn, Bool.true_and]
      exact ok_way k way A n c w h1.1 h1.2 hn
    · rw [decide_eq_false hn, Bool.false_and]
      exact way_big k way A n c w h1.1 h1.2 hn
  · rw [if_neg h1]
    by_cases h2 : 5 ≤ k ∧ k ≤ 10
    · rw [if_pos h2]
      by_cases hn : n ≤ 8
      · rw [decide_eq_true hn, Bool.true_and]
        exact ok_none k way A n c w h2.1 h2.2 hn
      · rw [decide_eq_false hn, Bool.false_and]
        exact none_big k way A n c w h2.1 h2.2 hn
    · rw [if_neg h2]
      exact ok_nil k way A n c w (by omega)
end Go.Proofs.YtcnipdbommmkmaaCelSight
