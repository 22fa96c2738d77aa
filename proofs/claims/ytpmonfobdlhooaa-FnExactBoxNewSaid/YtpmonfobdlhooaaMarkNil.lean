/- markBoxBox at a box without messages: it writes nothing, and hands its number back. Condition: no messages. -/
import Derived.Test.YtpmonfobdlhooaaProg
import Derived.Test.YtpmonfobdlhooaaWMore
import Derived.WalkKit
namespace Go.Proofs.YtpmonfobdlhooaaMarkNil
open Go.RowKit Go.Proofs.YtpmonfobdlhooaaW.PrintWords

theorem markSS_nil (A : Option Addr) (c : Nat) (k : Int) (w : World) :
    Calls Try.prog 58 #[.slice A 0 c, .int .i64 k] w fun e w' => e = .returned (.int .i64 k) ∧ w = w' := by
  go_enter Try.func58, Try.ntmps58
  go_wp2
  refine wp_loop_rounds 1 ?_
  rw [rounds_succ]
  go_wp2
  go_ret
  exact ⟨rfl, rfl⟩

theorem markBox_nil (d : Int) (A : Option Addr) (c : Nat) (l : List (List Int)) (k : Int) (r : Int) (w : World) (h : (if l.length = 0 then some k else none) = some r) :
    Calls Try.prog 45 #[.agg #[.int .i64 d, .slice A l.length c], .int .i64 k] w fun e w' => e = .returned (.int .i64 r) ∧ Below w.heap.size w w' := by
  by_cases hl : l.length = 0
  · rw [if_pos hl] at h
    obtain rfl := Option.some.inj h
    rw [hl]
    clear h hl
    go_enter Try.func45, Try.ntmps45
    go_wp2_with (go_at_call 58; refine (markSS_nil _ _ _ _).mono ?_; rintro e w' ⟨rfl, rfl⟩)
    go_ret
    exact ⟨rfl, (Below.refl _ _).alloc (Nat.le_refl _) _⟩
  · rw [if_neg hl] at h
    exact absurd h (by simp)
end Go.Proofs.YtpmonfobdlhooaaMarkNil
