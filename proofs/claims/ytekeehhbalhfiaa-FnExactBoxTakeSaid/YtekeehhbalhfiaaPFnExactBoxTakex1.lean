/- Functions that a law reaches, each with the walk that shows what its call answers; laid by a program of this session. -/
import Derived.Test.YtekeehhbalhfiaaPFnExactBoxTakex0
namespace Go.Proofs.Ytekeehhbalhfiaa.PFnExactBoxTake
open Go.RowKit Go.Proofs.YtekeehhbalhfiaaW.PrintWords Go.Proofs.YtekeehhbalhfiaaW.PrintLast Go.Proofs.YtekeehhbalhfiaaW.PrintMore
attribute [local go_sem] max2_int min2_int max_two min_two max_three min_three max_four min_four   -- for this text's walks alone
set_option linter.unusedVariables false
set_option linter.unusedSimpArgs false

/-! ### laws_FnExactBoxTake: function 5 -/
def laws_FnExactBoxTake.f (a0_0 : Int) (l0_1 : List (List Int)) : Option (Bool) := if ((∀ x ∈ l0_1, x.length ≤ maxLen) ∧ l0_1.length ≤ maxLen) then some true else none
theorem laws_FnExactBoxTake.calls (a0_0 : Int) (A0_1 : Option Addr) (c0_1 : Nat) (l0_1 : List (List Int)) (r : Bool) (w : World) (hr0_1 : Kd.C (Kd.slice 5 (Kd.int .u8)) w A0_1 l0_1.length l0_1) (hc0_1 : l0_1.length ≤ c0_1) (h : laws_FnExactBoxTake.f a0_0 l0_1 = some r) :
    Calls Try.prog 5 #[.agg #[.int .i64 a0_0, .slice A0_1 l0_1.length c0_1]] w fun e w' => e = .returned (.bool r) ∧ Below w.heap.size w w' := by
  have h2 := h
  unfold laws_FnExactBoxTake.f at h2
  split at h2
  · rename_i hx
    cases h2
    exact Go.Proofs.YtekeehhbalhfiaaBoxTakeLaw.law_true a0_0 A0_1 c0_1 l0_1 w hr0_1 hc0_1 hx.1 hx.2
  · cases h2

/-- THE ONE PURE STATEMENT of laws_FnExactBoxTake. -/
def laws_FnExactBoxTake.Pure : Prop := ∀ (a0_0 : Int) (l0_1 : List (List Int)), (Lit.int .i64 a0_0).wf = true → l0_1.length ≤ maxLen → (∀ x ∈ l0_1, (x.length ≤ maxLen ∧ ∀ x1_ ∈ x, (Lit.int .u8 x1_).wf = true)) → laws_FnExactBoxTake.f a0_0 l0_1 = some true
end Go.Proofs.Ytekeehhbalhfiaa.PFnExactBoxTake
