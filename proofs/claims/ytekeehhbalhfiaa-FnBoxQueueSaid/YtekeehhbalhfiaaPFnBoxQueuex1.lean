/- Functions that a law reaches, each with the walk that shows what its call answers; laid by a program of this session. -/
import Derived.Test.YtekeehhbalhfiaaPFnBoxQueuex0
namespace Go.Proofs.Ytekeehhbalhfiaa.PFnBoxQueue
open Go.RowKit Go.Proofs.YtekeehhbalhfiaaW.PrintWords Go.Proofs.YtekeehhbalhfiaaW.PrintLast Go.Proofs.YtekeehhbalhfiaaW.PrintMore
attribute [local go_sem] max2_int min2_int max_two min_two max_three min_three max_four min_four   -- for this text's walks alone
set_option linter.unusedVariables false
set_option linter.unusedSimpArgs false

/-! ### laws_FnBoxQueue: function 3 -/
def laws_FnBoxQueue.f (l0 : List Int) (l1 : List Int) : Option (Bool) := if (l0.length ≤ maxLen ∧ l1.length ≤ maxLen) then some true else none
theorem laws_FnBoxQueue.calls (A0 : Option Addr) (c0 : Nat) (l0 : List Int) (A1 : Option Addr) (c1 : Nat) (l1 : List Int) (r : Bool) (w : World) (hr0 : Kd.C (Kd.int .u8) w A0 l0.length l0) (hc0 : l0.length ≤ c0) (hr1 : Kd.C (Kd.int .u8) w A1 l1.length l1) (hc1 : l1.length ≤ c1) (h : laws_FnBoxQueue.f l0 l1 = some r) :
    Calls Try.prog 3 #[.slice A0 l0.length c0, .slice A1 l1.length c1] w fun e w' => e = .returned (.bool r) ∧ Below w.heap.size w w' := by
  have h2 := h
  unfold laws_FnBoxQueue.f at h2
  split at h2
  · rename_i hx
    cases h2
    exact Go.Proofs.YtekeehhbalhfiaaBoxQueueLaw.law_true A0 c0 l0 A1 c1 l1 w hr1 hc1 hx.1 hx.2
  · cases h2

/-- THE ONE PURE STATEMENT of laws_FnBoxQueue. -/
def laws_FnBoxQueue.Pure : Prop := ∀ (l0 : List Int) (l1 : List Int), l0.length ≤ maxLen → (∀ x ∈ l0, (Lit.int .u8 x).wf = true) → l1.length ≤ maxLen → (∀ x ∈ l1, (Lit.int .u8 x).wf = true) → laws_FnBoxQueue.f l0 l1 = some true
end Go.Proofs.Ytekeehhbalhfiaa.PFnBoxQueue
