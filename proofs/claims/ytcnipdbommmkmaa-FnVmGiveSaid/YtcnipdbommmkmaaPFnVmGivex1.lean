/- Functions that a law reaches, each with the walk that shows what its call answers; laid by a program of this session. -/
import Derived.Test.YtcnipdbommmkmaaPFnVmGivex0
namespace Go.Proofs.Ytcnipdbommmkmaa.PFnVmGive
open Go.RowKit Go.Proofs.YtcnipdbommmkmaaW.PrintWords Go.Proofs.YtcnipdbommmkmaaW.PrintLast Go.Proofs.YtcnipdbommmkmaaW.PrintMore
attribute [local go_sem] max2_int min2_int max_two min_two max_three min_three max_four min_four   -- for this text's walks alone
set_option linter.unusedVariables false
set_option linter.unusedSimpArgs false

/-! ### laws_FnVmGive: function 9 -/
def laws_FnVmGive.f (l0 : List Int) : Option (Bool) := if (l0.all (fun x => (Lit.int .u8 x).wf)) = true then some true else none
theorem laws_FnVmGive.calls (A0 : Option Addr) (c0 : Nat) (l0 : List Int) (r : Bool) (w : World) (hr0 : Kd.C (Kd.int .u8) w A0 l0.length l0) (hc0 : l0.length ≤ c0) (h : laws_FnVmGive.f l0 = some r) :
    Calls Try.prog 9 #[.slice A0 l0.length c0] w fun e w' => e = .returned (.bool r) ∧ Below w.heap.size w w' := by
  have h2 := h
  unfold laws_FnVmGive.f at h2
  split at h2
  · rename_i hx
    cases h2
    exact Go.Proofs.YtcnipdbommmkmaaVgPure.law_all A0 c0 l0 w hr0 hc0 (List.all_eq_true.1 hx)
  · cases h2

/-- THE ONE PURE STATEMENT of laws_FnVmGive. -/
def laws_FnVmGive.Pure : Prop := ∀ (l0 : List Int), l0.length ≤ maxLen → (∀ x ∈ l0, (Lit.int .u8 x).wf = true) → laws_FnVmGive.f l0 = some true
end Go.Proofs.Ytcnipdbommmkmaa.PFnVmGive
