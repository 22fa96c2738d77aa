/- The row of the law FnExactBoxTake: for every input it returns true, and each argument reads behind the call as it read before; out of the pure statement and the walk. Conditions: none. -/
import Derived.Test.YtekeehhbalhfiaaRows
import Derived.Test.YtekeehhbalhfiaaPFnExactBoxTakex1
import Derived.Test.YtekeehhbalhfiaaPureFnExactBoxTake
import Derived.Test.YtekeehhbalhfiaaOpen
import Derived.WalkKit
import Derived.ProofKit
import Derived.OpenShut
import Derived.ShutString
import Derived.ChangeOld
import Derived.Below
import Derived.SizedLaws
namespace Go.Proofs.Ytekeehhbalhfiaa.fnExactBoxTake
open Go.ChangeShapes Go.WideShapes Go.ChangeAt Go.RowKit Go.Proofs.YtekeehhbalhfiaaOpen Go.Proofs.Ytekeehhbalhfiaa.PFnExactBoxTake Go.Proofs.YtekeehhbalhfiaaW.PrintWords
open Go.ChangeMaps (open_string shut_string)
theorem own : ownKnob Try.prog.godebug = none := by kernel_rfl
theorem laidOut : laidOutB Try.prog = true := by kernel_rfl
set_option maxRecDepth 100000 in
theorem open0 : Opens Try.prog 38 (Kd.pair (Kd.int .i64) (Kd.slice 22 (Kd.slice 5 (Kd.int .u8)))) (fun x => ((Lit.int .i64 x.1).wf = true ∧ (x.2.length ≤ maxLen ∧ ∀ x1_ ∈ x.2, (x1_.length ≤ maxLen ∧ ∀ x2_ ∈ x1_, (Lit.int .u8 x2_).wf = true)))) :=
  (opens_struct Try.underlying38 (by kernel_rfl) (opensAt_cons rfl (by kernel_rfl) (opens_int Try.underlying3) (of_decide_eq_true (by kernel_rfl)) (opensAt_one rfl (by kernel_rfl) (opens_slice Try.underlying23 (by kernel_rfl) (opens_slice Try.underlying22 (by kernel_rfl) (opens_int Try.underlying5))))))
set_option maxRecDepth 100000 in
theorem lifted (os : Os) (started : os.Started) (H : Type) (enc : TypeId × Value → H) :
    ReturnsInHanded {} Try.checked os 5 .any (Rows.fnExactBoxTakeSpec.pre6 enc Try.prog Try.f5 Rows.fnExactBoxTakeRow.domain false) (Rows.fnExactBoxTakeSpec.post enc Try.prog Try.f5 false true false false) := by
  refine returnsInHanded_of_change_sized (C := Try.checked) own started (by kernel_rfl) Try.func5
    (ChangeSpec.witness6 (enc := enc) (C := Try.checked) false ⟨#[], #[.agg #[.int .i64 0, .slice none 0 0]], []⟩ 8 (by kernel_rfl) (by kernel_rfl) (by kernel_rfl) (by kernel_rfl)) ?_
  intro W base args ds gs before hval0 hW hcnd _ _
  have hval : ∀ (j : Nat) t v, Try.f5.params[j]? = some t → args[j]? = some v → Value.okWide Try.prog W .any base t v := hval0
  have hW' := hW
  obtain ⟨p, q, hA0, hV, rfl, hfz, hnd⟩ := hW
  have hA : DataW.TrodAll enc Try.prog W 0 (fun _ => true) true Try.f5.params.toList args.toList ds p := hA0
  rw [Try.params5] at hA hval
  obtain ⟨v0, vs0, d0, ds0, p0, q0, hargs, rfl, rfl, h0, r0⟩ := trodAll_cons hA
  obtain ⟨rfl, rfl, rfl⟩ := trodAll_nil r0
  obtain rfl : args = #[v0] := by cases args; simp_all
  obtain ⟨rfl, rfl⟩ := trodVars_none hV
  obtain ⟨cs0, rfl, _⟩ := okWide_struct Try.underlying38 (hval 0 38 v0 rfl rfl)
  have k0 := h0
  have lt0 : ∀ x ∈ p0, x.block < W.heap.size := by obtain ⟨m, hm⟩ := k0; exact DataW.trod_lt m _ _ _ hm
  obtain ⟨⟨a0_0, l0_1⟩, hk0, ⟨w0_0, ⟨m0_1, w0_1⟩⟩⟩ := open0.of h0
  obtain ⟨_, _, he0, rfl, ⟨A0_1, c0_1, rfl, hc0_1, hr0_1⟩⟩ := hk0
  obtain rfl : cs0 = #[.int .i64 a0_0, .slice A0_1 l0_1.length c0_1] := arr_eq he0
  clear hA0 hval0
  have hpure := Pure.FnExactBoxTake a0_0 l0_1 w0_0 m0_1 w0_1
  refine (laws_FnExactBoxTake.calls a0_0 A0_1 c0_1 l0_1 true W hr0_1 hc0_1 hpure).mono fun e W' ⟨he, bel0⟩ => ?_
  have bel := bel0
  subst he
  exact ⟨_, rfl, _, _, _, [], _, [], hW', trodAll_mk1 (shut_bool Try.underlying4 _), (trodAll_cons_mk (Below.trod laidOut (by kernel_rfl) (of_decide_eq_true (by kernel_rfl)) k0 bel lt0) trodAll_mk0), rfl, bel.frame _, fun h => by cases h⟩
theorem over : Rows.fnExactBoxTakeRow.holds Try.pinned (OpenSpec.ofChange Rows.fnExactBoxTakeSpec) :=
  OpenClaim.holds_of_wide 5 Try.f5 rfl rfl rfl rfl rfl rfl rfl ⟨rfl, rfl, rfl, rfl, rfl⟩ rfl rfl rfl rfl rfl (by kernel_rfl) Try.func5 (by kernel_rfl)
    (of_decide_eq_true (by kernel_rfl)) (by unfold Func.isWrapper; first | (rw [if_pos (by decide +kernel)]; kernel_rfl) | (rw [if_neg (by decide +kernel)]; exact ⟨rfl, rfl⟩))
    (fun os started H enc _ => lifted os started H enc)
theorem proved : Rows.FnExactBoxTakeSaid := over
#print axioms proved
end Go.Proofs.Ytekeehhbalhfiaa.fnExactBoxTake
namespace Go.Proofs.Ytekeehhbalhfiaa
/-- The row, under a short name, for the claim. -/
theorem fnExactBoxTake_holds : Rows.FnExactBoxTakeSaid := fnExactBoxTake.proved
end Go.Proofs.Ytekeehhbalhfiaa
