/- The row of the law FnExactCelSightOk: for every input it returns true, and each argument reads behind the call as it read before; out of the pure statement and the walk. Conditions: none. -/
import Derived.Test.YtcnipdbommmkmaaRows
import Derived.Test.YtcnipdbommmkmaaPFnExactCelSightOkx2
import Derived.Test.YtcnipdbommmkmaaPureFnExactCelSightOk
import Derived.Test.YtcnipdbommmkmaaOpen
import Derived.WalkKit
import Derived.ProofKit
import Derived.OpenShut
import Derived.ShutString
import Derived.ChangeOld
import Derived.Below
import Derived.SizedLaws
namespace Go.Proofs.Ytcnipdbommmkmaa.fnExactCelSightOk
open Go.ChangeShapes Go.WideShapes Go.ChangeAt Go.RowKit Go.Proofs.YtcnipdbommmkmaaOpen Go.Proofs.Ytcnipdbommmkmaa.PFnExactCelSightOk Go.Proofs.YtcnipdbommmkmaaW.PrintWords
open Go.ChangeMaps (open_string shut_string)
theorem own : ownKnob Try.prog.godebug = none := by kernel_rfl
theorem laidOut : laidOutB Try.prog = true := by kernel_rfl
set_option maxRecDepth 100000 in
theorem open0 : Opens Try.prog 67 (Kd.pair (Kd.int .i64) (Kd.pair (Kd.int .i64) (Kd.slice 5 (Kd.int .u8)))) (fun x => ((Lit.int .i64 x.1).wf = true ∧ (Lit.int .i64 x.2.1).wf = true ∧ (x.2.2.length ≤ maxLen ∧ ∀ x1_ ∈ x.2.2, (Lit.int .u8 x1_).wf = true))) :=
  (opens_struct Try.underlying67 (by kernel_rfl) (opensAt_cons rfl (by kernel_rfl) (opens_int Try.underlying3) (of_decide_eq_true (by kernel_rfl)) (opensAt_cons rfl (by kernel_rfl) (opens_int Try.underlying3) (of_decide_eq_true (by kernel_rfl)) (opensAt_one rfl (by kernel_rfl) (opens_slice Try.underlying25 (by kernel_rfl) (opens_int Try.underlying5))))))
set_option maxRecDepth 100000 in
theorem lifted (os : Os) (started : os.Started) (H : Type) (enc : TypeId × Value → H) :
    ReturnsInHanded {} Try.checked os 10 .any (Rows.fnExactCelSightOkSpec.pre6 enc Try.prog Try.f10 Rows.fnExactCelSightOkRow.domain false) (Rows.fnExactCelSightOkSpec.post enc Try.prog Try.f10 false true false false) := by
  refine returnsInHanded_of_change_sized (C := Try.checked) own started (by kernel_rfl) Try.func10
    (ChangeSpec.witness6 (enc := enc) (C := Try.checked) false ⟨#[], #[.agg #[.int .i64 0, .int .i64 0, .slice none 0 0]], []⟩ 8 (by kernel_rfl) (by kernel_rfl) (by kernel_rfl) (by kernel_rfl)) ?_
  intro W base args ds gs before hval0 hW hcnd _ _
  have hval : ∀ (j : Nat) t v, Try.f10.params[j]? = some t → args[j]? = some v → Value.okWide Try.prog W .any base t v := hval0
  have hW' := hW
  obtain ⟨p, q, hA0, hV, rfl, hfz, hnd⟩ := hW
  have hA : DataW.TrodAll enc Try.prog W 0 (fun _ => true) true Try.f10.params.toList args.toList ds p := hA0
  rw [Try.params10] at hA hval
  obtain ⟨v0, vs0, d0, ds0, p0, q0, hargs, rfl, rfl, h0, r0⟩ := trodAll_cons hA
  obtain ⟨rfl, rfl, rfl⟩ := trodAll_nil r0
  obtain rfl : args = #[v0] := by cases args; simp_all
  obtain ⟨rfl, rfl⟩ := trodVars_none hV
  obtain ⟨cs0, rfl, _⟩ := okWide_struct Try.underlying67 (hval 0 67 v0 rfl rfl)
  have k0 := h0
  have lt0 : ∀ x ∈ p0, x.block < W.heap.size := by obtain ⟨m, hm⟩ := k0; exact DataW.trod_lt m _ _ _ hm
  obtain ⟨⟨a0_0, a0_1, l0_2⟩, hk0, ⟨w0_0, w0_1, ⟨m0_2, w0_2⟩⟩⟩ := open0.of h0
  obtain ⟨_, _, he0, rfl, ⟨_, _, rfl, rfl, ⟨A0_2, c0_2, rfl, hc0_2, hr0_2⟩⟩⟩ := hk0
  obtain rfl : cs0 = #[.int .i64 a0_0, .int .i64 a0_1, .slice A0_2 l0_2.length c0_2] := arr_eq he0
  clear hA0 hval0
  have hpure := Pure.FnExactCelSightOk a0_0 a0_1 l0_2 w0_0 w0_1 m0_2 w0_2
  obtain ⟨k, hpure⟩ := hpure
  refine (laws_FnExactCelSightOk.calls k a0_0 a0_1 A0_2 c0_2 l0_2 true W hr0_2 hc0_2 hpure).mono fun e W' ⟨he, bel0⟩ => ?_
  have bel := bel0
  subst he
  exact ⟨_, rfl, _, _, _, [], _, [], hW', trodAll_mk1 (shut_bool Try.underlying4 _), (trodAll_cons_mk (Below.trod laidOut (by kernel_rfl) (of_decide_eq_true (by kernel_rfl)) k0 bel lt0) trodAll_mk0), rfl, bel.frame _, fun h => by cases h⟩
theorem over : Rows.fnExactCelSightOkRow.holds Try.pinned (OpenSpec.ofChange Rows.fnExactCelSightOkSpec) :=
  OpenClaim.holds_of_wide 10 Try.f10 rfl rfl rfl rfl rfl rfl rfl ⟨rfl, rfl, rfl, rfl, rfl⟩ rfl rfl rfl rfl rfl (by kernel_rfl) Try.func10 (by kernel_rfl)
    (of_decide_eq_true (by kernel_rfl)) (by unfold Func.isWrapper; first | (rw [if_pos (by decide +kernel)]; kernel_rfl) | (rw [if_neg (by decide +kernel)]; exact ⟨rfl, rfl⟩))
    (fun os started H enc _ => lifted os started H enc)
theorem proved : Rows.FnExactCelSightOkSaid := over
#print axioms proved
end Go.Proofs.Ytcnipdbommmkmaa.fnExactCelSightOk
namespace Go.Proofs.Ytcnipdbommmkmaa
/-- The row, under a short name, for the claim. -/
theorem fnExactCelSightOk_holds : Rows.FnExactCelSightOkSaid := fnExactCelSightOk.proved
end Go.Proofs.Ytcnipdbommmkmaa
