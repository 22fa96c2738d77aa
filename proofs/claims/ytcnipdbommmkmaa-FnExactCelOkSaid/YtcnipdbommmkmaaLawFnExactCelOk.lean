/- The row of the law FnExactCelOk: for every input it returns true, and each argument reads behind the call as it read before; out of the pure statement and the walk. Conditions: none. -/
import Derived.Test.YtcnipdbommmkmaaRows
import Derived.Test.YtcnipdbommmkmaaPFnExactCelOkx3
import Derived.Test.YtcnipdbommmkmaaPureFnExactCelOk
import Derived.Test.YtcnipdbommmkmaaOpen
import Derived.WalkKit
import Derived.ProofKit
import Derived.OpenShut
import Derived.ShutString
import Derived.ChangeOld
import Derived.Below
import Derived.SizedLaws
namespace Go.Proofs.Ytcnipdbommmkmaa.fnExactCelOk
open Go.ChangeShapes Go.WideShapes Go.ChangeAt Go.RowKit Go.Proofs.YtcnipdbommmkmaaOpen Go.Proofs.Ytcnipdbommmkmaa.PFnExactCelOk Go.Proofs.YtcnipdbommmkmaaW.PrintWords
open Go.ChangeMaps (open_string shut_string)
theorem own : ownKnob Try.prog.godebug = none := by kernel_rfl
theorem laidOut : laidOutB Try.prog = true := by kernel_rfl
set_option maxRecDepth 100000 in
theorem open0 : Opens Try.prog 53 (Kd.pair (Kd.pair (Kd.int .i64) (Kd.pair (Kd.slice 3 (Kd.int .i64)) (Kd.pair (Kd.slice 3 (Kd.int .i64)) (Kd.int .i64)))) (Kd.slice 5 (Kd.int .u8))) (fun x => (((Lit.int .i64 x.1.1).wf = true ∧ (x.1.2.1.length ≤ maxLen ∧ ∀ x1_ ∈ x.1.2.1, (Lit.int .i64 x1_).wf = true) ∧ (x.1.2.2.1.length ≤ maxLen ∧ ∀ x1_ ∈ x.1.2.2.1, (Lit.int .i64 x1_).wf = true) ∧ (Lit.int .i64 x.1.2.2.2).wf = true) ∧ (x.2.length ≤ maxLen ∧ ∀ x1_ ∈ x.2, (Lit.int .u8 x1_).wf = true))) :=
  (opens_struct Try.underlying53 (by kernel_rfl) (opensAt_cons rfl (by kernel_rfl) (opens_struct Try.underlying24 (by kernel_rfl) (opensAt_cons rfl (by kernel_rfl) (opens_int Try.underlying3) (of_decide_eq_true (by kernel_rfl)) (opensAt_cons rfl (by kernel_rfl) (opens_slice Try.underlying22 (by kernel_rfl) (opens_int Try.underlying3)) (of_decide_eq_true (by kernel_rfl)) (opensAt_cons rfl (by kernel_rfl) (opens_slice Try.underlying22 (by kernel_rfl) (opens_int Try.underlying3)) (of_decide_eq_true (by kernel_rfl)) (opensAt_one rfl (by kernel_rfl) (opens_int Try.underlying3)))))) (of_decide_eq_true (by kernel_rfl)) (opensAt_one rfl (by kernel_rfl) (opens_slice Try.underlying25 (by kernel_rfl) (opens_int Try.underlying5)))))
set_option maxRecDepth 100000 in
theorem lifted (os : Os) (started : os.Started) (H : Type) (enc : TypeId × Value → H) :
    ReturnsInHanded {} Try.checked os 7 .any (Rows.fnExactCelOkSpec.pre6 enc Try.prog Try.f7 Rows.fnExactCelOkRow.domain false) (Rows.fnExactCelOkSpec.post enc Try.prog Try.f7 false true false false) := by
  refine returnsInHanded_of_change_sized (C := Try.checked) own started (by kernel_rfl) Try.func7
    (ChangeSpec.witness6 (enc := enc) (C := Try.checked) false ⟨#[], #[.agg #[.int .i64 0, .slice none 0 0, .slice none 0 0, .int .i64 0, .slice none 0 0]], []⟩ 8 (by kernel_rfl) (by kernel_rfl) (by kernel_rfl) (by kernel_rfl)) ?_
  intro W base args ds gs before hval0 hW hcnd _ _
  have hval : ∀ (j : Nat) t v, Try.f7.params[j]? = some t → args[j]? = some v → Value.okWide Try.prog W .any base t v := hval0
  have hW' := hW
  obtain ⟨p, q, hA0, hV, rfl, hfz, hnd⟩ := hW
  have hA : DataW.TrodAll enc Try.prog W 0 (fun _ => true) true Try.f7.params.toList args.toList ds p := hA0
  rw [Try.params7] at hA hval
  obtain ⟨v0, vs0, d0, ds0, p0, q0, hargs, rfl, rfl, h0, r0⟩ := trodAll_cons hA
  obtain ⟨rfl, rfl, rfl⟩ := trodAll_nil r0
  obtain rfl : args = #[v0] := by cases args; simp_all
  obtain ⟨rfl, rfl⟩ := trodVars_none hV
  obtain ⟨cs0, rfl, _⟩ := okWide_struct Try.underlying53 (hval 0 53 v0 rfl rfl)
  have k0 := h0
  have lt0 : ∀ x ∈ p0, x.block < W.heap.size := by obtain ⟨m, hm⟩ := k0; exact DataW.trod_lt m _ _ _ hm
  obtain ⟨⟨⟨a0_0, l0_1, l0_2, a0_3⟩, l0_4⟩, hk0, ⟨⟨w0_0, ⟨m0_1, w0_1⟩, ⟨m0_2, w0_2⟩, w0_3⟩, ⟨m0_4, w0_4⟩⟩⟩ := open0.of h0
  obtain ⟨_, _, he0, ⟨_, _, rfl, rfl, ⟨_, _, rfl, ⟨A0_1, c0_1, rfl, hc0_1, hr0_1⟩, ⟨_, _, rfl, ⟨A0_2, c0_2, rfl, hc0_2, hr0_2⟩, rfl⟩⟩⟩, ⟨A0_4, c0_4, rfl, hc0_4, hr0_4⟩⟩ := hk0
  obtain rfl : cs0 = #[.int .i64 a0_0, .slice A0_1 l0_1.length c0_1, .slice A0_2 l0_2.length c0_2, .int .i64 a0_3, .slice A0_4 l0_4.length c0_4] := arr_eq he0
  clear hA0 hval0
  have hpure := Pure.FnExactCelOk a0_0 l0_1 l0_2 a0_3 l0_4 w0_0 m0_1 w0_1 m0_2 w0_2 w0_3 m0_4 w0_4
  obtain ⟨k, hpure⟩ := hpure
  refine (laws_FnExactCelOk.calls k a0_0 A0_1 c0_1 l0_1 A0_2 c0_2 l0_2 a0_3 A0_4 c0_4 l0_4 true W hr0_1 hc0_1 hr0_2 hc0_2 hr0_4 hc0_4 hpure).mono fun e W' ⟨he, bel0⟩ => ?_
  have bel := bel0
  subst he
  exact ⟨_, rfl, _, _, _, [], _, [], hW', trodAll_mk1 (shut_bool Try.underlying4 _), (trodAll_cons_mk (Below.trod laidOut (by kernel_rfl) (of_decide_eq_true (by kernel_rfl)) k0 bel lt0) trodAll_mk0), rfl, bel.frame _, fun h => by cases h⟩
theorem over : Rows.fnExactCelOkRow.holds Try.pinned (OpenSpec.ofChange Rows.fnExactCelOkSpec) :=
  OpenClaim.holds_of_wide 7 Try.f7 rfl rfl rfl rfl rfl rfl rfl ⟨rfl, rfl, rfl, rfl, rfl⟩ rfl rfl rfl rfl rfl (by kernel_rfl) Try.func7 (by kernel_rfl)
    (of_decide_eq_true (by kernel_rfl)) (by unfold Func.isWrapper; first | (rw [if_pos (by decide +kernel)]; kernel_rfl) | (rw [if_neg (by decide +kernel)]; exact ⟨rfl, rfl⟩))
    (fun os started H enc _ => lifted os started H enc)
theorem proved : Rows.FnExactCelOkSaid := over
#print axioms proved
end Go.Proofs.Ytcnipdbommmkmaa.fnExactCelOk
namespace Go.Proofs.Ytcnipdbommmkmaa
/-- The row, under a short name, for the claim. -/
theorem fnExactCelOk_holds : Rows.FnExactCelOkSaid := fnExactCelOk.proved
end Go.Proofs.Ytcnipdbommmkmaa
