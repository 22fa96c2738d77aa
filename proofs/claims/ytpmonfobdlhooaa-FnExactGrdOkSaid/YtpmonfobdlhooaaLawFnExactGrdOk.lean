/- The row of the law FnExactGrdOk: for every input it returns true, and each argument reads behind the call as it read before; out of the pure statement and the walk. Conditions: none. -/
import Derived.Test.YtpmonfobdlhooaaRows
import Derived.Test.YtpmonfobdlhooaaPFnExactGrdOkx2
import Derived.Test.YtpmonfobdlhooaaPureFnExactGrdOk
import Derived.Test.YtpmonfobdlhooaaOpen
import Derived.WalkKit
import Derived.ProofKit
import Derived.OpenShut
import Derived.ShutString
import Derived.ChangeOld
import Derived.Below
import Derived.SizedLaws
namespace Go.Proofs.Ytpmonfobdlhooaa.fnExactGrdOk
open Go.ChangeShapes Go.WideShapes Go.ChangeAt Go.RowKit Go.Proofs.YtpmonfobdlhooaaOpen Go.Proofs.Ytpmonfobdlhooaa.PFnExactGrdOk Go.Proofs.YtpmonfobdlhooaaW.PrintWords
open Go.ChangeMaps (open_string shut_string)
theorem own : ownKnob Try.prog.godebug = none := by kernel_rfl
theorem laidOut : laidOutB Try.prog = true := by kernel_rfl
theorem open0 : Opens Try.prog 69 (Kd.slice 36 k36) (fun x => (x.length ≤ maxLen ∧ ∀ x1_ ∈ x, ((Lit.int .i64 x1_.f0).wf = true ∧ (Lit.int .i64 x1_.f1).wf = true ∧ (Lit.int .i64 x1_.f2).wf = true ∧ (Lit.int .i64 x1_.f3).wf = true ∧ (Lit.int .i64 x1_.f4).wf = true ∧ (Lit.int .i64 x1_.f5).wf = true ∧ (Lit.int .i64 x1_.f6).wf = true))) :=
  (opens_slice Try.underlying69 (by kernel_rfl) (opens_iso (fun x : S36 => (x.f0, x.f1, x.f2, x.f3, x.f4, x.f5, x.f6)) (fun y => ⟨y.1, y.2.1, y.2.2.1, y.2.2.2.1, y.2.2.2.2.1, y.2.2.2.2.2.1, y.2.2.2.2.2.2⟩) (fun _ => rfl) (opens_struct Try.underlying36 (by kernel_rfl) (opensAt_cons rfl (by kernel_rfl) (opens_int Try.underlying3) (of_decide_eq_true (by kernel_rfl)) (opensAt_cons rfl (by kernel_rfl) (opens_int Try.underlying3) (of_decide_eq_true (by kernel_rfl)) (opensAt_cons rfl (by kernel_rfl) (opens_int Try.underlying3) (of_decide_eq_true (by kernel_rfl)) (opensAt_cons rfl (by kernel_rfl) (opens_int Try.underlying3) (of_decide_eq_true (by kernel_rfl)) (opensAt_cons rfl (by kernel_rfl) (opens_int Try.underlying3) (of_decide_eq_true (by kernel_rfl)) (opensAt_cons rfl (by kernel_rfl) (opens_int Try.underlying3) (of_decide_eq_true (by kernel_rfl)) (opensAt_one rfl (by kernel_rfl) (opens_int Try.underlying3)))))))))))
set_option maxRecDepth 100000 in
theorem lifted (os : Os) (started : os.Started) (H : Type) (enc : TypeId × Value → H) :
    ReturnsInHanded {} Try.checked os 14 .any (Rows.fnExactGrdOkSpec.pre6 enc Try.prog Try.f14 Rows.fnExactGrdOkRow.domain false) (Rows.fnExactGrdOkSpec.post enc Try.prog Try.f14 false true false false) := by
  refine returnsInHanded_of_change_sized (C := Try.checked) own started (by kernel_rfl) Try.func14
    (ChangeSpec.witness6 (enc := enc) (C := Try.checked) false ⟨#[], #[.slice none 0 0], []⟩ 8 (by kernel_rfl) (by kernel_rfl) (by kernel_rfl) (by kernel_rfl)) ?_
  intro W base args ds gs before hval0 hW hcnd _ _
  have hval : ∀ (j : Nat) t v, Try.f14.params[j]? = some t → args[j]? = some v → Value.okWide Try.prog W .any base t v := hval0
  have hW' := hW
  obtain ⟨p, q, hA0, hV, rfl, hfz, hnd⟩ := hW
  have hA : DataW.TrodAll enc Try.prog W 0 (fun _ => true) true Try.f14.params.toList args.toList ds p := hA0
  rw [Try.params14] at hA hval
  obtain ⟨v0, vs0, d0, ds0, p0, q0, hargs, rfl, rfl, h0, r0⟩ := trodAll_cons hA
  obtain ⟨rfl, rfl, rfl⟩ := trodAll_nil r0
  obtain rfl : args = #[v0] := by cases args; simp_all
  obtain ⟨rfl, rfl⟩ := trodVars_none hV
  obtain ⟨A_0, n_0, c_0, rfl⟩ := okWide_slice Try.underlying69 (hval 0 69 v0 rfl rfl)
  have k0 := h0
  have lt0 : ∀ x ∈ p0, x.block < W.heap.size := by obtain ⟨m, hm⟩ := k0; exact DataW.trod_lt m _ _ _ hm
  obtain ⟨l0, ⟨A0, c0, he0, hc0, hr0⟩, m0, w0⟩ := open0.of h0
  obtain ⟨e1_, e2_, e3_⟩ : A_0 = A0 ∧ n_0 = l0.length ∧ c_0 = c0 := by simpa [Value.cells] using he0
  subst A_0 n_0 c_0
  clear hA0 hval0
  have hpure := Pure.FnExactGrdOk l0 m0 w0
  obtain ⟨k, hpure⟩ := hpure
  refine (laws_FnExactGrdOk.calls k A0 c0 l0 true W hr0 hc0 hpure).mono fun e W' ⟨he, bel0⟩ => ?_
  have bel := bel0
  subst he
  exact ⟨_, rfl, _, _, _, [], _, [], hW', trodAll_mk1 (shut_bool Try.underlying4 _), (trodAll_cons_mk (Below.trod laidOut (by kernel_rfl) (of_decide_eq_true (by kernel_rfl)) k0 bel lt0) trodAll_mk0), rfl, bel.frame _, fun h => by cases h⟩
theorem over : Rows.fnExactGrdOkRow.holds Try.pinned (OpenSpec.ofChange Rows.fnExactGrdOkSpec) :=
  OpenClaim.holds_of_wide 14 Try.f14 rfl rfl rfl rfl rfl rfl rfl ⟨rfl, rfl, rfl, rfl, rfl⟩ rfl rfl rfl rfl rfl (by kernel_rfl) Try.func14 (by kernel_rfl)
    (of_decide_eq_true (by kernel_rfl)) (by unfold Func.isWrapper; first | (rw [if_pos (by decide +kernel)]; kernel_rfl) | (rw [if_neg (by decide +kernel)]; exact ⟨rfl, rfl⟩))
    (fun os started H enc _ => lifted os started H enc)
theorem proved : Rows.FnExactGrdOkSaid := over
#print axioms proved
end Go.Proofs.Ytpmonfobdlhooaa.fnExactGrdOk
namespace Go.Proofs.Ytpmonfobdlhooaa
/-- The row, under a short name, for the claim. -/
theorem fnExactGrdOk_holds : Rows.FnExactGrdOkSaid := fnExactGrdOk.proved
end Go.Proofs.Ytpmonfobdlhooaa
