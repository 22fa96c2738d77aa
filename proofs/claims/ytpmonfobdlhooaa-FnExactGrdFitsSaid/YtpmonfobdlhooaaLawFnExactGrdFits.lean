/- The row of the law FnExactGrdFits: for every input it returns true, and each argument reads behind the call as it read before; out of the pure statement and the walk. Conditions: none. -/
import Derived.Test.YtpmonfobdlhooaaRows
import Derived.Test.YtpmonfobdlhooaaPFnExactGrdFitsx2
import Derived.Test.YtpmonfobdlhooaaPureFnExactGrdFits
import Derived.Test.YtpmonfobdlhooaaOpen
import Derived.WalkKit
import Derived.ProofKit
import Derived.OpenShut
import Derived.ShutString
import Derived.ChangeOld
import Derived.Below
import Derived.SizedLaws
namespace Go.Proofs.Ytpmonfobdlhooaa.fnExactGrdFits
open Go.ChangeShapes Go.WideShapes Go.ChangeAt Go.RowKit Go.Proofs.YtpmonfobdlhooaaOpen Go.Proofs.Ytpmonfobdlhooaa.PFnExactGrdFits Go.Proofs.YtpmonfobdlhooaaW.PrintWords
open Go.ChangeMaps (open_string shut_string)
theorem own : ownKnob Try.prog.godebug = none := by kernel_rfl
theorem laidOut : laidOutB Try.prog = true := by kernel_rfl
theorem open0 : Opens Try.prog 36 (Kd.pair (Kd.int .i64) (Kd.pair (Kd.int .i64) (Kd.pair (Kd.int .i64) (Kd.pair (Kd.int .i64) (Kd.pair (Kd.int .i64) (Kd.pair (Kd.int .i64) (Kd.int .i64))))))) (fun x => ((Lit.int .i64 x.1).wf = true ∧ (Lit.int .i64 x.2.1).wf = true ∧ (Lit.int .i64 x.2.2.1).wf = true ∧ (Lit.int .i64 x.2.2.2.1).wf = true ∧ (Lit.int .i64 x.2.2.2.2.1).wf = true ∧ (Lit.int .i64 x.2.2.2.2.2.1).wf = true ∧ (Lit.int .i64 x.2.2.2.2.2.2).wf = true)) :=
  (opens_struct Try.underlying36 (by kernel_rfl) (opensAt_cons rfl (by kernel_rfl) (opens_int Try.underlying3) (of_decide_eq_true (by kernel_rfl)) (opensAt_cons rfl (by kernel_rfl) (opens_int Try.underlying3) (of_decide_eq_true (by kernel_rfl)) (opensAt_cons rfl (by kernel_rfl) (opens_int Try.underlying3) (of_decide_eq_true (by kernel_rfl)) (opensAt_cons rfl (by kernel_rfl) (opens_int Try.underlying3) (of_decide_eq_true (by kernel_rfl)) (opensAt_cons rfl (by kernel_rfl) (opens_int Try.underlying3) (of_decide_eq_true (by kernel_rfl)) (opensAt_cons rfl (by kernel_rfl) (opens_int Try.underlying3) (of_decide_eq_true (by kernel_rfl)) (opensAt_one rfl (by kernel_rfl) (opens_int Try.underlying3)))))))))
theorem open1 : Opens Try.prog 41 (Kd.slice 5 (Kd.int .u8)) (fun x => (x.length ≤ maxLen ∧ ∀ x1_ ∈ x, (Lit.int .u8 x1_).wf = true)) :=
  (opens_slice Try.underlying41 (by kernel_rfl) (opens_int Try.underlying5))
set_option maxRecDepth 100000 in
theorem lifted (os : Os) (started : os.Started) (H : Type) (enc : TypeId × Value → H) :
    ReturnsInHanded {} Try.checked os 11 .any (Rows.fnExactGrdFitsSpec.pre6 enc Try.prog Try.f11 Rows.fnExactGrdFitsRow.domain false) (Rows.fnExactGrdFitsSpec.post enc Try.prog Try.f11 false true false false) := by
  refine returnsInHanded_of_change_sized (C := Try.checked) own started (by kernel_rfl) Try.func11
    (ChangeSpec.witness6 (enc := enc) (C := Try.checked) false ⟨#[], #[.agg #[.int .i64 0, .int .i64 0, .int .i64 0, .int .i64 0, .int .i64 0, .int .i64 0, .int .i64 0], .slice none 0 0], []⟩ 8 (by kernel_rfl) (by kernel_rfl) (by kernel_rfl) (by kernel_rfl)) ?_
  intro W base args ds gs before hval0 hW hcnd _ _
  have hval : ∀ (j : Nat) t v, Try.f11.params[j]? = some t → args[j]? = some v → Value.okWide Try.prog W .any base t v := hval0
  have hW' := hW
  obtain ⟨p, q, hA0, hV, rfl, hfz, hnd⟩ := hW
  have hA : DataW.TrodAll enc Try.prog W 0 (fun _ => true) true Try.f11.params.toList args.toList ds p := hA0
  rw [Try.params11] at hA hval
  obtain ⟨v0, vs0, d0, ds0, p0, q0, hargs, rfl, rfl, h0, r0⟩ := trodAll_cons hA
  obtain ⟨v1, vs1, d1, ds1, p1, q1, rfl, rfl, rfl, h1, r1⟩ := trodAll_cons r0
  obtain ⟨rfl, rfl, rfl⟩ := trodAll_nil r1
  obtain rfl : args = #[v0, v1] := by cases args; simp_all
  obtain ⟨rfl, rfl⟩ := trodVars_none hV
  obtain ⟨cs0, rfl, _⟩ := okWide_struct Try.underlying36 (hval 0 36 v0 rfl rfl)
  have k0 := h0
  have lt0 : ∀ x ∈ p0, x.block < W.heap.size := by obtain ⟨m, hm⟩ := k0; exact DataW.trod_lt m _ _ _ hm
  obtain ⟨⟨a0_0, a0_1, a0_2, a0_3, a0_4, a0_5, a0_6⟩, hk0, ⟨w0_0, w0_1, w0_2, w0_3, w0_4, w0_5, w0_6⟩⟩ := open0.of h0
  obtain ⟨_, _, he0, rfl, ⟨_, _, rfl, rfl, ⟨_, _, rfl, rfl, ⟨_, _, rfl, rfl, ⟨_, _, rfl, rfl, ⟨_, _, rfl, rfl, rfl⟩⟩⟩⟩⟩⟩ := hk0
  obtain rfl : cs0 = #[.int .i64 a0_0, .int .i64 a0_1, .int .i64 a0_2, .int .i64 a0_3, .int .i64 a0_4, .int .i64 a0_5, .int .i64 a0_6] := arr_eq he0
  obtain ⟨A_1, n_1, c_1, rfl⟩ := okWide_slice Try.underlying41 (hval 1 41 v1 rfl rfl)
  have k1 := h1
  have lt1 : ∀ x ∈ p1, x.block < W.heap.size := by obtain ⟨m, hm⟩ := k1; exact DataW.trod_lt m _ _ _ hm
  obtain ⟨l1, ⟨A1, c1, he1, hc1, hr1⟩, m1, w1⟩ := open1.of h1
  obtain ⟨e1_, e2_, e3_⟩ : A_1 = A1 ∧ n_1 = l1.length ∧ c_1 = c1 := by simpa [Value.cells] using he1
  subst A_1 n_1 c_1
  clear hA0 hval0
  have hpure := Pure.FnExactGrdFits a0_0 a0_1 a0_2 a0_3 a0_4 a0_5 a0_6 l1 w0_0 w0_1 w0_2 w0_3 w0_4 w0_5 w0_6 m1 w1
  obtain ⟨k, hpure⟩ := hpure
  refine (laws_FnExactGrdFits.calls k a0_0 a0_1 a0_2 a0_3 a0_4 a0_5 a0_6 A1 c1 l1 true W hr1 hc1 hpure).mono fun e W' ⟨he, bel0⟩ => ?_
  have bel := bel0
  subst he
  exact ⟨_, rfl, _, _, _, [], _, [], hW', trodAll_mk1 (shut_bool Try.underlying4 _), (trodAll_cons_mk (Below.trod laidOut (by kernel_rfl) (of_decide_eq_true (by kernel_rfl)) k0 bel lt0) (trodAll_cons_mk (Below.trod laidOut (by kernel_rfl) (of_decide_eq_true (by kernel_rfl)) k1 bel lt1) trodAll_mk0)), rfl, bel.frame _, fun h => by cases h⟩
theorem over : Rows.fnExactGrdFitsRow.holds Try.pinned (OpenSpec.ofChange Rows.fnExactGrdFitsSpec) :=
  OpenClaim.holds_of_wide 11 Try.f11 rfl rfl rfl rfl rfl rfl rfl ⟨rfl, rfl, rfl, rfl, rfl⟩ rfl rfl rfl rfl rfl (by kernel_rfl) Try.func11 (by kernel_rfl)
    (of_decide_eq_true (by kernel_rfl)) (by unfold Func.isWrapper; first | (rw [if_pos (by decide +kernel)]; kernel_rfl) | (rw [if_neg (by decide +kernel)]; exact ⟨rfl, rfl⟩))
    (fun os started H enc _ => lifted os started H enc)
theorem proved : Rows.FnExactGrdFitsSaid := over
#print axioms proved
end Go.Proofs.Ytpmonfobdlhooaa.fnExactGrdFits
namespace Go.Proofs.Ytpmonfobdlhooaa
/-- The row, under a short name, for the claim. -/
theorem fnExactGrdFits_holds : Rows.FnExactGrdFitsSaid := fnExactGrdFits.proved
end Go.Proofs.Ytpmonfobdlhooaa
