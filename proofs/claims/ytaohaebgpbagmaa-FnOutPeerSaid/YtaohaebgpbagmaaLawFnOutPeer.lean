/- The row of the law FnOutPeer: for every input it returns true, and each argument reads behind the call as it read before; out of the pure statement and the walk. Conditions: none. -/
import Derived.Test.YtaohaebgpbagmaaRows
import Derived.Test.YtaohaebgpbagmaaPFnOutPeerx5
import Derived.Test.YtaohaebgpbagmaaPureFnOutPeer
import Derived.Test.YtaohaebgpbagmaaOpen
import Derived.WalkKit
import Derived.ProofKit
import Derived.OpenShut
import Derived.ShutString
import Derived.ChangeOld
import Derived.Below
import Derived.SizedLaws
namespace Go.Proofs.Ytaohaebgpbagmaa.fnOutPeer
open Go.ChangeShapes Go.WideShapes Go.ChangeAt Go.RowKit Go.Proofs.YtaohaebgpbagmaaOpen Go.Proofs.Ytaohaebgpbagmaa.PFnOutPeer Go.Proofs.YtaohaebgpbagmaaW.PrintWords
open Go.ChangeMaps (open_string shut_string)
theorem own : ownKnob Try.prog.godebug = none := by kernel_rfl
theorem laidOut : laidOutB Try.prog = true := by kernel_rfl
theorem open0 : Opens Try.prog 30 (Kd.slice 5 (Kd.int .u8)) (fun x => (x.length ≤ maxLen ∧ ∀ x1_ ∈ x, (Lit.int .u8 x1_).wf = true)) :=
  (opens_slice Try.underlying30 (by kernel_rfl) (opens_int Try.underlying5))
theorem open1 : Opens Try.prog 30 (Kd.slice 5 (Kd.int .u8)) (fun x => (x.length ≤ maxLen ∧ ∀ x1_ ∈ x, (Lit.int .u8 x1_).wf = true)) :=
  (opens_slice Try.underlying30 (by kernel_rfl) (opens_int Try.underlying5))
set_option maxRecDepth 100000 in
theorem lifted (os : Os) (started : os.Started) (H : Type) (enc : TypeId × Value → H) :
    ReturnsInHanded {} Try.checked os 10 .any (Rows.fnOutPeerSpec.pre6 enc Try.prog Try.f10 Rows.fnOutPeerRow.domain false) (Rows.fnOutPeerSpec.post enc Try.prog Try.f10 false true false false) := by
  refine returnsInHanded_of_change_sized (C := Try.checked) own started (by kernel_rfl) Try.func10
    (ChangeSpec.witness6 (enc := enc) (C := Try.checked) false ⟨#[], #[.slice none 0 0, .slice none 0 0], []⟩ 8 (by kernel_rfl) (by kernel_rfl) (by kernel_rfl) (by kernel_rfl)) ?_
  intro W base args ds gs before hval0 hW hcnd _ _
  have hval : ∀ (j : Nat) t v, Try.f10.params[j]? = some t → args[j]? = some v → Value.okWide Try.prog W .any base t v := hval0
  have hW' := hW
  obtain ⟨p, q, hA0, hV, rfl, hfz, hnd⟩ := hW
  have hA : DataW.TrodAll enc Try.prog W 0 (fun _ => true) true Try.f10.params.toList args.toList ds p := hA0
  rw [Try.params10] at hA hval
  obtain ⟨v0, vs0, d0, ds0, p0, q0, hargs, rfl, rfl, h0, r0⟩ := trodAll_cons hA
  obtain ⟨v1, vs1, d1, ds1, p1, q1, rfl, rfl, rfl, h1, r1⟩ := trodAll_cons r0
  obtain ⟨rfl, rfl, rfl⟩ := trodAll_nil r1
  obtain rfl : args = #[v0, v1] := by cases args; simp_all
  obtain ⟨rfl, rfl⟩ := trodVars_none hV
  obtain ⟨A_0, n_0, c_0, rfl⟩ := okWide_slice Try.underlying30 (hval 0 30 v0 rfl rfl)
  have k0 := h0
  have lt0 : ∀ x ∈ p0, x.block < W.heap.size := by obtain ⟨m, hm⟩ := k0; exact DataW.trod_lt m _ _ _ hm
  obtain ⟨l0, ⟨A0, c0, he0, hc0, hr0⟩, m0, w0⟩ := open0.of h0
  obtain ⟨e1_, e2_, e3_⟩ : A_0 = A0 ∧ n_0 = l0.length ∧ c_0 = c0 := by simpa [Value.cells] using he0
  subst A_0 n_0 c_0
  obtain ⟨A_1, n_1, c_1, rfl⟩ := okWide_slice Try.underlying30 (hval 1 30 v1 rfl rfl)
  have k1 := h1
  have lt1 : ∀ x ∈ p1, x.block < W.heap.size := by obtain ⟨m, hm⟩ := k1; exact DataW.trod_lt m _ _ _ hm
  obtain ⟨l1, ⟨A1, c1, he1, hc1, hr1⟩, m1, w1⟩ := open1.of h1
  obtain ⟨e1_, e2_, e3_⟩ : A_1 = A1 ∧ n_1 = l1.length ∧ c_1 = c1 := by simpa [Value.cells] using he1
  subst A_1 n_1 c_1
  clear hA0 hval0
  have hpure := Pure.FnOutPeer l0 l1 m0 w0 m1 w1
  obtain ⟨k, hpure⟩ := hpure
  refine (laws_FnOutPeer.calls k A0 c0 l0 A1 c1 l1 true W hr0 hc0 hr1 hc1 hpure).mono fun e W' ⟨he, bel0⟩ => ?_
  have bel := bel0
  subst he
  exact ⟨_, rfl, _, _, _, [], _, [], hW', trodAll_mk1 (shut_bool Try.underlying4 _), (trodAll_cons_mk (Below.trod laidOut (by kernel_rfl) (of_decide_eq_true (by kernel_rfl)) k0 bel lt0) (trodAll_cons_mk (Below.trod laidOut (by kernel_rfl) (of_decide_eq_true (by kernel_rfl)) k1 bel lt1) trodAll_mk0)), rfl, bel.frame _, fun h => by cases h⟩
theorem over : Rows.fnOutPeerRow.holds Try.pinned (OpenSpec.ofChange Rows.fnOutPeerSpec) :=
  OpenClaim.holds_of_wide 10 Try.f10 rfl rfl rfl rfl rfl rfl rfl ⟨rfl, rfl, rfl, rfl, rfl⟩ rfl rfl rfl rfl rfl (by kernel_rfl) Try.func10 (by kernel_rfl)
    (of_decide_eq_true (by kernel_rfl)) (by unfold Func.isWrapper; first | (rw [if_pos (by decide +kernel)]; kernel_rfl) | (rw [if_neg (by decide +kernel)]; exact ⟨rfl, rfl⟩))
    (fun os started H enc _ => lifted os started H enc)
theorem proved : Rows.FnOutPeerSaid := over
#print axioms proved
end Go.Proofs.Ytaohaebgpbagmaa.fnOutPeer
namespace Go.Proofs.Ytaohaebgpbagmaa
/-- The row, under a short name, for the claim. -/
theorem fnOutPeer_holds : Rows.FnOutPeerSaid := fnOutPeer.proved
end Go.Proofs.Ytaohaebgpbagmaa
