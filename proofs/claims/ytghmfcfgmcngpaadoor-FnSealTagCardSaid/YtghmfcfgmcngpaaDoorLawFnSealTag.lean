/- The row of the law FnSealTag: for every input it returns true, and each argument reads behind the call as it read before; and the tied card; out of the pure statement and the walk. Conditions: errors.errorType is laid (the card ties it). -/
import Derived.Test.YtghmfcfgmcngpaaDoorRows
import Derived.Test.YtghmfcfgmcngpaaDoorPFnSealTagx4
import Derived.Test.YtghmfcfgmcngpaaDoorPureFnSealTag
import Derived.Test.YtghmfcfgmcngpaaDoorOpen
import Derived.WalkKit
import Derived.ProofKit
import Derived.OpenShut
import Derived.ShutString
import Derived.ChangeOld
import Derived.Below
import Derived.SizedLaws
import Derived.Test.YtghmfcfgmcngpaaDoorDoorLaid
import Derived.Test.YtghmfcfgmcngpaaDoorCards
import Derived.Test.YtghmfcfgmcngpaaDoorTie
import Derived.SevenTiedAt
namespace Go.Proofs.YtghmfcfgmcngpaaDoor.fnSealTag
open Go.ChangeShapes Go.WideShapes Go.ChangeAt Go.RowKit Go.Proofs.YtghmfcfgmcngpaaDoorOpen Go.Proofs.YtghmfcfgmcngpaaDoor.PFnSealTag Go.Proofs.YtghmfcfgmcngpaaDoorW.PrintWords
open Go.ChangeMaps (open_string shut_string)
theorem own : ownKnob Tryd.prog.godebug = none := by kernel_rfl
theorem laidOut : laidOutB Tryd.prog = true := by kernel_rfl
theorem open0 : Opens Tryd.prog 22 (Kd.slice 5 (Kd.int .u8)) (fun x => (x.length ≤ maxLen ∧ ∀ x1_ ∈ x, (Lit.int .u8 x1_).wf = true)) :=
  (opens_slice Tryd.underlying22 (by kernel_rfl) (opens_int Tryd.underlying5))
set_option maxRecDepth 100000 in
theorem lifted (os : Os) (started : os.Started) (H : Type) (enc : TypeId × Value → H) :
    ReturnsInHanded {} Tryd.checked os 4 .any (fun w args => (Rows.fnSealTagSpec.pre enc Tryd.prog Tryd.f4 [] false w args ∧ laidMetH Tryd.prog Go.Proofs.YtghmfcfgmcngpaaDoorDoorLaid.laid w) ∧ sizedMet enc Tryd.prog Tryd.f4 (OpenSpec.ofChange Rows.fnSealTagSpec) false w args)
      (Rows.fnSealTagSpec.post enc Tryd.prog Tryd.f4 false true false false) := by
  refine returnsInHanded_of_change_and (C := Tryd.checked) (X := fun w _ => laidMetH Tryd.prog Go.Proofs.YtghmfcfgmcngpaaDoorDoorLaid.laid w) (fun _ _ _ hh h => h.of_heap hh) own started (by kernel_rfl) Tryd.func4
    (ChangeSpec.witness_at (enc := enc) (C := Tryd.checked) (os := os) (X := fun w _ => laidMetH Tryd.prog Go.Proofs.YtghmfcfgmcngpaaDoorDoorLaid.laid w) false (Go.Proofs.YtghmfcfgmcngpaaDoorDoorLaid.laidWorld os) #[.slice none 0 0] 8 rfl (by kernel_rfl) (by kernel_rfl) (by kernel_rfl) (by kernel_rfl) (by kernel_rfl) (Go.Proofs.YtghmfcfgmcngpaaDoorDoorLaid.laidWorld_met os _)) ?_
  intro W base args ds gs before hval0 hW hcnd _ hL _
  have hval : ∀ (j : Nat) t v, Tryd.f4.params[j]? = some t → args[j]? = some v → Value.okWide Tryd.prog W .any base t v := hval0
  have hW' := hW
  obtain ⟨p, q, hA0, hV, rfl, hfz, hnd⟩ := hW
  have hA : DataW.TrodAll enc Tryd.prog W 0 (fun _ => true) true Tryd.f4.params.toList args.toList ds p := hA0
  rw [Tryd.params4] at hA hval
  obtain ⟨v0, vs0, d0, ds0, p0, q0, hargs, rfl, rfl, h0, r0⟩ := trodAll_cons hA
  obtain ⟨rfl, rfl, rfl⟩ := trodAll_nil r0
  obtain rfl : args = #[v0] := by cases args; simp_all
  obtain ⟨rfl, rfl⟩ := trodVars_none hV
  obtain ⟨A_0, n_0, c_0, rfl⟩ := okWide_slice Tryd.underlying22 (hval 0 22 v0 rfl rfl)
  have k0 := h0
  have lt0 : ∀ x ∈ p0, x.block < W.heap.size := by obtain ⟨m, hm⟩ := k0; exact DataW.trod_lt m _ _ _ hm
  obtain ⟨l0, ⟨A0, c0, he0, hc0, hr0⟩, m0, w0⟩ := open0.of h0
  obtain ⟨e1_, e2_, e3_⟩ : A_0 = A0 ∧ n_0 = l0.length ∧ c_0 = c0 := by simpa [Value.cells] using he0
  subst A_0 n_0 c_0
  clear hA0 hval0
  have hpure := Pure.FnSealTag l0 m0 w0
  obtain ⟨k, hpure⟩ := hpure
  refine (laws_FnSealTag.calls k A0 c0 l0 true W hr0 hc0 hpure ⟨Go.Proofs.YtghmfcfgmcngpaaDoorDoorLaid.handle_of_laid hL⟩).mono fun e W' ⟨he, bel0⟩ => ?_
  have bel := bel0
  subst he
  exact ⟨_, rfl, _, _, _, [], _, [], hW', trodAll_mk1 (shut_bool Tryd.underlying4 _), (trodAll_cons_mk (Below.trod laidOut (by kernel_rfl) (of_decide_eq_true (by kernel_rfl)) k0 bel lt0) trodAll_mk0), rfl, bel.frame _, fun h => by cases h⟩
theorem over : Rows.fnSealTagRow.holds Tryd.pinned (OpenSpec.ofChange Rows.fnSealTagSpec) :=
  OpenClaim.holds_of_wide 4 Tryd.f4 rfl rfl rfl rfl rfl rfl rfl ⟨rfl, rfl, rfl, rfl, rfl⟩ rfl rfl rfl rfl rfl (by kernel_rfl) Tryd.func4 (by kernel_rfl)
    (of_decide_eq_true (by kernel_rfl)) (by unfold Func.isWrapper; first | (rw [if_pos (by decide +kernel)]; kernel_rfl) | (rw [if_neg (by decide +kernel)]; exact ⟨rfl, rfl⟩))
    (fun os started H enc _ => lifted os started H enc)
theorem proved : Rows.FnSealTagSaid := over
#print axioms proved
end Go.Proofs.YtghmfcfgmcngpaaDoor.fnSealTag
namespace Go.Proofs.YtghmfcfgmcngpaaDoor
/-- The row, under a short name. -/
theorem fnSealTag_holds : Rows.FnSealTagSaid := fnSealTag.proved
/-- The tied card, for the claim. -/
theorem fnSealTagCard_holds : Rows.FnSealTagCardSaid :=
  Claim7.holds_tied_plain_at .later [] [.handle] true (true, "e34a64c84061e6a3e403af430a63cb7a080f1aceedf0565b2f321010c5e37f00") true
    fnSealTag_holds (fun _ h => by cases h) (by kernel_rfl) (fun _ h => by cases h) fnSealTag_row_tie rfl ⟨rfl, rfl⟩ (by kernel_rfl) rfl
    (fun f fn hf hfn => by
      obtain rfl : f = 4 := Option.some.inj ((show Tryd.prog.funcNamed "loop.example/casemate/laws.FnSealTag" = some 4 by kernel_rfl).symm.trans hf) |>.symm
      obtain rfl : fn = Tryd.f4 := (Option.some.inj (Tryd.func4.symm.trans hfn)).symm
      exact ⟨by kernel_rfl, fun j t ht => by
        rw [Tryd.params4] at ht
        have hm := Array.mem_of_getElem? ht
        simp only [List.mem_toArray, List.mem_cons, List.not_mem_nil, or_false] at hm
        rcases hm with rfl
        · exact (show Tryd.prog.wantsStandIn 22 = false by kernel_rfl)⟩)
    (by kernel_rfl)
#print axioms fnSealTagCard_holds
end Go.Proofs.YtghmfcfgmcngpaaDoor
