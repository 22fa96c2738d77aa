/- The row of the law FnExactSealOpen: for every input it returns true, and each argument reads behind the call as it read before; and the tied card; out of the pure statement and the walk. Conditions: errors.errorType is laid (the card ties it). -/
import Derived.Test.YtghmfcfgmcngpaaDoorRows
import Derived.Test.YtghmfcfgmcngpaaDoorPFnExactSealOpenx3
import Derived.Test.YtghmfcfgmcngpaaDoorPureFnExactSealOpen
import Derived.Test.YtghmfcfgmcngpaaDoorOpen
import Derived.WalkKit
import Derived.ProofKit
import Derived.OpenShut
import Derived.ShutString
import Derived.ChangeOld
import Derived.Below
import Derived.SizedLaws
import Derived.Test.YtghmfcfgmcngpaaDoorDoorLaid
import Derived.Test.YtghmfcfgmcngpaaDoorCards
import Derived.Test.YtghmfcfgmcngpaaDoorTie
import Derived.SevenTiedAt
namespace Go.Proofs.YtghmfcfgmcngpaaDoor.fnExactSealOpen
open Go.ChangeShapes Go.WideShapes Go.ChangeAt Go.RowKit Go.Proofs.YtghmfcfgmcngpaaDoorOpen Go.Proofs.YtghmfcfgmcngpaaDoor.PFnExactSealOpen Go.Proofs.YtghmfcfgmcngpaaDoorW.PrintWords
open Go.ChangeMaps (open_string shut_string)
theorem own : ownKnob Tryd.prog.godebug = none := by kernel_rfl
theorem laidOut : laidOutB Tryd.prog = true := by kernel_rfl
theorem open2 : Opens Tryd.prog 22 (Kd.slice 5 (Kd.int .u8)) (fun x => (x.length ≤ maxLen ∧ ∀ x1_ ∈ x, (Lit.int .u8 x1_).wf = true)) :=
  (opens_slice Tryd.underlying22 (by kernel_rfl) (opens_int Tryd.underlying5))
theorem open3 : Opens Tryd.prog 22 (Kd.slice 5 (Kd.int .u8)) (fun x => (x.length ≤ maxLen ∧ ∀ x1_ ∈ x, (Lit.int .u8 x1_).wf = true)) :=
  (opens_slice Tryd.underlying22 (by kernel_rfl) (opens_int Tryd.underlying5))
set_option maxRecDepth 100000 in
theorem lifted (os : Os) (started : os.Started) (H : Type) (enc : TypeId × Value → H) :
    ReturnsInHanded {} Tryd.checked os 7 .any (fun w args => (Rows.fnExactSealOpenSpec.pre enc Tryd.prog Tryd.f7 [] false w args ∧ laidMetH Tryd.prog Go.Proofs.YtghmfcfgmcngpaaDoorDoorLaid.laid w) ∧ sizedMet enc Tryd.prog Tryd.f7 (OpenSpec.ofChange Rows.fnExactSealOpenSpec) false w args)
      (Rows.fnExactSealOpenSpec.post enc Tryd.prog Tryd.f7 false true false false) := by
  refine returnsInHanded_of_change_and (C := Tryd.checked) (X := fun w _ => laidMetH Tryd.prog Go.Proofs.YtghmfcfgmcngpaaDoorDoorLaid.laid w) (fun _ _ _ hh h => h.of_heap hh) own started (by kernel_rfl) Tryd.func7
    (ChangeSpec.witness_at (enc := enc) (C := Tryd.checked) (os := os) (X := fun w _ => laidMetH Tryd.prog Go.Proofs.YtghmfcfgmcngpaaDoorDoorLaid.laid w) false (Go.Proofs.YtghmfcfgmcngpaaDoorDoorLaid.laidWorld os) #[.int .i64 0, .int .i64 0, .slice none 0 0, .slice none 0 0] 8 rfl (by kernel_rfl) (by kernel_rfl) (by kernel_rfl) (by kernel_rfl) (by kernel_rfl) (Go.Proofs.YtghmfcfgmcngpaaDoorDoorLaid.laidWorld_met os _)) ?_
  intro W base args ds gs before hval0 hW hcnd _ hL _
  have hval : ∀ (j : Nat) t v, Tryd.f7.params[j]? = some t → args[j]? = some v → Value.okWide Tryd.prog W .any base t v := hval0
  have hW' := hW
  obtain ⟨p, q, hA0, hV, rfl, hfz, hnd⟩ := hW
  have hA : DataW.TrodAll enc Tryd.prog W 0 (fun _ => true) true Tryd.f7.params.toList args.toList ds p := hA0
  rw [Tryd.params7] at hA hval
  obtain ⟨v0, vs0, d0, ds0, p0, q0, hargs, rfl, rfl, h0, r0⟩ := trodAll_cons hA
  obtain ⟨v1, vs1, d1, ds1, p1, q1, rfl, rfl, rfl, h1, r1⟩ := trodAll_cons r0
  obtain ⟨v2, vs2, d2, ds2, p2, q2, rfl, rfl, rfl, h2, r2⟩ := trodAll_cons r1
  obtain ⟨v3, vs3, d3, ds3, p3, q3, rfl, rfl, rfl, h3, r3⟩ := trodAll_cons r2
  obtain ⟨rfl, rfl, rfl⟩ := trodAll_nil r3
  obtain rfl : args = #[v0, v1, v2, v3] := by cases args; simp_all
  obtain ⟨rfl, rfl⟩ := trodVars_none hV
  obtain ⟨a0, rfl, rfl, rfl, w0⟩ := open_int Tryd.underlying3 (hval 0 3 v0 rfl rfl) h0
  obtain ⟨a1, rfl, rfl, rfl, w1⟩ := open_int Tryd.underlying3 (hval 1 3 v1 rfl rfl) h1
  obtain ⟨A_2, n_2, c_2, rfl⟩ := okWide_slice Tryd.underlying22 (hval 2 22 v2 rfl rfl)
  have k2 := h2
  have lt2 : ∀ x ∈ p2, x.block < W.heap.size := by obtain ⟨m, hm⟩ := k2; exact DataW.trod_lt m _ _ _ hm
  obtain ⟨l2, ⟨A2, c2, he2, hc2, hr2⟩, m2, w2⟩ := open2.of h2
  obtain ⟨e1_, e2_, e3_⟩ : A_2 = A2 ∧ n_2 = l2.length ∧ c_2 = c2 := by simpa [Value.cells] using he2
  subst A_2 n_2 c_2
  obtain ⟨A_3, n_3, c_3, rfl⟩ := okWide_slice Tryd.underlying22 (hval 3 22 v3 rfl rfl)
  have k3 := h3
  have lt3 : ∀ x ∈ p3, x.block < W.heap.size := by obtain ⟨m, hm⟩ := k3; exact DataW.trod_lt m _ _ _ hm
  obtain ⟨l3, ⟨A3, c3, he3, hc3, hr3⟩, m3, w3⟩ := open3.of h3
  obtain ⟨e1_, e2_, e3_⟩ : A_3 = A3 ∧ n_3 = l3.length ∧ c_3 = c3 := by simpa [Value.cells] using he3
  subst A_3 n_3 c_3
  clear hA0 hval0
  have hpure := Pure.FnExactSealOpen a0 a1 l2 l3 w0 w1 m2 w2 m3 w3
  obtain ⟨k, hpure⟩ := hpure
  refine (laws_FnExactSealOpen.calls k a0 a1 A2 c2 l2 A3 c3 l3 true W hr2 hc2 hr3 hc3 hpure ⟨Go.Proofs.YtghmfcfgmcngpaaDoorDoorLaid.handle_of_laid hL⟩).mono fun e W' ⟨he, bel0⟩ => ?_
  have bel := bel0
  subst he
  exact ⟨_, rfl, _, _, _, [], _, [], hW', trodAll_mk1 (shut_bool Tryd.underlying4 _), (trodAll_cons_mk (shut_int Tryd.underlying3 w0) (trodAll_cons_mk (shut_int Tryd.underlying3 w1) (trodAll_cons_mk (Below.trod laidOut (by kernel_rfl) (of_decide_eq_true (by kernel_rfl)) k2 bel lt2) (trodAll_cons_mk (Below.trod laidOut (by kernel_rfl) (of_decide_eq_true (by kernel_rfl)) k3 bel lt3) trodAll_mk0)))), rfl, bel.frame _, fun h => by cases h⟩
theorem over : Rows.fnExactSealOpenRow.holds Tryd.pinned (OpenSpec.ofChange Rows.fnExactSealOpenSpec) :=
  OpenClaim.holds_of_wide 7 Tryd.f7 rfl rfl rfl rfl rfl rfl rfl ⟨rfl, rfl, rfl, rfl, rfl⟩ rfl rfl rfl rfl rfl (by kernel_rfl) Tryd.func7 (by kernel_rfl)
    (of_decide_eq_true (by kernel_rfl)) (by unfold Func.isWrapper; first | (rw [if_pos (by decide +kernel)]; kernel_rfl) | (rw [if_neg (by decide +kernel)]; exact ⟨rfl, rfl⟩))
    (fun os started H enc _ => lifted os started H enc)
theorem proved : Rows.FnExactSealOpenSaid := over
#print axioms proved
end Go.Proofs.YtghmfcfgmcngpaaDoor.fnExactSealOpen
namespace Go.Proofs.YtghmfcfgmcngpaaDoor
/-- The row, under a short name. -/
theorem fnExactSealOpen_holds : Rows.FnExactSealOpenSaid := fnExactSealOpen.proved
/-- The tied card, for the claim. -/
theorem fnExactSealOpenCard_holds : Rows.FnExactSealOpenCardSaid :=
  Claim7.holds_tied_plain_at .later [] [.handle] true (true, "e34a64c84061e6a3e403af430a63cb7a080f1aceedf0565b2f321010c5e37f00") true
    fnExactSealOpen_holds (fun _ h => by cases h) (by kernel_rfl) (fun _ h => by cases h) fnExactSealOpen_row_tie rfl ⟨rfl, rfl⟩ (by kernel_rfl) rfl
    (fun f fn hf hfn => by
      obtain rfl : f = 7 := Option.some.inj ((show Tryd.prog.funcNamed "loop.example/casemate/laws.FnExactSealOpen" = some 7 by kernel_rfl).symm.trans hf) |>.symm
      obtain rfl : fn = Tryd.f7 := (Option.some.inj (Tryd.func7.symm.trans hfn)).symm
      exact ⟨by kernel_rfl, fun j t ht => by
        rw [Tryd.params7] at ht
        have hm := Array.mem_of_getElem? ht
        simp only [List.mem_toArray, List.mem_cons, List.not_mem_nil, or_false] at hm
        rcases hm with rfl | rfl | rfl | rfl
        · exact (show Tryd.prog.wantsStandIn 3 = false by kernel_rfl)
        · exact (show Tryd.prog.wantsStandIn 3 = false by kernel_rfl)
        · exact (show Tryd.prog.wantsStandIn 22 = false by kernel_rfl)
        · exact (show Tryd.prog.wantsStandIn 22 = false by kernel_rfl)⟩)
    (by kernel_rfl)
#print axioms fnExactSealOpenCard_holds
end Go.Proofs.YtghmfcfgmcngpaaDoor
