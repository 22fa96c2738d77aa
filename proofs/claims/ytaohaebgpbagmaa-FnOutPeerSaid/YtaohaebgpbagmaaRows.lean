/-
  No cell of these rows narrows 'for every input' (looked for: loops, veiled, ifaces, maps, wideKeys, modest, calm, conditions, laid).
  DERIVED. THE GIVEN ROWS OF THIS SEAT. 8 by the template 'for every input the law returns true; each argument reads behind the call as it read before'; 0 by the template 'total and deterministic' (their statements: YtaohaebgpbagmaaTotals.lean).
  GIVEN WITH THE SEED: the statements are not yours to turn. If you find one false, say at which input.
  Laid BY PROGRAM, IN A SANDBOX (cutbox-rows.mjs): the forced cells as the released guide's own fill.sh prints them over the translation 5989e3f642f8904f… (all of the seat's roots in one cut). By AI agents, Wed Nov 11 2026. No macro, syntax, notation, axiom, sorry.
-/
import Derived.Test.YtaohaebgpbagmaaChecked
import GoSem.Claim
import GoSem.ClaimJoined
import GoSem.ClaimMapViews
import Derived.JoinedTies
import Derived.KernelRfl
namespace Go.Proofs.Ytaohaebgpbagmaa
/- THE CELL 'sum', in the pinned program and in every row, IS THE sha256 OF THE DUMP (.gsa) THAT YtaohaebgpbagmaaProg.lean LOADS. Nothing in Lean hashes anything: it is a label: what it is worth is what the hold of that sum in a sandbox is worth. -/
noncomputable def Try.pinned : Pinned := { name := "ytaohaebgpbagmaa", sum := "5989e3f642f8904ff368a2736a6b759bdffff56c7d5d3feaf81628c6187066e0", checked := Try.checked }
namespace Rows
def none {H : Type} : Left H := { results := [], args := [] }

/-- 'laws.FnExactInFresh': WHATEVER THE INPUT: true; the input reads as it did. -/
def fnExactInFreshSpec : ChangeSpec := { name := "fnExactInFresh", fn := fun _ => fun
  | [d1, d2, d3, d4] => { results := [.lit (.bool true)], args := [d1, d2, d3, d4] }
  | _ => none }
def fnExactInFreshRow : OpenClaim := { program := "ytaohaebgpbagmaa", sum := "5989e3f642f8904ff368a2736a6b759bdffff56c7d5d3feaf81628c6187066e0", func := "loop.example/casemate/laws.FnExactInFresh", spec := "fnExactInFresh", plainKeys := false, apart := false }
def FnExactInFreshSaid : Prop := fnExactInFreshRow.holds Try.pinned (OpenSpec.ofChange fnExactInFreshSpec)

/-- ITS FALSE NEIGHBOUR: 'it returns false'. Refute it at one input. -/
def fnExactInFreshWrong : ChangeSpec := { name := "fnExactInFresh", fn := fun _ => fun
  | [d1, d2, d3, d4] => { results := [.lit (.bool false)], args := [d1, d2, d3, d4] }
  | _ => none }
def FnExactInFreshWrongFalsely : Prop := fnExactInFreshRow.holds Try.pinned (OpenSpec.ofChange fnExactInFreshWrong)

/-- 'laws.FnExactInHear': WHATEVER THE INPUT: true; the input reads as it did. -/
def fnExactInHearSpec : ChangeSpec := { name := "fnExactInHear", fn := fun _ => fun
  | [d1, d2, d3, d4] => { results := [.lit (.bool true)], args := [d1, d2, d3, d4] }
  | _ => none }
def fnExactInHearRow : OpenClaim := { program := "ytaohaebgpbagmaa", sum := "5989e3f642f8904ff368a2736a6b759bdffff56c7d5d3feaf81628c6187066e0", func := "loop.example/casemate/laws.FnExactInHear", spec := "fnExactInHear", plainKeys := false, apart := false }
def FnExactInHearSaid : Prop := fnExactInHearRow.holds Try.pinned (OpenSpec.ofChange fnExactInHearSpec)

/-- ITS FALSE NEIGHBOUR: 'it returns false'. Refute it at one input. -/
def fnExactInHearWrong : ChangeSpec := { name := "fnExactInHear", fn := fun _ => fun
  | [d1, d2, d3, d4] => { results := [.lit (.bool false)], args := [d1, d2, d3, d4] }
  | _ => none }
def FnExactInHearWrongFalsely : Prop := fnExactInHearRow.holds Try.pinned (OpenSpec.ofChange fnExactInHearWrong)

/-- 'laws.FnInOnce': WHATEVER THE INPUT: true; the input reads as it did. -/
def fnInOnceSpec : ChangeSpec := { name := "fnInOnce", fn := fun _ => fun
  | [d1, d2] => { results := [.lit (.bool true)], args := [d1, d2] }
  | _ => none }
def fnInOnceRow : OpenClaim := { program := "ytaohaebgpbagmaa", sum := "5989e3f642f8904ff368a2736a6b759bdffff56c7d5d3feaf81628c6187066e0", func := "loop.example/casemate/laws.FnInOnce", spec := "fnInOnce", plainKeys := false, apart := false }
def FnInOnceSaid : Prop := fnInOnceRow.holds Try.pinned (OpenSpec.ofChange fnInOnceSpec)

/-- ITS FALSE NEIGHBOUR: 'it returns false'. Refute it at one input. -/
def fnInOnceWrong : ChangeSpec := { name := "fnInOnce", fn := fun _ => fun
  | [d1, d2] => { results := [.lit (.bool false)], args := [d1, d2] }
  | _ => none }
def FnInOnceWrongFalsely : Prop := fnInOnceRow.holds Try.pinned (OpenSpec.ofChange fnInOnceWrong)

/-- 'laws.FnExactHrdNew': WHATEVER THE INPUT: true; the input reads as it did. -/
def fnExactHrdNewSpec : ChangeSpec := { name := "fnExactHrdNew", fn := fun _ => fun
  | [d] => { results := [.lit (.bool true)], args := [d] }
  | _ => none }
def fnExactHrdNewRow : OpenClaim := { program := "ytaohaebgpbagmaa", sum := "5989e3f642f8904ff368a2736a6b759bdffff56c7d5d3feaf81628c6187066e0", func := "loop.example/casemate/laws.FnExactHrdNew", spec := "fnExactHrdNew", plainKeys := false, apart := false }
def FnExactHrdNewSaid : Prop := fnExactHrdNewRow.holds Try.pinned (OpenSpec.ofChange fnExactHrdNewSpec)

/-- ITS FALSE NEIGHBOUR: 'it returns false'. Refute it at one input. -/
def fnExactHrdNewWrong : ChangeSpec := { name := "fnExactHrdNew", fn := fun _ => fun
  | [d] => { results := [.lit (.bool false)], args := [d] }
  | _ => none }
def FnExactHrdNewWrongFalsely : Prop := fnExactHrdNewRow.holds Try.pinned (OpenSpec.ofChange fnExactHrdNewWrong)

/-- 'laws.FnHrdRises': WHATEVER THE INPUT: true; the input reads as it did. -/
def fnHrdRisesSpec : ChangeSpec := { name := "fnHrdRises", fn := fun _ => fun
  | [d1, d2] => { results := [.lit (.bool true)], args := [d1, d2] }
  | _ => none }
def fnHrdRisesRow : OpenClaim := { program := "ytaohaebgpbagmaa", sum := "5989e3f642f8904ff368a2736a6b759bdffff56c7d5d3feaf81628c6187066e0", func := "loop.example/casemate/laws.FnHrdRises", spec := "fnHrdRises", plainKeys := false, apart := false }
def FnHrdRisesSaid : Prop := fnHrdRisesRow.holds Try.pinned (OpenSpec.ofChange fnHrdRisesSpec)

/-- ITS FALSE NEIGHBOUR: 'it returns false'. Refute it at one input. -/
def fnHrdRisesWrong : ChangeSpec := { name := "fnHrdRises", fn := fun _ => fun
  | [d1, d2] => { results := [.lit (.bool false)], args := [d1, d2] }
  | _ => none }
def FnHrdRisesWrongFalsely : Prop := fnHrdRisesRow.holds Try.pinned (OpenSpec.ofChange fnHrdRisesWrong)

/-- 'laws.FnExactHrdHear': WHATEVER THE INPUT: true; the input reads as it did. -/
def fnExactHrdHearSpec : ChangeSpec := { name := "fnExactHrdHear", fn := fun _ => fun
  | [d1, d2, d3, d4] => { results := [.lit (.bool true)], args := [d1, d2, d3, d4] }
  | _ => none }
def fnExactHrdHearRow : OpenClaim := { program := "ytaohaebgpbagmaa", sum := "5989e3f642f8904ff368a2736a6b759bdffff56c7d5d3feaf81628c6187066e0", func := "loop.example/casemate/laws.FnExactHrdHear", spec := "fnExactHrdHear", plainKeys := false, apart := false }
def FnExactHrdHearSaid : Prop := fnExactHrdHearRow.holds Try.pinned (OpenSpec.ofChange fnExactHrdHearSpec)

/-- ITS FALSE NEIGHBOUR: 'it returns false'. Refute it at one input. -/
def fnExactHrdHearWrong : ChangeSpec := { name := "fnExactHrdHear", fn := fun _ => fun
  | [d1, d2, d3, d4] => { results := [.lit (.bool false)], args := [d1, d2, d3, d4] }
  | _ => none }
def FnExactHrdHearWrongFalsely : Prop := fnExactHrdHearRow.holds Try.pinned (OpenSpec.ofChange fnExactHrdHearWrong)

/-- 'laws.FnOutOnce': WHATEVER THE INPUT: true; the input reads as it did. -/
def fnOutOnceSpec : ChangeSpec := { name := "fnOutOnce", fn := fun _ => fun
  | [d] => { results := [.lit (.bool true)], args := [d] }
  | _ => none }
def fnOutOnceRow : OpenClaim := { program := "ytaohaebgpbagmaa", sum := "5989e3f642f8904ff368a2736a6b759bdffff56c7d5d3feaf81628c6187066e0", func := "loop.example/casemate/laws.FnOutOnce", spec := "fnOutOnce", plainKeys := false, apart := false }
def FnOutOnceSaid : Prop := fnOutOnceRow.holds Try.pinned (OpenSpec.ofChange fnOutOnceSpec)

/-- ITS FALSE NEIGHBOUR: 'it returns false'. Refute it at one input. -/
def fnOutOnceWrong : ChangeSpec := { name := "fnOutOnce", fn := fun _ => fun
  | [d] => { results := [.lit (.bool false)], args := [d] }
  | _ => none }
def FnOutOnceWrongFalsely : Prop := fnOutOnceRow.holds Try.pinned (OpenSpec.ofChange fnOutOnceWrong)

/-- 'laws.FnOutPeer': WHATEVER THE INPUT: true; the input reads as it did. -/
def fnOutPeerSpec : ChangeSpec := { name := "fnOutPeer", fn := fun _ => fun
  | [d1, d2] => { results := [.lit (.bool true)], args := [d1, d2] }
  | _ => none }
def fnOutPeerRow : OpenClaim := { program := "ytaohaebgpbagmaa", sum := "5989e3f642f8904ff368a2736a6b759bdffff56c7d5d3feaf81628c6187066e0", func := "loop.example/casemate/laws.FnOutPeer", spec := "fnOutPeer", plainKeys := false, apart := false }
def FnOutPeerSaid : Prop := fnOutPeerRow.holds Try.pinned (OpenSpec.ofChange fnOutPeerSpec)

/-- ITS FALSE NEIGHBOUR: 'it returns false'. Refute it at one input. -/
def fnOutPeerWrong : ChangeSpec := { name := "fnOutPeer", fn := fun _ => fun
  | [d1, d2] => { results := [.lit (.bool false)], args := [d1, d2] }
  | _ => none }
def FnOutPeerWrongFalsely : Prop := fnOutPeerRow.holds Try.pinned (OpenSpec.ofChange fnOutPeerWrong)

/- THE SECOND FORM. 'bulk': how many values and letters a reading holds, each counted each time it is reached (what is shared counts as often as it is met; a slice's spare places count too). A statement '..UptoSaid' is the law's where the arguments, and the package variables that the reading takes, are together of bulk at most 1048576: NARROWER than '..Said'. Prove '..Said' where nothing that the law and all that it calls make is longer than what came in: it says more and counts as full. Else prove '..UptoSaid'. A law counts once. -/
mutual
def uptoBulk {H : Type} : DataW H → Nat
  | .lit (.string bytes) => bytes.length + 1
  | .lit _ => 1
  | .nil => 1
  | .ptr d => uptoBulk d + 1
  | .slice elems spare => uptoBulkAll elems + uptoBulkAll spare + 1
  | .agg parts => uptoBulkAll parts + 1
  | .iface _ d => uptoBulk d + 1
  | .map entries => uptoBulkEntries entries + 1
  | .held _ => 1
def uptoBulkAll {H : Type} : List (DataW H) → Nat
  | [] => 0
  | d :: r => uptoBulk d + uptoBulkAll r
def uptoBulkEntries {H : Type} : List (Lit × DataW H) → Nat
  | [] => 0
  | x :: r => uptoBulkEntry x + uptoBulkEntries r
def uptoBulkEntry {H : Type} : Lit × DataW H → Nat
  | (.string bytes, d) => bytes.length + uptoBulk d + 1
  | (_, d) => uptoBulk d + 1
 end
def uptoSmall : (H : Type) → List (DataW H) → Bool := fun _ ds => decide (uptoBulkAll ds ≤ 1048576)
def OpenSpec.upto (s : _root_.Go.ChangeSpec) : _root_.Go.OpenSpec := { _root_.Go.OpenSpec.ofChange s with cond := some uptoSmall }

/-- 'laws.FnExactInFresh', WHERE WHAT IT READS IS OF BULK AT MOST 1048576: true; the input reads as it did. -/
def fnExactInFreshUptoRow : OpenClaim := { program := "ytaohaebgpbagmaa", sum := "5989e3f642f8904ff368a2736a6b759bdffff56c7d5d3feaf81628c6187066e0", func := "loop.example/casemate/laws.FnExactInFresh", spec := "fnExactInFresh", plainKeys := false, apart := false, narrowed := true }
def FnExactInFreshUptoSaid : Prop := fnExactInFreshUptoRow.holds Try.pinned (OpenSpec.upto fnExactInFreshSpec)

/-- 'laws.FnExactInHear', WHERE WHAT IT READS IS OF BULK AT MOST 1048576: true; the input reads as it did. -/
def fnExactInHearUptoRow : OpenClaim := { program := "ytaohaebgpbagmaa", sum := "5989e3f642f8904ff368a2736a6b759bdffff56c7d5d3feaf81628c6187066e0", func := "loop.example/casemate/laws.FnExactInHear", spec := "fnExactInHear", plainKeys := false, apart := false, narrowed := true }
def FnExactInHearUptoSaid : Prop := fnExactInHearUptoRow.holds Try.pinned (OpenSpec.upto fnExactInHearSpec)

/-- 'laws.FnInOnce', WHERE WHAT IT READS IS OF BULK AT MOST 1048576: true; the input reads as it did. -/
def fnInOnceUptoRow : OpenClaim := { program := "ytaohaebgpbagmaa", sum := "5989e3f642f8904ff368a2736a6b759bdffff56c7d5d3feaf81628c6187066e0", func := "loop.example/casemate/laws.FnInOnce", spec := "fnInOnce", plainKeys := false, apart := false, narrowed := true }
def FnInOnceUptoSaid : Prop := fnInOnceUptoRow.holds Try.pinned (OpenSpec.upto fnInOnceSpec)

/-- 'laws.FnExactHrdNew', WHERE WHAT IT READS IS OF BULK AT MOST 1048576: true; the input reads as it did. -/
def fnExactHrdNewUptoRow : OpenClaim := { program := "ytaohaebgpbagmaa", sum := "5989e3f642f8904ff368a2736a6b759bdffff56c7d5d3feaf81628c6187066e0", func := "loop.example/casemate/laws.FnExactHrdNew", spec := "fnExactHrdNew", plainKeys := false, apart := false, narrowed := true }
def FnExactHrdNewUptoSaid : Prop := fnExactHrdNewUptoRow.holds Try.pinned (OpenSpec.upto fnExactHrdNewSpec)

/-- 'laws.FnHrdRises', WHERE WHAT IT READS IS OF BULK AT MOST 1048576: true; the input reads as it did. -/
def fnHrdRisesUptoRow : OpenClaim := { program := "ytaohaebgpbagmaa", sum := "5989e3f642f8904ff368a2736a6b759bdffff56c7d5d3feaf81628c6187066e0", func := "loop.example/casemate/laws.FnHrdRises", spec := "fnHrdRises", plainKeys := false, apart := false, narrowed := true }
def FnHrdRisesUptoSaid : Prop := fnHrdRisesUptoRow.holds Try.pinned (OpenSpec.upto fnHrdRisesSpec)

/-- 'laws.FnExactHrdHear', WHERE WHAT IT READS IS OF BULK AT MOST 1048576: true; the input reads as it did. -/
def fnExactHrdHearUptoRow : OpenClaim := { program := "ytaohaebgpbagmaa", sum := "5989e3f642f8904ff368a2736a6b759bdffff56c7d5d3feaf81628c6187066e0", func := "loop.example/casemate/laws.FnExactHrdHear", spec := "fnExactHrdHear", plainKeys := false, apart := false, narrowed := true }
def FnExactHrdHearUptoSaid : Prop := fnExactHrdHearUptoRow.holds Try.pinned (OpenSpec.upto fnExactHrdHearSpec)

/-- 'laws.FnOutOnce', WHERE WHAT IT READS IS OF BULK AT MOST 1048576: true; the input reads as it did. -/
def fnOutOnceUptoRow : OpenClaim := { program := "ytaohaebgpbagmaa", sum := "5989e3f642f8904ff368a2736a6b759bdffff56c7d5d3feaf81628c6187066e0", func := "loop.example/casemate/laws.FnOutOnce", spec := "fnOutOnce", plainKeys := false, apart := false, narrowed := true }
def FnOutOnceUptoSaid : Prop := fnOutOnceUptoRow.holds Try.pinned (OpenSpec.upto fnOutOnceSpec)

/-- 'laws.FnOutPeer', WHERE WHAT IT READS IS OF BULK AT MOST 1048576: true; the input reads as it did. -/
def fnOutPeerUptoRow : OpenClaim := { program := "ytaohaebgpbagmaa", sum := "5989e3f642f8904ff368a2736a6b759bdffff56c7d5d3feaf81628c6187066e0", func := "loop.example/casemate/laws.FnOutPeer", spec := "fnOutPeer", plainKeys := false, apart := false, narrowed := true }
def FnOutPeerUptoSaid : Prop := fnOutPeerUptoRow.holds Try.pinned (OpenSpec.upto fnOutPeerSpec)

end Rows
end Go.Proofs.Ytaohaebgpbagmaa
