/-
  No cell of these rows narrows 'for every input' (looked for: loops, veiled, ifaces, maps, wideKeys, modest, calm, conditions, laid).
  DERIVED. THE GIVEN ROWS OF THIS SEAT. 12 by the template 'for every input the law returns true; each argument reads behind the call as it read before'; 0 by the template 'total and deterministic' (their statements: YtpmonfobdlhooaaTotals.lean).
  GIVEN WITH THE SEED: the statements are not yours to turn. If you find one false, say at which input.
  Laid BY PROGRAM, IN A SANDBOX (cutbox-rows.mjs): the forced cells as the released guide's own fill.sh prints them over the translation efcfddbbd56500e9… (all of the seat's roots in one cut). By AI agents, Wed Nov 11 2026. No macro, syntax, notation, axiom, sorry.
-/
import Derived.Test.YtpmonfobdlhooaaChecked
import GoSem.Claim
import GoSem.ClaimJoined
import GoSem.ClaimMapViews
import Derived.JoinedTies
import Derived.KernelRfl
namespace Go.Proofs.Ytpmonfobdlhooaa
/- THE CELL 'sum', in the pinned program and in every row, IS THE sha256 OF THE DUMP (.gsa) THAT YtpmonfobdlhooaaProg.lean LOADS. Nothing in Lean hashes anything: it is a label: what it is worth is what the hold of that sum in a sandbox is worth. -/
noncomputable def Try.pinned : Pinned := { name := "ytpmonfobdlhooaa", sum := "efcfddbbd56500e9081f8d9edeafd206b074bb547b64ff8c0a473bdb24aa8db6", checked := Try.checked }
namespace Rows
def none {H : Type} : Left H := { results := [], args := [] }

/-- 'laws.FnExactConstants': WHATEVER THE INPUT: true; the input reads as it did. -/
def fnExactConstantsSpec : ChangeSpec := { name := "fnExactConstants", fn := fun _ => fun
  | [] => { results := [.lit (.bool true)], args := [] }
  | _ => none }
def fnExactConstantsRow : OpenClaim := { program := "ytpmonfobdlhooaa", sum := "efcfddbbd56500e9081f8d9edeafd206b074bb547b64ff8c0a473bdb24aa8db6", func := "loop.example/casemate/laws.FnExactConstants", spec := "fnExactConstants", apart := false }
def FnExactConstantsSaid : Prop := fnExactConstantsRow.holds Try.pinned (OpenSpec.ofChange fnExactConstantsSpec)

/-- ITS FALSE NEIGHBOUR: 'it returns false'. Refute it at one input. -/
def fnExactConstantsWrong : ChangeSpec := { name := "fnExactConstants", fn := fun _ => fun
  | [] => { results := [.lit (.bool false)], args := [] }
  | _ => none }
def FnExactConstantsWrongFalsely : Prop := fnExactConstantsRow.holds Try.pinned (OpenSpec.ofChange fnExactConstantsWrong)

/-- 'laws.FnExactInOk': WHATEVER THE INPUT: true; the input reads as it did. -/
def fnExactInOkSpec : ChangeSpec := { name := "fnExactInOk", fn := fun _ => fun
  | [d] => { results := [.lit (.bool true)], args := [d] }
  | _ => none }
def fnExactInOkRow : OpenClaim := { program := "ytpmonfobdlhooaa", sum := "efcfddbbd56500e9081f8d9edeafd206b074bb547b64ff8c0a473bdb24aa8db6", func := "loop.example/casemate/laws.FnExactInOk", spec := "fnExactInOk", apart := false }
def FnExactInOkSaid : Prop := fnExactInOkRow.holds Try.pinned (OpenSpec.ofChange fnExactInOkSpec)

/-- ITS FALSE NEIGHBOUR: 'it returns false'. Refute it at one input. -/
def fnExactInOkWrong : ChangeSpec := { name := "fnExactInOk", fn := fun _ => fun
  | [d] => { results := [.lit (.bool false)], args := [d] }
  | _ => none }
def FnExactInOkWrongFalsely : Prop := fnExactInOkRow.holds Try.pinned (OpenSpec.ofChange fnExactInOkWrong)

/-- 'laws.FnExactOutOk': WHATEVER THE INPUT: true; the input reads as it did. -/
def fnExactOutOkSpec : ChangeSpec := { name := "fnExactOutOk", fn := fun _ => fun
  | [d] => { results := [.lit (.bool true)], args := [d] }
  | _ => none }
def fnExactOutOkRow : OpenClaim := { program := "ytpmonfobdlhooaa", sum := "efcfddbbd56500e9081f8d9edeafd206b074bb547b64ff8c0a473bdb24aa8db6", func := "loop.example/casemate/laws.FnExactOutOk", spec := "fnExactOutOk", apart := false }
def FnExactOutOkSaid : Prop := fnExactOutOkRow.holds Try.pinned (OpenSpec.ofChange fnExactOutOkSpec)

/-- ITS FALSE NEIGHBOUR: 'it returns false'. Refute it at one input. -/
def fnExactOutOkWrong : ChangeSpec := { name := "fnExactOutOk", fn := fun _ => fun
  | [d] => { results := [.lit (.bool false)], args := [d] }
  | _ => none }
def FnExactOutOkWrongFalsely : Prop := fnExactOutOkRow.holds Try.pinned (OpenSpec.ofChange fnExactOutOkWrong)

/-- 'laws.FnExactGrdRuleOk': WHATEVER THE INPUT: true; the input reads as it did. -/
def fnExactGrdRuleOkSpec : ChangeSpec := { name := "fnExactGrdRuleOk", fn := fun _ => fun
  | [d] => { results := [.lit (.bool true)], args := [d] }
  | _ => none }
def fnExactGrdRuleOkRow : OpenClaim := { program := "ytpmonfobdlhooaa", sum := "efcfddbbd56500e9081f8d9edeafd206b074bb547b64ff8c0a473bdb24aa8db6", func := "loop.example/casemate/laws.FnExactGrdRuleOk", spec := "fnExactGrdRuleOk", apart := false }
def FnExactGrdRuleOkSaid : Prop := fnExactGrdRuleOkRow.holds Try.pinned (OpenSpec.ofChange fnExactGrdRuleOkSpec)

/-- ITS FALSE NEIGHBOUR: 'it returns false'. Refute it at one input. -/
def fnExactGrdRuleOkWrong : ChangeSpec := { name := "fnExactGrdRuleOk", fn := fun _ => fun
  | [d] => { results := [.lit (.bool false)], args := [d] }
  | _ => none }
def FnExactGrdRuleOkWrongFalsely : Prop := fnExactGrdRuleOkRow.holds Try.pinned (OpenSpec.ofChange fnExactGrdRuleOkWrong)

/-- 'laws.FnExactBytMessage': WHATEVER THE INPUT: true; the input reads as it did. -/
def fnExactBytMessageSpec : ChangeSpec := { name := "fnExactBytMessage", fn := fun _ => fun
  | [d] => { results := [.lit (.bool true)], args := [d] }
  | _ => none }
def fnExactBytMessageRow : OpenClaim := { program := "ytpmonfobdlhooaa", sum := "efcfddbbd56500e9081f8d9edeafd206b074bb547b64ff8c0a473bdb24aa8db6", func := "loop.example/casemate/laws.FnExactBytMessage", spec := "fnExactBytMessage", apart := false }
def FnExactBytMessageSaid : Prop := fnExactBytMessageRow.holds Try.pinned (OpenSpec.ofChange fnExactBytMessageSpec)

/-- ITS FALSE NEIGHBOUR: 'it returns false'. Refute it at one input. -/
def fnExactBytMessageWrong : ChangeSpec := { name := "fnExactBytMessage", fn := fun _ => fun
  | [d] => { results := [.lit (.bool false)], args := [d] }
  | _ => none }
def FnExactBytMessageWrongFalsely : Prop := fnExactBytMessageRow.holds Try.pinned (OpenSpec.ofChange fnExactBytMessageWrong)

/-- 'laws.FnExactOutOpen': WHATEVER THE INPUT: true; the input reads as it did. -/
def fnExactOutOpenSpec : ChangeSpec := { name := "fnExactOutOpen", fn := fun _ => fun
  | [d] => { results := [.lit (.bool true)], args := [d] }
  | _ => none }
def fnExactOutOpenRow : OpenClaim := { program := "ytpmonfobdlhooaa", sum := "efcfddbbd56500e9081f8d9edeafd206b074bb547b64ff8c0a473bdb24aa8db6", func := "loop.example/casemate/laws.FnExactOutOpen", spec := "fnExactOutOpen", apart := false }
def FnExactOutOpenSaid : Prop := fnExactOutOpenRow.holds Try.pinned (OpenSpec.ofChange fnExactOutOpenSpec)

/-- ITS FALSE NEIGHBOUR: 'it returns false'. Refute it at one input. -/
def fnExactOutOpenWrong : ChangeSpec := { name := "fnExactOutOpen", fn := fun _ => fun
  | [d] => { results := [.lit (.bool false)], args := [d] }
  | _ => none }
def FnExactOutOpenWrongFalsely : Prop := fnExactOutOpenRow.holds Try.pinned (OpenSpec.ofChange fnExactOutOpenWrong)

/-- 'laws.FnExactOutPeer': WHATEVER THE INPUT: true; the input reads as it did. -/
def fnExactOutPeerSpec : ChangeSpec := { name := "fnExactOutPeer", fn := fun _ => fun
  | [d1, d2] => { results := [.lit (.bool true)], args := [d1, d2] }
  | _ => none }
def fnExactOutPeerRow : OpenClaim := { program := "ytpmonfobdlhooaa", sum := "efcfddbbd56500e9081f8d9edeafd206b074bb547b64ff8c0a473bdb24aa8db6", func := "loop.example/casemate/laws.FnExactOutPeer", spec := "fnExactOutPeer", apart := false }
def FnExactOutPeerSaid : Prop := fnExactOutPeerRow.holds Try.pinned (OpenSpec.ofChange fnExactOutPeerSpec)

/-- ITS FALSE NEIGHBOUR: 'it returns false'. Refute it at one input. -/
def fnExactOutPeerWrong : ChangeSpec := { name := "fnExactOutPeer", fn := fun _ => fun
  | [d1, d2] => { results := [.lit (.bool false)], args := [d1, d2] }
  | _ => none }
def FnExactOutPeerWrongFalsely : Prop := fnExactOutPeerRow.holds Try.pinned (OpenSpec.ofChange fnExactOutPeerWrong)

/-- 'laws.FnExactOutNext': WHATEVER THE INPUT: true; the input reads as it did. -/
def fnExactOutNextSpec : ChangeSpec := { name := "fnExactOutNext", fn := fun _ => fun
  | [d] => { results := [.lit (.bool true)], args := [d] }
  | _ => none }
def fnExactOutNextRow : OpenClaim := { program := "ytpmonfobdlhooaa", sum := "efcfddbbd56500e9081f8d9edeafd206b074bb547b64ff8c0a473bdb24aa8db6", func := "loop.example/casemate/laws.FnExactOutNext", spec := "fnExactOutNext", apart := false }
def FnExactOutNextSaid : Prop := fnExactOutNextRow.holds Try.pinned (OpenSpec.ofChange fnExactOutNextSpec)

/-- ITS FALSE NEIGHBOUR: 'it returns false'. Refute it at one input. -/
def fnExactOutNextWrong : ChangeSpec := { name := "fnExactOutNext", fn := fun _ => fun
  | [d] => { results := [.lit (.bool false)], args := [d] }
  | _ => none }
def FnExactOutNextWrongFalsely : Prop := fnExactOutNextRow.holds Try.pinned (OpenSpec.ofChange fnExactOutNextWrong)

/-- 'laws.FnExactGrdFits': WHATEVER THE INPUT: true; the input reads as it did. -/
def fnExactGrdFitsSpec : ChangeSpec := { name := "fnExactGrdFits", fn := fun _ => fun
  | [d1, d2] => { results := [.lit (.bool true)], args := [d1, d2] }
  | _ => none }
def fnExactGrdFitsRow : OpenClaim := { program := "ytpmonfobdlhooaa", sum := "efcfddbbd56500e9081f8d9edeafd206b074bb547b64ff8c0a473bdb24aa8db6", func := "loop.example/casemate/laws.FnExactGrdFits", spec := "fnExactGrdFits", apart := false }
def FnExactGrdFitsSaid : Prop := fnExactGrdFitsRow.holds Try.pinned (OpenSpec.ofChange fnExactGrdFitsSpec)

/-- ITS FALSE NEIGHBOUR: 'it returns false'. Refute it at one input. -/
def fnExactGrdFitsWrong : ChangeSpec := { name := "fnExactGrdFits", fn := fun _ => fun
  | [d1, d2] => { results := [.lit (.bool false)], args := [d1, d2] }
  | _ => none }
def FnExactGrdFitsWrongFalsely : Prop := fnExactGrdFitsRow.holds Try.pinned (OpenSpec.ofChange fnExactGrdFitsWrong)

/-- 'laws.FnExactHrdOk': WHATEVER THE INPUT: true; the input reads as it did. -/
def fnExactHrdOkSpec : ChangeSpec := { name := "fnExactHrdOk", fn := fun _ => fun
  | [d] => { results := [.lit (.bool true)], args := [d] }
  | _ => none }
def fnExactHrdOkRow : OpenClaim := { program := "ytpmonfobdlhooaa", sum := "efcfddbbd56500e9081f8d9edeafd206b074bb547b64ff8c0a473bdb24aa8db6", func := "loop.example/casemate/laws.FnExactHrdOk", spec := "fnExactHrdOk", apart := false }
def FnExactHrdOkSaid : Prop := fnExactHrdOkRow.holds Try.pinned (OpenSpec.ofChange fnExactHrdOkSpec)

/-- ITS FALSE NEIGHBOUR: 'it returns false'. Refute it at one input. -/
def fnExactHrdOkWrong : ChangeSpec := { name := "fnExactHrdOk", fn := fun _ => fun
  | [d] => { results := [.lit (.bool false)], args := [d] }
  | _ => none }
def FnExactHrdOkWrongFalsely : Prop := fnExactHrdOkRow.holds Try.pinned (OpenSpec.ofChange fnExactHrdOkWrong)

/-- 'laws.FnExactBoxNew': WHATEVER THE INPUT: true; the input reads as it did. -/
def fnExactBoxNewSpec : ChangeSpec := { name := "fnExactBoxNew", fn := fun _ => fun
  | [d] => { results := [.lit (.bool true)], args := [d] }
  | _ => none }
def fnExactBoxNewRow : OpenClaim := { program := "ytpmonfobdlhooaa", sum := "efcfddbbd56500e9081f8d9edeafd206b074bb547b64ff8c0a473bdb24aa8db6", func := "loop.example/casemate/laws.FnExactBoxNew", spec := "fnExactBoxNew", apart := false }
def FnExactBoxNewSaid : Prop := fnExactBoxNewRow.holds Try.pinned (OpenSpec.ofChange fnExactBoxNewSpec)

/-- ITS FALSE NEIGHBOUR: 'it returns false'. Refute it at one input. -/
def fnExactBoxNewWrong : ChangeSpec := { name := "fnExactBoxNew", fn := fun _ => fun
  | [d] => { results := [.lit (.bool false)], args := [d] }
  | _ => none }
def FnExactBoxNewWrongFalsely : Prop := fnExactBoxNewRow.holds Try.pinned (OpenSpec.ofChange fnExactBoxNewWrong)

/-- 'laws.FnExactGrdOk': WHATEVER THE INPUT: true; the input reads as it did. -/
def fnExactGrdOkSpec : ChangeSpec := { name := "fnExactGrdOk", fn := fun _ => fun
  | [d] => { results := [.lit (.bool true)], args := [d] }
  | _ => none }
def fnExactGrdOkRow : OpenClaim := { program := "ytpmonfobdlhooaa", sum := "efcfddbbd56500e9081f8d9edeafd206b074bb547b64ff8c0a473bdb24aa8db6", func := "loop.example/casemate/laws.FnExactGrdOk", spec := "fnExactGrdOk", apart := false }
def FnExactGrdOkSaid : Prop := fnExactGrdOkRow.holds Try.pinned (OpenSpec.ofChange fnExactGrdOkSpec)

/-- ITS FALSE NEIGHBOUR: 'it returns false'. Refute it at one input. -/
def fnExactGrdOkWrong : ChangeSpec := { name := "fnExactGrdOk", fn := fun _ => fun
  | [d] => { results := [.lit (.bool false)], args := [d] }
  | _ => none }
def FnExactGrdOkWrongFalsely : Prop := fnExactGrdOkRow.holds Try.pinned (OpenSpec.ofChange fnExactGrdOkWrong)

/- THE SECOND FORM. 'bulk': how many values and letters a reading holds, each counted each time it is reached (what is shared counts as often as it is met; a slice's spare places count too). A statement '..UptoSaid' is the law's where the arguments, and the package variables that the reading takes, are together of bulk at most 1048576: NARROWER than '..Said'. Prove '..Said' where nothing that the law and all that it calls make is longer than what came in: it says more and counts as full. Else prove '..UptoSaid'. A law counts once. -/
mutual
def uptoBulk {H : Type} : DataW H → Nat
  | .lit (.string bytes) => bytes.length + 1
  | .lit _ => 1
  | .nil => 1
  | .ptr d => uptoBulk d + 1
  | .slice elems spare => uptoBulkAll elems + uptoBulkAll spare + 1
  | .agg parts => uptoBulkAll parts + 1
  | .iface _ d => uptoBulk d + 1
  | .map entries => uptoBulkEntries entries + 1
  | .held _ => 1
def uptoBulkAll {H : Type} : List (DataW H) → Nat
  | [] => 0
  | d :: r => uptoBulk d + uptoBulkAll r
def uptoBulkEntries {H : Type} : List (Lit × DataW H) → Nat
  | [] => 0
  | x :: r => uptoBulkEntry x + uptoBulkEntries r
def uptoBulkEntry {H : Type} : Lit × DataW H → Nat
  | (.string bytes, d) => bytes.length + uptoBulk d + 1
  | (_, d) => uptoBulk d + 1
 end
def uptoSmall : (H : Type) → List (DataW H) → Bool := fun _ ds => decide (uptoBulkAll ds ≤ 1048576)
def OpenSpec.upto (s : _root_.Go.ChangeSpec) : _root_.Go.OpenSpec := { _root_.Go.OpenSpec.ofChange s with cond := some uptoSmall }

/-- 'laws.FnExactConstants', WHERE WHAT IT READS IS OF BULK AT MOST 1048576: true; the input reads as it did. -/
def fnExactConstantsUptoRow : OpenClaim := { program := "ytpmonfobdlhooaa", sum := "efcfddbbd56500e9081f8d9edeafd206b074bb547b64ff8c0a473bdb24aa8db6", func := "loop.example/casemate/laws.FnExactConstants", spec := "fnExactConstants", apart := false, narrowed := true }
def FnExactConstantsUptoSaid : Prop := fnExactConstantsUptoRow.holds Try.pinned (OpenSpec.upto fnExactConstantsSpec)

/-- 'laws.FnExactInOk', WHERE WHAT IT READS IS OF BULK AT MOST 1048576: true; the input reads as it did. -/
def fnExactInOkUptoRow : OpenClaim := { program := "ytpmonfobdlhooaa", sum := "efcfddbbd56500e9081f8d9edeafd206b074bb547b64ff8c0a473bdb24aa8db6", func := "loop.example/casemate/laws.FnExactInOk", spec := "fnExactInOk", apart := false, narrowed := true }
def FnExactInOkUptoSaid : Prop := fnExactInOkUptoRow.holds Try.pinned (OpenSpec.upto fnExactInOkSpec)

/-- 'laws.FnExactOutOk', WHERE WHAT IT READS IS OF BULK AT MOST 1048576: true; the input reads as it did. -/
def fnExactOutOkUptoRow : OpenClaim := { program := "ytpmonfobdlhooaa", sum := "efcfddbbd56500e9081f8d9edeafd206b074bb547b64ff8c0a473bdb24aa8db6", func := "loop.example/casemate/laws.FnExactOutOk", spec := "fnExactOutOk", apart := false, narrowed := true }
def FnExactOutOkUptoSaid : Prop := fnExactOutOkUptoRow.holds Try.pinned (OpenSpec.upto fnExactOutOkSpec)

/-- 'laws.FnExactGrdRuleOk', WHERE WHAT IT READS IS OF BULK AT MOST 1048576: true; the input reads as it did. -/
def fnExactGrdRuleOkUptoRow : OpenClaim := { program := "ytpmonfobdlhooaa", sum := "efcfddbbd56500e9081f8d9edeafd206b074bb547b64ff8c0a473bdb24aa8db6", func := "loop.example/casemate/laws.FnExactGrdRuleOk", spec := "fnExactGrdRuleOk", apart := false, narrowed := true }
def FnExactGrdRuleOkUptoSaid : Prop := fnExactGrdRuleOkUptoRow.holds Try.pinned (OpenSpec.upto fnExactGrdRuleOkSpec)

/-- 'laws.FnExactBytMessage', WHERE WHAT IT READS IS OF BULK AT MOST 1048576: true; the input reads as it did. -/
def fnExactBytMessageUptoRow : OpenClaim := { program := "ytpmonfobdlhooaa", sum := "efcfddbbd56500e9081f8d9edeafd206b074bb547b64ff8c0a473bdb24aa8db6", func := "loop.example/casemate/laws.FnExactBytMessage", spec := "fnExactBytMessage", apart := false, narrowed := true }
def FnExactBytMessageUptoSaid : Prop := fnExactBytMessageUptoRow.holds Try.pinned (OpenSpec.upto fnExactBytMessageSpec)

/-- 'laws.FnExactOutOpen', WHERE WHAT IT READS IS OF BULK AT MOST 1048576: true; the input reads as it did. -/
def fnExactOutOpenUptoRow : OpenClaim := { program := "ytpmonfobdlhooaa", sum := "efcfddbbd56500e9081f8d9edeafd206b074bb547b64ff8c0a473bdb24aa8db6", func := "loop.example/casemate/laws.FnExactOutOpen", spec := "fnExactOutOpen", apart := false, narrowed := true }
def FnExactOutOpenUptoSaid : Prop := fnExactOutOpenUptoRow.holds Try.pinned (OpenSpec.upto fnExactOutOpenSpec)

/-- 'laws.FnExactOutPeer', WHERE WHAT IT READS IS OF BULK AT MOST 1048576: true; the input reads as it did. -/
def fnExactOutPeerUptoRow : OpenClaim := { program := "ytpmonfobdlhooaa", sum := "efcfddbbd56500e9081f8d9edeafd206b074bb547b64ff8c0a473bdb24aa8db6", func := "loop.example/casemate/laws.FnExactOutPeer", spec := "fnExactOutPeer", apart := false, narrowed := true }
def FnExactOutPeerUptoSaid : Prop := fnExactOutPeerUptoRow.holds Try.pinned (OpenSpec.upto fnExactOutPeerSpec)

/-- 'laws.FnExactOutNext', WHERE WHAT IT READS IS OF BULK AT MOST 1048576: true; the input reads as it did. -/
def fnExactOutNextUptoRow : OpenClaim := { program := "ytpmonfobdlhooaa", sum := "efcfddbbd56500e9081f8d9edeafd206b074bb547b64ff8c0a473bdb24aa8db6", func := "loop.example/casemate/laws.FnExactOutNext", spec := "fnExactOutNext", apart := false, narrowed := true }
def FnExactOutNextUptoSaid : Prop := fnExactOutNextUptoRow.holds Try.pinned (OpenSpec.upto fnExactOutNextSpec)

/-- 'laws.FnExactGrdFits', WHERE WHAT IT READS IS OF BULK AT MOST 1048576: true; the input reads as it did. -/
def fnExactGrdFitsUptoRow : OpenClaim := { program := "ytpmonfobdlhooaa", sum := "efcfddbbd56500e9081f8d9edeafd206b074bb547b64ff8c0a473bdb24aa8db6", func := "loop.example/casemate/laws.FnExactGrdFits", spec := "fnExactGrdFits", apart := false, narrowed := true }
def FnExactGrdFitsUptoSaid : Prop := fnExactGrdFitsUptoRow.holds Try.pinned (OpenSpec.upto fnExactGrdFitsSpec)

/-- 'laws.FnExactHrdOk', WHERE WHAT IT READS IS OF BULK AT MOST 1048576: true; the input reads as it did. -/
def fnExactHrdOkUptoRow : OpenClaim := { program := "ytpmonfobdlhooaa", sum := "efcfddbbd56500e9081f8d9edeafd206b074bb547b64ff8c0a473bdb24aa8db6", func := "loop.example/casemate/laws.FnExactHrdOk", spec := "fnExactHrdOk", apart := false, narrowed := true }
def FnExactHrdOkUptoSaid : Prop := fnExactHrdOkUptoRow.holds Try.pinned (OpenSpec.upto fnExactHrdOkSpec)

/-- 'laws.FnExactBoxNew', WHERE WHAT IT READS IS OF BULK AT MOST 1048576: true; the input reads as it did. -/
def fnExactBoxNewUptoRow : OpenClaim := { program := "ytpmonfobdlhooaa", sum := "efcfddbbd56500e9081f8d9edeafd206b074bb547b64ff8c0a473bdb24aa8db6", func := "loop.example/casemate/laws.FnExactBoxNew", spec := "fnExactBoxNew", apart := false, narrowed := true }
def FnExactBoxNewUptoSaid : Prop := fnExactBoxNewUptoRow.holds Try.pinned (OpenSpec.upto fnExactBoxNewSpec)

/-- 'laws.FnExactGrdOk', WHERE WHAT IT READS IS OF BULK AT MOST 1048576: true; the input reads as it did. -/
def fnExactGrdOkUptoRow : OpenClaim := { program := "ytpmonfobdlhooaa", sum := "efcfddbbd56500e9081f8d9edeafd206b074bb547b64ff8c0a473bdb24aa8db6", func := "loop.example/casemate/laws.FnExactGrdOk", spec := "fnExactGrdOk", apart := false, narrowed := true }
def FnExactGrdOkUptoSaid : Prop := fnExactGrdOkUptoRow.holds Try.pinned (OpenSpec.upto fnExactGrdOkSpec)

end Rows
end Go.Proofs.Ytpmonfobdlhooaa
