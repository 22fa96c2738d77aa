/-
  No cell of these rows narrows 'for every input' (looked for: loops, veiled, ifaces, maps, wideKeys, modest, calm, conditions, laid).
  DERIVED. THE GIVEN ROWS OF THIS SEAT. 5 by the template 'for every input the law returns true; each argument reads behind the call as it read before'; 0 by the template 'total and deterministic' (their statements: YtekeehhbalhfiaaTotals.lean).
  GIVEN WITH THE SEED: the statements are not yours to turn. If you find one false, say at which input.
  Laid BY PROGRAM, IN A SANDBOX (cutbox-rows.mjs): the forced cells as the released guide's own fill.sh prints them over the translation 4e6a07a6f40b1283… (all of the seat's roots in one cut). By AI agents, Wed Nov 11 2026. No macro, syntax, notation, axiom, sorry.
-/
import Derived.Test.YtekeehhbalhfiaaChecked
import GoSem.Claim
import GoSem.ClaimJoined
import GoSem.ClaimMapViews
import Derived.JoinedTies
import Derived.KernelRfl
namespace Go.Proofs.Ytekeehhbalhfiaa
/- THE CELL 'sum', in the pinned program and in every row, IS THE sha256 OF THE DUMP (.gsa) THAT YtekeehhbalhfiaaProg.lean LOADS. Nothing in Lean hashes anything: it is a label: what it is worth is what the hold of that sum in a sandbox is worth. -/
noncomputable def Try.pinned : Pinned := { name := "ytekeehhbalhfiaa", sum := "4e6a07a6f40b12839d27f170d60b7a3fbf44bfa9f91acd7cc77a4103c53c41d5", checked := Try.checked }
namespace Rows
def none {H : Type} : Left H := { results := [], args := [] }

/-- 'laws.FnBoxQueue': WHATEVER THE INPUT: true; the input reads as it did. -/
def fnBoxQueueSpec : ChangeSpec := { name := "fnBoxQueue", fn := fun _ => fun
  | [d1, d2] => { results := [.lit (.bool true)], args := [d1, d2] }
  | _ => none }
def fnBoxQueueRow : OpenClaim := { program := "ytekeehhbalhfiaa", sum := "4e6a07a6f40b12839d27f170d60b7a3fbf44bfa9f91acd7cc77a4103c53c41d5", func := "loop.example/casemate/laws.FnBoxQueue", spec := "fnBoxQueue", apart := false }
def FnBoxQueueSaid : Prop := fnBoxQueueRow.holds Try.pinned (OpenSpec.ofChange fnBoxQueueSpec)

/-- ITS FALSE NEIGHBOUR: 'it returns false'. Refute it at one input. -/
def fnBoxQueueWrong : ChangeSpec := { name := "fnBoxQueue", fn := fun _ => fun
  | [d1, d2] => { results := [.lit (.bool false)], args := [d1, d2] }
  | _ => none }
def FnBoxQueueWrongFalsely : Prop := fnBoxQueueRow.holds Try.pinned (OpenSpec.ofChange fnBoxQueueWrong)

/-- 'laws.FnBoxFull': WHATEVER THE INPUT: true; the input reads as it did. -/
def fnBoxFullSpec : ChangeSpec := { name := "fnBoxFull", fn := fun _ => fun
  | [d] => { results := [.lit (.bool true)], args := [d] }
  | _ => none }
def fnBoxFullRow : OpenClaim := { program := "ytekeehhbalhfiaa", sum := "4e6a07a6f40b12839d27f170d60b7a3fbf44bfa9f91acd7cc77a4103c53c41d5", func := "loop.example/casemate/laws.FnBoxFull", spec := "fnBoxFull", apart := false }
def FnBoxFullSaid : Prop := fnBoxFullRow.holds Try.pinned (OpenSpec.ofChange fnBoxFullSpec)

/-- ITS FALSE NEIGHBOUR: 'it returns false'. Refute it at one input. -/
def fnBoxFullWrong : ChangeSpec := { name := "fnBoxFull", fn := fun _ => fun
  | [d] => { results := [.lit (.bool false)], args := [d] }
  | _ => none }
def FnBoxFullWrongFalsely : Prop := fnBoxFullRow.holds Try.pinned (OpenSpec.ofChange fnBoxFullWrong)

/-- 'laws.FnExactBoxTake': WHATEVER THE INPUT: true; the input reads as it did. -/
def fnExactBoxTakeSpec : ChangeSpec := { name := "fnExactBoxTake", fn := fun _ => fun
  | [d] => { results := [.lit (.bool true)], args := [d] }
  | _ => none }
def fnExactBoxTakeRow : OpenClaim := { program := "ytekeehhbalhfiaa", sum := "4e6a07a6f40b12839d27f170d60b7a3fbf44bfa9f91acd7cc77a4103c53c41d5", func := "loop.example/casemate/laws.FnExactBoxTake", spec := "fnExactBoxTake", apart := false }
def FnExactBoxTakeSaid : Prop := fnExactBoxTakeRow.holds Try.pinned (OpenSpec.ofChange fnExactBoxTakeSpec)

/-- ITS FALSE NEIGHBOUR: 'it returns false'. Refute it at one input. -/
def fnExactBoxTakeWrong : ChangeSpec := { name := "fnExactBoxTake", fn := fun _ => fun
  | [d] => { results := [.lit (.bool false)], args := [d] }
  | _ => none }
def FnExactBoxTakeWrongFalsely : Prop := fnExactBoxTakeRow.holds Try.pinned (OpenSpec.ofChange fnExactBoxTakeWrong)

/-- 'laws.FnExactBoxPut': WHATEVER THE INPUT: true; the input reads as it did. -/
def fnExactBoxPutSpec : ChangeSpec := { name := "fnExactBoxPut", fn := fun _ => fun
  | [d1, d2] => { results := [.lit (.bool true)], args := [d1, d2] }
  | _ => none }
def fnExactBoxPutRow : OpenClaim := { program := "ytekeehhbalhfiaa", sum := "4e6a07a6f40b12839d27f170d60b7a3fbf44bfa9f91acd7cc77a4103c53c41d5", func := "loop.example/casemate/laws.FnExactBoxPut", spec := "fnExactBoxPut", apart := false }
def FnExactBoxPutSaid : Prop := fnExactBoxPutRow.holds Try.pinned (OpenSpec.ofChange fnExactBoxPutSpec)

/-- ITS FALSE NEIGHBOUR: 'it returns false'. Refute it at one input. -/
def fnExactBoxPutWrong : ChangeSpec := { name := "fnExactBoxPut", fn := fun _ => fun
  | [d1, d2] => { results := [.lit (.bool false)], args := [d1, d2] }
  | _ => none }
def FnExactBoxPutWrongFalsely : Prop := fnExactBoxPutRow.holds Try.pinned (OpenSpec.ofChange fnExactBoxPutWrong)

/-- 'laws.FnExactBoxOk': WHATEVER THE INPUT: true; the input reads as it did. -/
def fnExactBoxOkSpec : ChangeSpec := { name := "fnExactBoxOk", fn := fun _ => fun
  | [d] => { results := [.lit (.bool true)], args := [d] }
  | _ => none }
def fnExactBoxOkRow : OpenClaim := { program := "ytekeehhbalhfiaa", sum := "4e6a07a6f40b12839d27f170d60b7a3fbf44bfa9f91acd7cc77a4103c53c41d5", func := "loop.example/casemate/laws.FnExactBoxOk", spec := "fnExactBoxOk", apart := false }
def FnExactBoxOkSaid : Prop := fnExactBoxOkRow.holds Try.pinned (OpenSpec.ofChange fnExactBoxOkSpec)

/-- ITS FALSE NEIGHBOUR: 'it returns false'. Refute it at one input. -/
def fnExactBoxOkWrong : ChangeSpec := { name := "fnExactBoxOk", fn := fun _ => fun
  | [d] => { results := [.lit (.bool false)], args := [d] }
  | _ => none }
def FnExactBoxOkWrongFalsely : Prop := fnExactBoxOkRow.holds Try.pinned (OpenSpec.ofChange fnExactBoxOkWrong)

/- THE SECOND FORM. 'bulk': how many values and letters a reading holds, each counted each time it is reached (what is shared counts as often as it is met; a slice's spare places count too). A statement '..UptoSaid' is the law's where the arguments, and the package variables that the reading takes, are together of bulk at most 1048576: NARROWER than '..Said'. Prove '..Said' where nothing that the law and all that it calls make is longer than what came in: it says more and counts as full. Else prove '..UptoSaid'. A law counts once. -/
mutual
def uptoBulk {H : Type} : DataW H → Nat
  | .lit (.string bytes) => bytes.length + 1
  | .lit _ => 1
  | .nil => 1
  | .ptr d => uptoBulk d + 1
  | .slice elems spare => uptoBulkAll elems + uptoBulkAll spare + 1
  | .agg parts => uptoBulkAll parts + 1
  | .iface _ d => uptoBulk d + 1
  | .map entries => uptoBulkEntries entries + 1
  | .held _ => 1
def uptoBulkAll {H : Type} : List (DataW H) → Nat
  | [] => 0
  | d :: r => uptoBulk d + uptoBulkAll r
def uptoBulkEntries {H : Type} : List (Lit × DataW H) → Nat
  | [] => 0
  | x :: r => uptoBulkEntry x + uptoBulkEntries r
def uptoBulkEntry {H : Type} : Lit × DataW H → Nat
  | (.string bytes, d) => bytes.length + uptoBulk d + 1
  | (_, d) => uptoBulk d + 1
 end
def uptoSmall : (H : Type) → List (DataW H) → Bool := fun _ ds => decide (uptoBulkAll ds ≤ 1048576)
def OpenSpec.upto (s : _root_.Go.ChangeSpec) : _root_.Go.OpenSpec := { _root_.Go.OpenSpec.ofChange s with cond := some uptoSmall }

/-- 'laws.FnBoxQueue', WHERE WHAT IT READS IS OF BULK AT MOST 1048576: true; the input reads as it did. -/
def fnBoxQueueUptoRow : OpenClaim := { program := "ytekeehhbalhfiaa", sum := "4e6a07a6f40b12839d27f170d60b7a3fbf44bfa9f91acd7cc77a4103c53c41d5", func := "loop.example/casemate/laws.FnBoxQueue", spec := "fnBoxQueue", apart := false, narrowed := true }
def FnBoxQueueUptoSaid : Prop := fnBoxQueueUptoRow.holds Try.pinned (OpenSpec.upto fnBoxQueueSpec)

/-- 'laws.FnBoxFull', WHERE WHAT IT READS IS OF BULK AT MOST 1048576: true; the input reads as it did. -/
def fnBoxFullUptoRow : OpenClaim := { program := "ytekeehhbalhfiaa", sum := "4e6a07a6f40b12839d27f170d60b7a3fbf44bfa9f91acd7cc77a4103c53c41d5", func := "loop.example/casemate/laws.FnBoxFull", spec := "fnBoxFull", apart := false, narrowed := true }
def FnBoxFullUptoSaid : Prop := fnBoxFullUptoRow.holds Try.pinned (OpenSpec.upto fnBoxFullSpec)

/-- 'laws.FnExactBoxTake', WHERE WHAT IT READS IS OF BULK AT MOST 1048576: true; the input reads as it did. -/
def fnExactBoxTakeUptoRow : OpenClaim := { program := "ytekeehhbalhfiaa", sum := "4e6a07a6f40b12839d27f170d60b7a3fbf44bfa9f91acd7cc77a4103c53c41d5", func := "loop.example/casemate/laws.FnExactBoxTake", spec := "fnExactBoxTake", apart := false, narrowed := true }
def FnExactBoxTakeUptoSaid : Prop := fnExactBoxTakeUptoRow.holds Try.pinned (OpenSpec.upto fnExactBoxTakeSpec)

/-- 'laws.FnExactBoxPut', WHERE WHAT IT READS IS OF BULK AT MOST 1048576: true; the input reads as it did. -/
def fnExactBoxPutUptoRow : OpenClaim := { program := "ytekeehhbalhfiaa", sum := "4e6a07a6f40b12839d27f170d60b7a3fbf44bfa9f91acd7cc77a4103c53c41d5", func := "loop.example/casemate/laws.FnExactBoxPut", spec := "fnExactBoxPut", apart := false, narrowed := true }
def FnExactBoxPutUptoSaid : Prop := fnExactBoxPutUptoRow.holds Try.pinned (OpenSpec.upto fnExactBoxPutSpec)

/-- 'laws.FnExactBoxOk', WHERE WHAT IT READS IS OF BULK AT MOST 1048576: true; the input reads as it did. -/
def fnExactBoxOkUptoRow : OpenClaim := { program := "ytekeehhbalhfiaa", sum := "4e6a07a6f40b12839d27f170d60b7a3fbf44bfa9f91acd7cc77a4103c53c41d5", func := "loop.example/casemate/laws.FnExactBoxOk", spec := "fnExactBoxOk", apart := false, narrowed := true }
def FnExactBoxOkUptoSaid : Prop := fnExactBoxOkUptoRow.holds Try.pinned (OpenSpec.upto fnExactBoxOkSpec)

end Rows
end Go.Proofs.Ytekeehhbalhfiaa
