/-
  No cell of these rows narrows 'for every input' (looked for: loops, veiled, ifaces, maps, wideKeys, modest, calm, conditions, laid).
  DERIVED. THE GIVEN ROWS OF THIS SEAT. 7 by the template 'for every input the law returns true; each argument reads behind the call as it read before'; 0 by the template 'total and deterministic' (their statements: YtlmlbodbloahlaaTotals.lean).
  GIVEN WITH THE SEED: the statements are not yours to turn. If you find one false, say at which input.
  Laid BY PROGRAM, IN A SANDBOX (cutbox-rows.mjs): the forced cells as the released guide's own fill.sh prints them over the translation 235a6b42927548fd… (all of the seat's roots in one cut). By AI agents, Wed Nov 11 2026. No macro, syntax, notation, axiom, sorry.
-/
import Derived.Test.YtlmlbodbloahlaaChecked
import GoSem.Claim
import GoSem.ClaimJoined
import GoSem.ClaimMapViews
import Derived.JoinedTies
import Derived.KernelRfl
namespace Go.Proofs.Ytlmlbodbloahlaa
/- THE CELL 'sum', in the pinned program and in every row, IS THE sha256 OF THE DUMP (.gsa) THAT YtlmlbodbloahlaaProg.lean LOADS. Nothing in Lean hashes anything: it is a label: what it is worth is what the hold of that sum in a sandbox is worth. -/
noncomputable def Try.pinned : Pinned := { name := "ytlmlbodbloahlaa", sum := "235a6b42927548fd7ad1942b53f80fb776d78e2e2095e34bb35de5978458dd2a", checked := Try.checked }
namespace Rows
def none {H : Type} : Left H := { results := [], args := [] }

/-- 'laws.FnExactFrmFill': WHATEVER THE INPUT: true; the input reads as it did. -/
def fnExactFrmFillSpec : ChangeSpec := { name := "fnExactFrmFill", fn := fun _ => fun
  | [d1, d2] => { results := [.lit (.bool true)], args := [d1, d2] }
  | _ => none }
def fnExactFrmFillRow : OpenClaim := { program := "ytlmlbodbloahlaa", sum := "235a6b42927548fd7ad1942b53f80fb776d78e2e2095e34bb35de5978458dd2a", func := "loop.example/casemate/laws.FnExactFrmFill", spec := "fnExactFrmFill", apart := false }
def FnExactFrmFillSaid : Prop := fnExactFrmFillRow.holds Try.pinned (OpenSpec.ofChange fnExactFrmFillSpec)

/-- ITS FALSE NEIGHBOUR: 'it returns false'. Refute it at one input. -/
def fnExactFrmFillWrong : ChangeSpec := { name := "fnExactFrmFill", fn := fun _ => fun
  | [d1, d2] => { results := [.lit (.bool false)], args := [d1, d2] }
  | _ => none }
def FnExactFrmFillWrongFalsely : Prop := fnExactFrmFillRow.holds Try.pinned (OpenSpec.ofChange fnExactFrmFillWrong)

/-- 'laws.FnExactFrmSpill': WHATEVER THE INPUT: true; the input reads as it did. -/
def fnExactFrmSpillSpec : ChangeSpec := { name := "fnExactFrmSpill", fn := fun _ => fun
  | [d] => { results := [.lit (.bool true)], args := [d] }
  | _ => none }
def fnExactFrmSpillRow : OpenClaim := { program := "ytlmlbodbloahlaa", sum := "235a6b42927548fd7ad1942b53f80fb776d78e2e2095e34bb35de5978458dd2a", func := "loop.example/casemate/laws.FnExactFrmSpill", spec := "fnExactFrmSpill", apart := false }
def FnExactFrmSpillSaid : Prop := fnExactFrmSpillRow.holds Try.pinned (OpenSpec.ofChange fnExactFrmSpillSpec)

/-- ITS FALSE NEIGHBOUR: 'it returns false'. Refute it at one input. -/
def fnExactFrmSpillWrong : ChangeSpec := { name := "fnExactFrmSpill", fn := fun _ => fun
  | [d] => { results := [.lit (.bool false)], args := [d] }
  | _ => none }
def FnExactFrmSpillWrongFalsely : Prop := fnExactFrmSpillRow.holds Try.pinned (OpenSpec.ofChange fnExactFrmSpillWrong)

/-- 'laws.FnFrmBody': WHATEVER THE INPUT: true; the input reads as it did. -/
def fnFrmBodySpec : ChangeSpec := { name := "fnFrmBody", fn := fun _ => fun
  | [d1, d2] => { results := [.lit (.bool true)], args := [d1, d2] }
  | _ => none }
def fnFrmBodyRow : OpenClaim := { program := "ytlmlbodbloahlaa", sum := "235a6b42927548fd7ad1942b53f80fb776d78e2e2095e34bb35de5978458dd2a", func := "loop.example/casemate/laws.FnFrmBody", spec := "fnFrmBody", apart := false }
def FnFrmBodySaid : Prop := fnFrmBodyRow.holds Try.pinned (OpenSpec.ofChange fnFrmBodySpec)

/-- ITS FALSE NEIGHBOUR: 'it returns false'. Refute it at one input. -/
def fnFrmBodyWrong : ChangeSpec := { name := "fnFrmBody", fn := fun _ => fun
  | [d1, d2] => { results := [.lit (.bool false)], args := [d1, d2] }
  | _ => none }
def FnFrmBodyWrongFalsely : Prop := fnFrmBodyRow.holds Try.pinned (OpenSpec.ofChange fnFrmBodyWrong)

/-- 'laws.FnExactGrdDo': WHATEVER THE INPUT: true; the input reads as it did. -/
def fnExactGrdDoSpec : ChangeSpec := { name := "fnExactGrdDo", fn := fun _ => fun
  | [d1, d2] => { results := [.lit (.bool true)], args := [d1, d2] }
  | _ => none }
def fnExactGrdDoRow : OpenClaim := { program := "ytlmlbodbloahlaa", sum := "235a6b42927548fd7ad1942b53f80fb776d78e2e2095e34bb35de5978458dd2a", func := "loop.example/casemate/laws.FnExactGrdDo", spec := "fnExactGrdDo", unfollowed := true, recurses := true, apart := false }
def FnExactGrdDoSaid : Prop := fnExactGrdDoRow.holds Try.pinned (OpenSpec.ofChange fnExactGrdDoSpec)

/-- ITS FALSE NEIGHBOUR: 'it returns false'. Refute it at one input. -/
def fnExactGrdDoWrong : ChangeSpec := { name := "fnExactGrdDo", fn := fun _ => fun
  | [d1, d2] => { results := [.lit (.bool false)], args := [d1, d2] }
  | _ => none }
def FnExactGrdDoWrongFalsely : Prop := fnExactGrdDoRow.holds Try.pinned (OpenSpec.ofChange fnExactGrdDoWrong)

/-- 'laws.FnGrdFirst': WHATEVER THE INPUT: true; the input reads as it did. -/
def fnGrdFirstSpec : ChangeSpec := { name := "fnGrdFirst", fn := fun _ => fun
  | [d] => { results := [.lit (.bool true)], args := [d] }
  | _ => none }
def fnGrdFirstRow : OpenClaim := { program := "ytlmlbodbloahlaa", sum := "235a6b42927548fd7ad1942b53f80fb776d78e2e2095e34bb35de5978458dd2a", func := "loop.example/casemate/laws.FnGrdFirst", spec := "fnGrdFirst", unfollowed := true, recurses := true, apart := false }
def FnGrdFirstSaid : Prop := fnGrdFirstRow.holds Try.pinned (OpenSpec.ofChange fnGrdFirstSpec)

/-- ITS FALSE NEIGHBOUR: 'it returns false'. Refute it at one input. -/
def fnGrdFirstWrong : ChangeSpec := { name := "fnGrdFirst", fn := fun _ => fun
  | [d] => { results := [.lit (.bool false)], args := [d] }
  | _ => none }
def FnGrdFirstWrongFalsely : Prop := fnGrdFirstRow.holds Try.pinned (OpenSpec.ofChange fnGrdFirstWrong)

/-- 'laws.FnGrdLess': WHATEVER THE INPUT: true; the input reads as it did. -/
def fnGrdLessSpec : ChangeSpec := { name := "fnGrdLess", fn := fun _ => fun
  | [d] => { results := [.lit (.bool true)], args := [d] }
  | _ => none }
def fnGrdLessRow : OpenClaim := { program := "ytlmlbodbloahlaa", sum := "235a6b42927548fd7ad1942b53f80fb776d78e2e2095e34bb35de5978458dd2a", func := "loop.example/casemate/laws.FnGrdLess", spec := "fnGrdLess", unfollowed := true, recurses := true, apart := false }
def FnGrdLessSaid : Prop := fnGrdLessRow.holds Try.pinned (OpenSpec.ofChange fnGrdLessSpec)

/-- ITS FALSE NEIGHBOUR: 'it returns false'. Refute it at one input. -/
def fnGrdLessWrong : ChangeSpec := { name := "fnGrdLess", fn := fun _ => fun
  | [d] => { results := [.lit (.bool false)], args := [d] }
  | _ => none }
def FnGrdLessWrongFalsely : Prop := fnGrdLessRow.holds Try.pinned (OpenSpec.ofChange fnGrdLessWrong)

/-- 'laws.FnGrdMore': WHATEVER THE INPUT: true; the input reads as it did. -/
def fnGrdMoreSpec : ChangeSpec := { name := "fnGrdMore", fn := fun _ => fun
  | [d1, d2] => { results := [.lit (.bool true)], args := [d1, d2] }
  | _ => none }
def fnGrdMoreRow : OpenClaim := { program := "ytlmlbodbloahlaa", sum := "235a6b42927548fd7ad1942b53f80fb776d78e2e2095e34bb35de5978458dd2a", func := "loop.example/casemate/laws.FnGrdMore", spec := "fnGrdMore", unfollowed := true, recurses := true, apart := false }
def FnGrdMoreSaid : Prop := fnGrdMoreRow.holds Try.pinned (OpenSpec.ofChange fnGrdMoreSpec)

/-- ITS FALSE NEIGHBOUR: 'it returns false'. Refute it at one input. -/
def fnGrdMoreWrong : ChangeSpec := { name := "fnGrdMore", fn := fun _ => fun
  | [d1, d2] => { results := [.lit (.bool false)], args := [d1, d2] }
  | _ => none }
def FnGrdMoreWrongFalsely : Prop := fnGrdMoreRow.holds Try.pinned (OpenSpec.ofChange fnGrdMoreWrong)

/- THE SECOND FORM. 'bulk': how many values and letters a reading holds, each counted each time it is reached (what is shared counts as often as it is met; a slice's spare places count too). A statement '..UptoSaid' is the law's where the arguments, and the package variables that the reading takes, are together of bulk at most 1048576: NARROWER than '..Said'. Prove '..Said' where nothing that the law and all that it calls make is longer than what came in: it says more and counts as full. Else prove '..UptoSaid'. A law counts once. -/
mutual
def uptoBulk {H : Type} : DataW H → Nat
  | .lit (.string bytes) => bytes.length + 1
  | .lit _ => 1
  | .nil => 1
  | .ptr d => uptoBulk d + 1
  | .slice elems spare => uptoBulkAll elems + uptoBulkAll spare + 1
  | .agg parts => uptoBulkAll parts + 1
  | .iface _ d => uptoBulk d + 1
  | .map entries => uptoBulkEntries entries + 1
  | .held _ => 1
def uptoBulkAll {H : Type} : List (DataW H) → Nat
  | [] => 0
  | d :: r => uptoBulk d + uptoBulkAll r
def uptoBulkEntries {H : Type} : List (Lit × DataW H) → Nat
  | [] => 0
  | x :: r => uptoBulkEntry x + uptoBulkEntries r
def uptoBulkEntry {H : Type} : Lit × DataW H → Nat
  | (.string bytes, d) => bytes.length + uptoBulk d + 1
  | (_, d) => uptoBulk d + 1
 end
def uptoSmall : (H : Type) → List (DataW H) → Bool := fun _ ds => decide (uptoBulkAll ds ≤ 1048576)
def OpenSpec.upto (s : _root_.Go.ChangeSpec) : _root_.Go.OpenSpec := { _root_.Go.OpenSpec.ofChange s with cond := some uptoSmall }

/-- 'laws.FnExactFrmFill', WHERE WHAT IT READS IS OF BULK AT MOST 1048576: true; the input reads as it did. -/
def fnExactFrmFillUptoRow : OpenClaim := { program := "ytlmlbodbloahlaa", sum := "235a6b42927548fd7ad1942b53f80fb776d78e2e2095e34bb35de5978458dd2a", func := "loop.example/casemate/laws.FnExactFrmFill", spec := "fnExactFrmFill", apart := false, narrowed := true }
def FnExactFrmFillUptoSaid : Prop := fnExactFrmFillUptoRow.holds Try.pinned (OpenSpec.upto fnExactFrmFillSpec)

/-- 'laws.FnExactFrmSpill', WHERE WHAT IT READS IS OF BULK AT MOST 1048576: true; the input reads as it did. -/
def fnExactFrmSpillUptoRow : OpenClaim := { program := "ytlmlbodbloahlaa", sum := "235a6b42927548fd7ad1942b53f80fb776d78e2e2095e34bb35de5978458dd2a", func := "loop.example/casemate/laws.FnExactFrmSpill", spec := "fnExactFrmSpill", apart := false, narrowed := true }
def FnExactFrmSpillUptoSaid : Prop := fnExactFrmSpillUptoRow.holds Try.pinned (OpenSpec.upto fnExactFrmSpillSpec)

/-- 'laws.FnFrmBody', WHERE WHAT IT READS IS OF BULK AT MOST 1048576: true; the input reads as it did. -/
def fnFrmBodyUptoRow : OpenClaim := { program := "ytlmlbodbloahlaa", sum := "235a6b42927548fd7ad1942b53f80fb776d78e2e2095e34bb35de5978458dd2a", func := "loop.example/casemate/laws.FnFrmBody", spec := "fnFrmBody", apart := false, narrowed := true }
def FnFrmBodyUptoSaid : Prop := fnFrmBodyUptoRow.holds Try.pinned (OpenSpec.upto fnFrmBodySpec)

/-- 'laws.FnExactGrdDo', WHERE WHAT IT READS IS OF BULK AT MOST 1048576: true; the input reads as it did. -/
def fnExactGrdDoUptoRow : OpenClaim := { program := "ytlmlbodbloahlaa", sum := "235a6b42927548fd7ad1942b53f80fb776d78e2e2095e34bb35de5978458dd2a", func := "loop.example/casemate/laws.FnExactGrdDo", spec := "fnExactGrdDo", unfollowed := true, recurses := true, apart := false, narrowed := true }
def FnExactGrdDoUptoSaid : Prop := fnExactGrdDoUptoRow.holds Try.pinned (OpenSpec.upto fnExactGrdDoSpec)

/-- 'laws.FnGrdFirst', WHERE WHAT IT READS IS OF BULK AT MOST 1048576: true; the input reads as it did. -/
def fnGrdFirstUptoRow : OpenClaim := { program := "ytlmlbodbloahlaa", sum := "235a6b42927548fd7ad1942b53f80fb776d78e2e2095e34bb35de5978458dd2a", func := "loop.example/casemate/laws.FnGrdFirst", spec := "fnGrdFirst", unfollowed := true, recurses := true, apart := false, narrowed := true }
def FnGrdFirstUptoSaid : Prop := fnGrdFirstUptoRow.holds Try.pinned (OpenSpec.upto fnGrdFirstSpec)

/-- 'laws.FnGrdLess', WHERE WHAT IT READS IS OF BULK AT MOST 1048576: true; the input reads as it did. -/
def fnGrdLessUptoRow : OpenClaim := { program := "ytlmlbodbloahlaa", sum := "235a6b42927548fd7ad1942b53f80fb776d78e2e2095e34bb35de5978458dd2a", func := "loop.example/casemate/laws.FnGrdLess", spec := "fnGrdLess", unfollowed := true, recurses := true, apart := false, narrowed := true }
def FnGrdLessUptoSaid : Prop := fnGrdLessUptoRow.holds Try.pinned (OpenSpec.upto fnGrdLessSpec)

/-- 'laws.FnGrdMore', WHERE WHAT IT READS IS OF BULK AT MOST 1048576: true; the input reads as it did. -/
def fnGrdMoreUptoRow : OpenClaim := { program := "ytlmlbodbloahlaa", sum := "235a6b42927548fd7ad1942b53f80fb776d78e2e2095e34bb35de5978458dd2a", func := "loop.example/casemate/laws.FnGrdMore", spec := "fnGrdMore", unfollowed := true, recurses := true, apart := false, narrowed := true }
def FnGrdMoreUptoSaid : Prop := fnGrdMoreUptoRow.holds Try.pinned (OpenSpec.upto fnGrdMoreSpec)

end Rows
end Go.Proofs.Ytlmlbodbloahlaa
