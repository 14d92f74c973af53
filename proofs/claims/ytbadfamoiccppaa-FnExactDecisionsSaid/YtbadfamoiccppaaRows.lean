/-
  No cell of these rows narrows 'for every input' (looked for: loops, veiled, ifaces, maps, wideKeys, modest, calm, conditions, laid).
  DERIVED. THE GIVEN ROWS OF THIS SEAT. 9 by the template 'for every input the law returns true; each argument reads behind the call as it read before'; 0 by the template 'total and deterministic' (their statements: YtbadfamoiccppaaTotals.lean).
  GIVEN WITH THE SEED: the statements are not yours to turn. If you find one false, say at which input.
  Laid BY PROGRAM, IN A SANDBOX (cutbox-rows.mjs): the forced cells as the released guide's own fill.sh prints them over the translation 63fc29131f8339b6… (all of the seat's roots in one cut). By AI agents, Wed Nov 11 2026. No macro, syntax, notation, axiom, sorry.
-/
import Derived.Test.YtbadfamoiccppaaChecked
import GoSem.Claim
import GoSem.ClaimJoined
import GoSem.ClaimMapViews
import Derived.JoinedTies
import Derived.KernelRfl
namespace Go.Proofs.Ytbadfamoiccppaa
/- THE CELL 'sum', in the pinned program and in every row, IS THE sha256 OF THE DUMP (.gsa) THAT YtbadfamoiccppaaProg.lean LOADS. Nothing in Lean hashes anything: it is a label: what it is worth is what the hold of that sum in a sandbox is worth. -/
noncomputable def Try.pinned : Pinned := { name := "ytbadfamoiccppaa", sum := "63fc29131f8339b65c82af142f348aa390808d0796d7cb38f8a24d4c960fcd53", checked := Try.checked }
namespace Rows
def none {H : Type} : Left H := { results := [], args := [] }

/-- 'laws.FnExactNodeNew': WHATEVER THE INPUT: true; the input reads as it did. -/
def fnExactNodeNewSpec : ChangeSpec := { name := "fnExactNodeNew", fn := fun _ => fun
  | [d] => { results := [.lit (.bool true)], args := [d] }
  | _ => none }
def fnExactNodeNewRow : OpenClaim := { program := "ytbadfamoiccppaa", sum := "63fc29131f8339b65c82af142f348aa390808d0796d7cb38f8a24d4c960fcd53", func := "loop.example/g00946/laws.FnExactNodeNew", spec := "fnExactNodeNew", apart := false }
def FnExactNodeNewSaid : Prop := fnExactNodeNewRow.holds Try.pinned (OpenSpec.ofChange fnExactNodeNewSpec)

/-- ITS FALSE NEIGHBOUR: 'it returns false'. Refute it at one input. -/
def fnExactNodeNewWrong : ChangeSpec := { name := "fnExactNodeNew", fn := fun _ => fun
  | [d] => { results := [.lit (.bool false)], args := [d] }
  | _ => none }
def FnExactNodeNewWrongFalsely : Prop := fnExactNodeNewRow.holds Try.pinned (OpenSpec.ofChange fnExactNodeNewWrong)

/-- 'laws.FnExactNodeOk': WHATEVER THE INPUT: true; the input reads as it did. -/
def fnExactNodeOkSpec : ChangeSpec := { name := "fnExactNodeOk", fn := fun _ => fun
  | [d] => { results := [.lit (.bool true)], args := [d] }
  | _ => none }
def fnExactNodeOkRow : OpenClaim := { program := "ytbadfamoiccppaa", sum := "63fc29131f8339b65c82af142f348aa390808d0796d7cb38f8a24d4c960fcd53", func := "loop.example/g00946/laws.FnExactNodeOk", spec := "fnExactNodeOk", apart := false }
def FnExactNodeOkSaid : Prop := fnExactNodeOkRow.holds Try.pinned (OpenSpec.ofChange fnExactNodeOkSpec)

/-- ITS FALSE NEIGHBOUR: 'it returns false'. Refute it at one input. -/
def fnExactNodeOkWrong : ChangeSpec := { name := "fnExactNodeOk", fn := fun _ => fun
  | [d] => { results := [.lit (.bool false)], args := [d] }
  | _ => none }
def FnExactNodeOkWrongFalsely : Prop := fnExactNodeOkRow.holds Try.pinned (OpenSpec.ofChange fnExactNodeOkWrong)

/-- 'laws.FnExactCount': WHATEVER THE INPUT: true; the input reads as it did. -/
def fnExactCountSpec : ChangeSpec := { name := "fnExactCount", fn := fun _ => fun
  | [d1, d2, d3, d4] => { results := [.lit (.bool true)], args := [d1, d2, d3, d4] }
  | _ => none }
def fnExactCountRow : OpenClaim := { program := "ytbadfamoiccppaa", sum := "63fc29131f8339b65c82af142f348aa390808d0796d7cb38f8a24d4c960fcd53", func := "loop.example/g00946/laws.FnExactCount", spec := "fnExactCount", apart := false }
def FnExactCountSaid : Prop := fnExactCountRow.holds Try.pinned (OpenSpec.ofChange fnExactCountSpec)

/-- ITS FALSE NEIGHBOUR: 'it returns false'. Refute it at one input. -/
def fnExactCountWrong : ChangeSpec := { name := "fnExactCount", fn := fun _ => fun
  | [d1, d2, d3, d4] => { results := [.lit (.bool false)], args := [d1, d2, d3, d4] }
  | _ => none }
def FnExactCountWrongFalsely : Prop := fnExactCountRow.holds Try.pinned (OpenSpec.ofChange fnExactCountWrong)

/-- 'laws.FnExactNetNew': WHATEVER THE INPUT: true; the input reads as it did. -/
def fnExactNetNewSpec : ChangeSpec := { name := "fnExactNetNew", fn := fun _ => fun
  | [] => { results := [.lit (.bool true)], args := [] }
  | _ => none }
def fnExactNetNewRow : OpenClaim := { program := "ytbadfamoiccppaa", sum := "63fc29131f8339b65c82af142f348aa390808d0796d7cb38f8a24d4c960fcd53", func := "loop.example/g00946/laws.FnExactNetNew", spec := "fnExactNetNew", apart := false }
def FnExactNetNewSaid : Prop := fnExactNetNewRow.holds Try.pinned (OpenSpec.ofChange fnExactNetNewSpec)

/-- ITS FALSE NEIGHBOUR: 'it returns false'. Refute it at one input. -/
def fnExactNetNewWrong : ChangeSpec := { name := "fnExactNetNew", fn := fun _ => fun
  | [] => { results := [.lit (.bool false)], args := [] }
  | _ => none }
def FnExactNetNewWrongFalsely : Prop := fnExactNetNewRow.holds Try.pinned (OpenSpec.ofChange fnExactNetNewWrong)

/-- 'laws.FnExactNetOk': WHATEVER THE INPUT: true; the input reads as it did. -/
def fnExactNetOkSpec : ChangeSpec := { name := "fnExactNetOk", fn := fun _ => fun
  | [d] => { results := [.lit (.bool true)], args := [d] }
  | _ => none }
def fnExactNetOkRow : OpenClaim := { program := "ytbadfamoiccppaa", sum := "63fc29131f8339b65c82af142f348aa390808d0796d7cb38f8a24d4c960fcd53", func := "loop.example/g00946/laws.FnExactNetOk", spec := "fnExactNetOk", apart := false }
def FnExactNetOkSaid : Prop := fnExactNetOkRow.holds Try.pinned (OpenSpec.ofChange fnExactNetOkSpec)

/-- ITS FALSE NEIGHBOUR: 'it returns false'. Refute it at one input. -/
def fnExactNetOkWrong : ChangeSpec := { name := "fnExactNetOk", fn := fun _ => fun
  | [d] => { results := [.lit (.bool false)], args := [d] }
  | _ => none }
def FnExactNetOkWrongFalsely : Prop := fnExactNetOkRow.holds Try.pinned (OpenSpec.ofChange fnExactNetOkWrong)

/-- 'laws.FnExactHonest': WHATEVER THE INPUT: true; the input reads as it did. -/
def fnExactHonestSpec : ChangeSpec := { name := "fnExactHonest", fn := fun _ => fun
  | [d] => { results := [.lit (.bool true)], args := [d] }
  | _ => none }
def fnExactHonestRow : OpenClaim := { program := "ytbadfamoiccppaa", sum := "63fc29131f8339b65c82af142f348aa390808d0796d7cb38f8a24d4c960fcd53", func := "loop.example/g00946/laws.FnExactHonest", spec := "fnExactHonest", apart := false }
def FnExactHonestSaid : Prop := fnExactHonestRow.holds Try.pinned (OpenSpec.ofChange fnExactHonestSpec)

/-- ITS FALSE NEIGHBOUR: 'it returns false'. Refute it at one input. -/
def fnExactHonestWrong : ChangeSpec := { name := "fnExactHonest", fn := fun _ => fun
  | [d] => { results := [.lit (.bool false)], args := [d] }
  | _ => none }
def FnExactHonestWrongFalsely : Prop := fnExactHonestRow.holds Try.pinned (OpenSpec.ofChange fnExactHonestWrong)

/-- 'laws.FnExactHeld': WHATEVER THE INPUT: true; the input reads as it did. -/
def fnExactHeldSpec : ChangeSpec := { name := "fnExactHeld", fn := fun _ => fun
  | [d] => { results := [.lit (.bool true)], args := [d] }
  | _ => none }
def fnExactHeldRow : OpenClaim := { program := "ytbadfamoiccppaa", sum := "63fc29131f8339b65c82af142f348aa390808d0796d7cb38f8a24d4c960fcd53", func := "loop.example/g00946/laws.FnExactHeld", spec := "fnExactHeld", apart := false }
def FnExactHeldSaid : Prop := fnExactHeldRow.holds Try.pinned (OpenSpec.ofChange fnExactHeldSpec)

/-- ITS FALSE NEIGHBOUR: 'it returns false'. Refute it at one input. -/
def fnExactHeldWrong : ChangeSpec := { name := "fnExactHeld", fn := fun _ => fun
  | [d] => { results := [.lit (.bool false)], args := [d] }
  | _ => none }
def FnExactHeldWrongFalsely : Prop := fnExactHeldRow.holds Try.pinned (OpenSpec.ofChange fnExactHeldWrong)

/-- 'laws.FnExactDecisions': WHATEVER THE INPUT: true; the input reads as it did. -/
def fnExactDecisionsSpec : ChangeSpec := { name := "fnExactDecisions", fn := fun _ => fun
  | [d] => { results := [.lit (.bool true)], args := [d] }
  | _ => none }
def fnExactDecisionsRow : OpenClaim := { program := "ytbadfamoiccppaa", sum := "63fc29131f8339b65c82af142f348aa390808d0796d7cb38f8a24d4c960fcd53", func := "loop.example/g00946/laws.FnExactDecisions", spec := "fnExactDecisions", recurses := true, apart := false }
def FnExactDecisionsSaid : Prop := fnExactDecisionsRow.holds Try.pinned (OpenSpec.ofChange fnExactDecisionsSpec)

/-- ITS FALSE NEIGHBOUR: 'it returns false'. Refute it at one input. -/
def fnExactDecisionsWrong : ChangeSpec := { name := "fnExactDecisions", fn := fun _ => fun
  | [d] => { results := [.lit (.bool false)], args := [d] }
  | _ => none }
def FnExactDecisionsWrongFalsely : Prop := fnExactDecisionsRow.holds Try.pinned (OpenSpec.ofChange fnExactDecisionsWrong)

/-- 'laws.FnExactAgreed': WHATEVER THE INPUT: true; the input reads as it did. -/
def fnExactAgreedSpec : ChangeSpec := { name := "fnExactAgreed", fn := fun _ => fun
  | [d] => { results := [.lit (.bool true)], args := [d] }
  | _ => none }
def fnExactAgreedRow : OpenClaim := { program := "ytbadfamoiccppaa", sum := "63fc29131f8339b65c82af142f348aa390808d0796d7cb38f8a24d4c960fcd53", func := "loop.example/g00946/laws.FnExactAgreed", spec := "fnExactAgreed", recurses := true, apart := false }
def FnExactAgreedSaid : Prop := fnExactAgreedRow.holds Try.pinned (OpenSpec.ofChange fnExactAgreedSpec)

/-- ITS FALSE NEIGHBOUR: 'it returns false'. Refute it at one input. -/
def fnExactAgreedWrong : ChangeSpec := { name := "fnExactAgreed", fn := fun _ => fun
  | [d] => { results := [.lit (.bool false)], args := [d] }
  | _ => none }
def FnExactAgreedWrongFalsely : Prop := fnExactAgreedRow.holds Try.pinned (OpenSpec.ofChange fnExactAgreedWrong)

/- THE SECOND FORM. 'bulk': how many values and letters a reading holds, each counted each time it is reached (what is shared counts as often as it is met; a slice's spare places count too). A statement '..UptoSaid' is the law's where the arguments, and the package variables that the reading takes, are together of bulk at most 1048576: NARROWER than '..Said'. Prove '..Said' where nothing that the law and all that it calls make is longer than what came in: it says more and counts as full. Else prove '..UptoSaid'. A law counts once. -/
mutual
def uptoBulk {H : Type} : DataW H → Nat
  | .lit (.string bytes) => bytes.length + 1
  | .lit _ => 1
  | .nil => 1
  | .ptr d => uptoBulk d + 1
  | .slice elems spare => uptoBulkAll elems + uptoBulkAll spare + 1
  | .agg parts => uptoBulkAll parts + 1
  | .iface _ d => uptoBulk d + 1
  | .map entries => uptoBulkEntries entries + 1
  | .held _ => 1
def uptoBulkAll {H : Type} : List (DataW H) → Nat
  | [] => 0
  | d :: r => uptoBulk d + uptoBulkAll r
def uptoBulkEntries {H : Type} : List (Lit × DataW H) → Nat
  | [] => 0
  | x :: r => uptoBulkEntry x + uptoBulkEntries r
def uptoBulkEntry {H : Type} : Lit × DataW H → Nat
  | (.string bytes, d) => bytes.length + uptoBulk d + 1
  | (_, d) => uptoBulk d + 1
 end
def uptoSmall : (H : Type) → List (DataW H) → Bool := fun _ ds => decide (uptoBulkAll ds ≤ 1048576)
def OpenSpec.upto (s : _root_.Go.ChangeSpec) : _root_.Go.OpenSpec := { _root_.Go.OpenSpec.ofChange s with cond := some uptoSmall }

/-- 'laws.FnExactNodeNew', WHERE WHAT IT READS IS OF BULK AT MOST 1048576: true; the input reads as it did. -/
def fnExactNodeNewUptoRow : OpenClaim := { program := "ytbadfamoiccppaa", sum := "63fc29131f8339b65c82af142f348aa390808d0796d7cb38f8a24d4c960fcd53", func := "loop.example/g00946/laws.FnExactNodeNew", spec := "fnExactNodeNew", apart := false, narrowed := true }
def FnExactNodeNewUptoSaid : Prop := fnExactNodeNewUptoRow.holds Try.pinned (OpenSpec.upto fnExactNodeNewSpec)

/-- 'laws.FnExactNodeOk', WHERE WHAT IT READS IS OF BULK AT MOST 1048576: true; the input reads as it did. -/
def fnExactNodeOkUptoRow : OpenClaim := { program := "ytbadfamoiccppaa", sum := "63fc29131f8339b65c82af142f348aa390808d0796d7cb38f8a24d4c960fcd53", func := "loop.example/g00946/laws.FnExactNodeOk", spec := "fnExactNodeOk", apart := false, narrowed := true }
def FnExactNodeOkUptoSaid : Prop := fnExactNodeOkUptoRow.holds Try.pinned (OpenSpec.upto fnExactNodeOkSpec)

/-- 'laws.FnExactCount', WHERE WHAT IT READS IS OF BULK AT MOST 1048576: true; the input reads as it did. -/
def fnExactCountUptoRow : OpenClaim := { program := "ytbadfamoiccppaa", sum := "63fc29131f8339b65c82af142f348aa390808d0796d7cb38f8a24d4c960fcd53", func := "loop.example/g00946/laws.FnExactCount", spec := "fnExactCount", apart := false, narrowed := true }
def FnExactCountUptoSaid : Prop := fnExactCountUptoRow.holds Try.pinned (OpenSpec.upto fnExactCountSpec)

/-- 'laws.FnExactNetNew', WHERE WHAT IT READS IS OF BULK AT MOST 1048576: true; the input reads as it did. -/
def fnExactNetNewUptoRow : OpenClaim := { program := "ytbadfamoiccppaa", sum := "63fc29131f8339b65c82af142f348aa390808d0796d7cb38f8a24d4c960fcd53", func := "loop.example/g00946/laws.FnExactNetNew", spec := "fnExactNetNew", apart := false, narrowed := true }
def FnExactNetNewUptoSaid : Prop := fnExactNetNewUptoRow.holds Try.pinned (OpenSpec.upto fnExactNetNewSpec)

/-- 'laws.FnExactNetOk', WHERE WHAT IT READS IS OF BULK AT MOST 1048576: true; the input reads as it did. -/
def fnExactNetOkUptoRow : OpenClaim := { program := "ytbadfamoiccppaa", sum := "63fc29131f8339b65c82af142f348aa390808d0796d7cb38f8a24d4c960fcd53", func := "loop.example/g00946/laws.FnExactNetOk", spec := "fnExactNetOk", apart := false, narrowed := true }
def FnExactNetOkUptoSaid : Prop := fnExactNetOkUptoRow.holds Try.pinned (OpenSpec.upto fnExactNetOkSpec)

/-- 'laws.FnExactHonest', WHERE WHAT IT READS IS OF BULK AT MOST 1048576: true; the input reads as it did. -/
def fnExactHonestUptoRow : OpenClaim := { program := "ytbadfamoiccppaa", sum := "63fc29131f8339b65c82af142f348aa390808d0796d7cb38f8a24d4c960fcd53", func := "loop.example/g00946/laws.FnExactHonest", spec := "fnExactHonest", apart := false, narrowed := true }
def FnExactHonestUptoSaid : Prop := fnExactHonestUptoRow.holds Try.pinned (OpenSpec.upto fnExactHonestSpec)

/-- 'laws.FnExactHeld', WHERE WHAT IT READS IS OF BULK AT MOST 1048576: true; the input reads as it did. -/
def fnExactHeldUptoRow : OpenClaim := { program := "ytbadfamoiccppaa", sum := "63fc29131f8339b65c82af142f348aa390808d0796d7cb38f8a24d4c960fcd53", func := "loop.example/g00946/laws.FnExactHeld", spec := "fnExactHeld", apart := false, narrowed := true }
def FnExactHeldUptoSaid : Prop := fnExactHeldUptoRow.holds Try.pinned (OpenSpec.upto fnExactHeldSpec)

/-- 'laws.FnExactDecisions', WHERE WHAT IT READS IS OF BULK AT MOST 1048576: true; the input reads as it did. -/
def fnExactDecisionsUptoRow : OpenClaim := { program := "ytbadfamoiccppaa", sum := "63fc29131f8339b65c82af142f348aa390808d0796d7cb38f8a24d4c960fcd53", func := "loop.example/g00946/laws.FnExactDecisions", spec := "fnExactDecisions", recurses := true, apart := false, narrowed := true }
def FnExactDecisionsUptoSaid : Prop := fnExactDecisionsUptoRow.holds Try.pinned (OpenSpec.upto fnExactDecisionsSpec)

/-- 'laws.FnExactAgreed', WHERE WHAT IT READS IS OF BULK AT MOST 1048576: true; the input reads as it did. -/
def fnExactAgreedUptoRow : OpenClaim := { program := "ytbadfamoiccppaa", sum := "63fc29131f8339b65c82af142f348aa390808d0796d7cb38f8a24d4c960fcd53", func := "loop.example/g00946/laws.FnExactAgreed", spec := "fnExactAgreed", recurses := true, apart := false, narrowed := true }
def FnExactAgreedUptoSaid : Prop := fnExactAgreedUptoRow.holds Try.pinned (OpenSpec.upto fnExactAgreedSpec)

end Rows
end Go.Proofs.Ytbadfamoiccppaa
