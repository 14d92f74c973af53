/-
  No cell of these rows narrows 'for every input' (looked for: loops, veiled, ifaces, maps, wideKeys, modest, calm, conditions, laid).
  DERIVED. THE GIVEN ROWS OF THIS SEAT. 6 by the template 'for every input the law returns true; each argument reads behind the call as it read before'; 0 by the template 'total and deterministic' (their statements: YtnnihkjmbdgoiaaTotals.lean).
  GIVEN WITH THE SEED: the statements are not yours to turn. If you find one false, say at which input.
  Laid BY PROGRAM, IN A SANDBOX (cutbox-rows.mjs): the forced cells as the released guide's own fill.sh prints them over the translation 5053069aef77e164… (all of the seat's roots in one cut). By AI agents, Wed Nov 11 2026. No macro, syntax, notation, axiom, sorry.
-/
import Derived.Test.YtnnihkjmbdgoiaaChecked
import GoSem.Claim
import GoSem.ClaimJoined
import GoSem.ClaimMapViews
import Derived.JoinedTies
import Derived.KernelRfl
namespace Go.Proofs.Ytnnihkjmbdgoiaa
/- THE CELL 'sum', in the pinned program and in every row, IS THE sha256 OF THE DUMP (.gsa) THAT YtnnihkjmbdgoiaaProg.lean LOADS. Nothing in Lean hashes anything: it is a label: what it is worth is what the hold of that sum in a sandbox is worth. -/
noncomputable def Try.pinned : Pinned := { name := "ytnnihkjmbdgoiaa", sum := "5053069aef77e1646d067941f15d8f51f70ef0a318296093f2e131f4c7397f1a", checked := Try.checked }
namespace Rows
def none {H : Type} : Left H := { results := [], args := [] }

/-- 'laws.FnExactTrustOk': WHATEVER THE INPUT: true; the input reads as it did. -/
def fnExactTrustOkSpec : ChangeSpec := { name := "fnExactTrustOk", fn := fun _ => fun
  | [d] => { results := [.lit (.bool true)], args := [d] }
  | _ => none }
def fnExactTrustOkRow : OpenClaim := { program := "ytnnihkjmbdgoiaa", sum := "5053069aef77e1646d067941f15d8f51f70ef0a318296093f2e131f4c7397f1a", func := "loop.example/g00946/laws.FnExactTrustOk", spec := "fnExactTrustOk", apart := false }
def FnExactTrustOkSaid : Prop := fnExactTrustOkRow.holds Try.pinned (OpenSpec.ofChange fnExactTrustOkSpec)

/-- ITS FALSE NEIGHBOUR: 'it returns false'. Refute it at one input. -/
def fnExactTrustOkWrong : ChangeSpec := { name := "fnExactTrustOk", fn := fun _ => fun
  | [d] => { results := [.lit (.bool false)], args := [d] }
  | _ => none }
def FnExactTrustOkWrongFalsely : Prop := fnExactTrustOkRow.holds Try.pinned (OpenSpec.ofChange fnExactTrustOkWrong)

/-- 'laws.FnExactExpires': WHATEVER THE INPUT: true; the input reads as it did. -/
def fnExactExpiresSpec : ChangeSpec := { name := "fnExactExpires", fn := fun _ => fun
  | [d1, d2] => { results := [.lit (.bool true)], args := [d1, d2] }
  | _ => none }
def fnExactExpiresRow : OpenClaim := { program := "ytnnihkjmbdgoiaa", sum := "5053069aef77e1646d067941f15d8f51f70ef0a318296093f2e131f4c7397f1a", func := "loop.example/g00946/laws.FnExactExpires", spec := "fnExactExpires", apart := false }
def FnExactExpiresSaid : Prop := fnExactExpiresRow.holds Try.pinned (OpenSpec.ofChange fnExactExpiresSpec)

/-- ITS FALSE NEIGHBOUR: 'it returns false'. Refute it at one input. -/
def fnExactExpiresWrong : ChangeSpec := { name := "fnExactExpires", fn := fun _ => fun
  | [d1, d2] => { results := [.lit (.bool false)], args := [d1, d2] }
  | _ => none }
def FnExactExpiresWrongFalsely : Prop := fnExactExpiresRow.holds Try.pinned (OpenSpec.ofChange fnExactExpiresWrong)

/-- 'laws.FnExactFresh': WHATEVER THE INPUT: true; the input reads as it did. -/
def fnExactFreshSpec : ChangeSpec := { name := "fnExactFresh", fn := fun _ => fun
  | [d1, d2, d3] => { results := [.lit (.bool true)], args := [d1, d2, d3] }
  | _ => none }
def fnExactFreshRow : OpenClaim := { program := "ytnnihkjmbdgoiaa", sum := "5053069aef77e1646d067941f15d8f51f70ef0a318296093f2e131f4c7397f1a", func := "loop.example/g00946/laws.FnExactFresh", spec := "fnExactFresh", apart := false }
def FnExactFreshSaid : Prop := fnExactFreshRow.holds Try.pinned (OpenSpec.ofChange fnExactFreshSpec)

/-- ITS FALSE NEIGHBOUR: 'it returns false'. Refute it at one input. -/
def fnExactFreshWrong : ChangeSpec := { name := "fnExactFresh", fn := fun _ => fun
  | [d1, d2, d3] => { results := [.lit (.bool false)], args := [d1, d2, d3] }
  | _ => none }
def FnExactFreshWrongFalsely : Prop := fnExactFreshRow.holds Try.pinned (OpenSpec.ofChange fnExactFreshWrong)

/-- 'laws.FnExactGuardOk': WHATEVER THE INPUT: true; the input reads as it did. -/
def fnExactGuardOkSpec : ChangeSpec := { name := "fnExactGuardOk", fn := fun _ => fun
  | [d] => { results := [.lit (.bool true)], args := [d] }
  | _ => none }
def fnExactGuardOkRow : OpenClaim := { program := "ytnnihkjmbdgoiaa", sum := "5053069aef77e1646d067941f15d8f51f70ef0a318296093f2e131f4c7397f1a", func := "loop.example/g00946/laws.FnExactGuardOk", spec := "fnExactGuardOk", apart := false }
def FnExactGuardOkSaid : Prop := fnExactGuardOkRow.holds Try.pinned (OpenSpec.ofChange fnExactGuardOkSpec)

/-- ITS FALSE NEIGHBOUR: 'it returns false'. Refute it at one input. -/
def fnExactGuardOkWrong : ChangeSpec := { name := "fnExactGuardOk", fn := fun _ => fun
  | [d] => { results := [.lit (.bool false)], args := [d] }
  | _ => none }
def FnExactGuardOkWrongFalsely : Prop := fnExactGuardOkRow.holds Try.pinned (OpenSpec.ofChange fnExactGuardOkWrong)

/-- 'laws.FnExactTimeLeft': WHATEVER THE INPUT: true; the input reads as it did. -/
def fnExactTimeLeftSpec : ChangeSpec := { name := "fnExactTimeLeft", fn := fun _ => fun
  | [d1, d2, d3] => { results := [.lit (.bool true)], args := [d1, d2, d3] }
  | _ => none }
def fnExactTimeLeftRow : OpenClaim := { program := "ytnnihkjmbdgoiaa", sum := "5053069aef77e1646d067941f15d8f51f70ef0a318296093f2e131f4c7397f1a", func := "loop.example/g00946/laws.FnExactTimeLeft", spec := "fnExactTimeLeft", apart := false }
def FnExactTimeLeftSaid : Prop := fnExactTimeLeftRow.holds Try.pinned (OpenSpec.ofChange fnExactTimeLeftSpec)

/-- ITS FALSE NEIGHBOUR: 'it returns false'. Refute it at one input. -/
def fnExactTimeLeftWrong : ChangeSpec := { name := "fnExactTimeLeft", fn := fun _ => fun
  | [d1, d2, d3] => { results := [.lit (.bool false)], args := [d1, d2, d3] }
  | _ => none }
def FnExactTimeLeftWrongFalsely : Prop := fnExactTimeLeftRow.holds Try.pinned (OpenSpec.ofChange fnExactTimeLeftWrong)

/-- 'laws.FnExactMsgOk': WHATEVER THE INPUT: true; the input reads as it did. -/
def fnExactMsgOkSpec : ChangeSpec := { name := "fnExactMsgOk", fn := fun _ => fun
  | [d] => { results := [.lit (.bool true)], args := [d] }
  | _ => none }
def fnExactMsgOkRow : OpenClaim := { program := "ytnnihkjmbdgoiaa", sum := "5053069aef77e1646d067941f15d8f51f70ef0a318296093f2e131f4c7397f1a", func := "loop.example/g00946/laws.FnExactMsgOk", spec := "fnExactMsgOk", apart := false }
def FnExactMsgOkSaid : Prop := fnExactMsgOkRow.holds Try.pinned (OpenSpec.ofChange fnExactMsgOkSpec)

/-- ITS FALSE NEIGHBOUR: 'it returns false'. Refute it at one input. -/
def fnExactMsgOkWrong : ChangeSpec := { name := "fnExactMsgOk", fn := fun _ => fun
  | [d] => { results := [.lit (.bool false)], args := [d] }
  | _ => none }
def FnExactMsgOkWrongFalsely : Prop := fnExactMsgOkRow.holds Try.pinned (OpenSpec.ofChange fnExactMsgOkWrong)

/- THE SECOND FORM. 'bulk': how many values and letters a reading holds, each counted each time it is reached (what is shared counts as often as it is met; a slice's spare places count too). A statement '..UptoSaid' is the law's where the arguments, and the package variables that the reading takes, are together of bulk at most 1048576: NARROWER than '..Said'. Prove '..Said' where nothing that the law and all that it calls make is longer than what came in: it says more and counts as full. Else prove '..UptoSaid'. A law counts once. -/
mutual
def uptoBulk {H : Type} : DataW H → Nat
  | .lit (.string bytes) => bytes.length + 1
  | .lit _ => 1
  | .nil => 1
  | .ptr d => uptoBulk d + 1
  | .slice elems spare => uptoBulkAll elems + uptoBulkAll spare + 1
  | .agg parts => uptoBulkAll parts + 1
  | .iface _ d => uptoBulk d + 1
  | .map entries => uptoBulkEntries entries + 1
  | .held _ => 1
def uptoBulkAll {H : Type} : List (DataW H) → Nat
  | [] => 0
  | d :: r => uptoBulk d + uptoBulkAll r
def uptoBulkEntries {H : Type} : List (Lit × DataW H) → Nat
  | [] => 0
  | x :: r => uptoBulkEntry x + uptoBulkEntries r
def uptoBulkEntry {H : Type} : Lit × DataW H → Nat
  | (.string bytes, d) => bytes.length + uptoBulk d + 1
  | (_, d) => uptoBulk d + 1
 end
def uptoSmall : (H : Type) → List (DataW H) → Bool := fun _ ds => decide (uptoBulkAll ds ≤ 1048576)
def OpenSpec.upto (s : _root_.Go.ChangeSpec) : _root_.Go.OpenSpec := { _root_.Go.OpenSpec.ofChange s with cond := some uptoSmall }

/-- 'laws.FnExactTrustOk', WHERE WHAT IT READS IS OF BULK AT MOST 1048576: true; the input reads as it did. -/
def fnExactTrustOkUptoRow : OpenClaim := { program := "ytnnihkjmbdgoiaa", sum := "5053069aef77e1646d067941f15d8f51f70ef0a318296093f2e131f4c7397f1a", func := "loop.example/g00946/laws.FnExactTrustOk", spec := "fnExactTrustOk", apart := false, narrowed := true }
def FnExactTrustOkUptoSaid : Prop := fnExactTrustOkUptoRow.holds Try.pinned (OpenSpec.upto fnExactTrustOkSpec)

/-- 'laws.FnExactExpires', WHERE WHAT IT READS IS OF BULK AT MOST 1048576: true; the input reads as it did. -/
def fnExactExpiresUptoRow : OpenClaim := { program := "ytnnihkjmbdgoiaa", sum := "5053069aef77e1646d067941f15d8f51f70ef0a318296093f2e131f4c7397f1a", func := "loop.example/g00946/laws.FnExactExpires", spec := "fnExactExpires", apart := false, narrowed := true }
def FnExactExpiresUptoSaid : Prop := fnExactExpiresUptoRow.holds Try.pinned (OpenSpec.upto fnExactExpiresSpec)

/-- 'laws.FnExactFresh', WHERE WHAT IT READS IS OF BULK AT MOST 1048576: true; the input reads as it did. -/
def fnExactFreshUptoRow : OpenClaim := { program := "ytnnihkjmbdgoiaa", sum := "5053069aef77e1646d067941f15d8f51f70ef0a318296093f2e131f4c7397f1a", func := "loop.example/g00946/laws.FnExactFresh", spec := "fnExactFresh", apart := false, narrowed := true }
def FnExactFreshUptoSaid : Prop := fnExactFreshUptoRow.holds Try.pinned (OpenSpec.upto fnExactFreshSpec)

/-- 'laws.FnExactGuardOk', WHERE WHAT IT READS IS OF BULK AT MOST 1048576: true; the input reads as it did. -/
def fnExactGuardOkUptoRow : OpenClaim := { program := "ytnnihkjmbdgoiaa", sum := "5053069aef77e1646d067941f15d8f51f70ef0a318296093f2e131f4c7397f1a", func := "loop.example/g00946/laws.FnExactGuardOk", spec := "fnExactGuardOk", apart := false, narrowed := true }
def FnExactGuardOkUptoSaid : Prop := fnExactGuardOkUptoRow.holds Try.pinned (OpenSpec.upto fnExactGuardOkSpec)

/-- 'laws.FnExactTimeLeft', WHERE WHAT IT READS IS OF BULK AT MOST 1048576: true; the input reads as it did. -/
def fnExactTimeLeftUptoRow : OpenClaim := { program := "ytnnihkjmbdgoiaa", sum := "5053069aef77e1646d067941f15d8f51f70ef0a318296093f2e131f4c7397f1a", func := "loop.example/g00946/laws.FnExactTimeLeft", spec := "fnExactTimeLeft", apart := false, narrowed := true }
def FnExactTimeLeftUptoSaid : Prop := fnExactTimeLeftUptoRow.holds Try.pinned (OpenSpec.upto fnExactTimeLeftSpec)

/-- 'laws.FnExactMsgOk', WHERE WHAT IT READS IS OF BULK AT MOST 1048576: true; the input reads as it did. -/
def fnExactMsgOkUptoRow : OpenClaim := { program := "ytnnihkjmbdgoiaa", sum := "5053069aef77e1646d067941f15d8f51f70ef0a318296093f2e131f4c7397f1a", func := "loop.example/g00946/laws.FnExactMsgOk", spec := "fnExactMsgOk", apart := false, narrowed := true }
def FnExactMsgOkUptoSaid : Prop := fnExactMsgOkUptoRow.holds Try.pinned (OpenSpec.upto fnExactMsgOkSpec)

end Rows
end Go.Proofs.Ytnnihkjmbdgoiaa
