/-
  No cell of these rows narrows 'for every input' (looked for: loops, veiled, ifaces, maps, wideKeys, modest, calm, conditions, laid).
  DERIVED. THE GIVEN ROWS OF THIS SEAT. 5 by the template 'for every input the law returns true; each argument reads behind the call as it read before'; 0 by the template 'total and deterministic' (their statements: YteifmlmmfghjjaaTotals.lean).
  GIVEN WITH THE SEED: the statements are not yours to turn. If you find one false, say at which input.
  Laid BY PROGRAM, IN A SANDBOX (cutbox-rows.mjs): the forced cells as the released guide's own fill.sh prints them over the translation 5a992ff47659cef1… (all of the seat's roots in one cut). By AI agents, Wed Nov 11 2026. No macro, syntax, notation, axiom, sorry.
-/
import Derived.Test.YteifmlmmfghjjaaChecked
import GoSem.Claim
import GoSem.ClaimJoined
import GoSem.ClaimMapViews
import Derived.JoinedTies
import Derived.KernelRfl
namespace Go.Proofs.Yteifmlmmfghjjaa
/- THE CELL 'sum', in the pinned program and in every row, IS THE sha256 OF THE DUMP (.gsa) THAT YteifmlmmfghjjaaProg.lean LOADS. Nothing in Lean hashes anything: it is a label: what it is worth is what the hold of that sum in a sandbox is worth. -/
noncomputable def Try.pinned : Pinned := { name := "yteifmlmmfghjjaa", sum := "5a992ff47659cef1be00a75817e5db297802b633cd7090ba9ac16aabc1ee1c6b", checked := Try.checked }
namespace Rows
def none {H : Type} : Left H := { results := [], args := [] }

/-- 'laws.FnExactSignerOk': WHATEVER THE INPUT: true; the input reads as it did. -/
def fnExactSignerOkSpec : ChangeSpec := { name := "fnExactSignerOk", fn := fun _ => fun
  | [d] => { results := [.lit (.bool true)], args := [d] }
  | _ => none }
def fnExactSignerOkRow : OpenClaim := { program := "yteifmlmmfghjjaa", sum := "5a992ff47659cef1be00a75817e5db297802b633cd7090ba9ac16aabc1ee1c6b", func := "loop.example/g00946/laws.FnExactSignerOk", spec := "fnExactSignerOk", apart := false }
def FnExactSignerOkSaid : Prop := fnExactSignerOkRow.holds Try.pinned (OpenSpec.ofChange fnExactSignerOkSpec)

/-- ITS FALSE NEIGHBOUR: 'it returns false'. Refute it at one input. -/
def fnExactSignerOkWrong : ChangeSpec := { name := "fnExactSignerOk", fn := fun _ => fun
  | [d] => { results := [.lit (.bool false)], args := [d] }
  | _ => none }
def FnExactSignerOkWrongFalsely : Prop := fnExactSignerOkRow.holds Try.pinned (OpenSpec.ofChange fnExactSignerOkWrong)

/-- 'laws.FnExactSignFall': WHATEVER THE INPUT: true; the input reads as it did. -/
def fnExactSignFallSpec : ChangeSpec := { name := "fnExactSignFall", fn := fun _ => fun
  | [d] => { results := [.lit (.bool true)], args := [d] }
  | _ => none }
def fnExactSignFallRow : OpenClaim := { program := "yteifmlmmfghjjaa", sum := "5a992ff47659cef1be00a75817e5db297802b633cd7090ba9ac16aabc1ee1c6b", func := "loop.example/g00946/laws.FnExactSignFall", spec := "fnExactSignFall", apart := false }
def FnExactSignFallSaid : Prop := fnExactSignFallRow.holds Try.pinned (OpenSpec.ofChange fnExactSignFallSpec)

/-- ITS FALSE NEIGHBOUR: 'it returns false'. Refute it at one input. -/
def fnExactSignFallWrong : ChangeSpec := { name := "fnExactSignFall", fn := fun _ => fun
  | [d] => { results := [.lit (.bool false)], args := [d] }
  | _ => none }
def FnExactSignFallWrongFalsely : Prop := fnExactSignFallRow.holds Try.pinned (OpenSpec.ofChange fnExactSignFallWrong)

/-- 'laws.FnExactSignSync': WHATEVER THE INPUT: true; the input reads as it did. -/
def fnExactSignSyncSpec : ChangeSpec := { name := "fnExactSignSync", fn := fun _ => fun
  | [d] => { results := [.lit (.bool true)], args := [d] }
  | _ => none }
def fnExactSignSyncRow : OpenClaim := { program := "yteifmlmmfghjjaa", sum := "5a992ff47659cef1be00a75817e5db297802b633cd7090ba9ac16aabc1ee1c6b", func := "loop.example/g00946/laws.FnExactSignSync", spec := "fnExactSignSync", apart := false }
def FnExactSignSyncSaid : Prop := fnExactSignSyncRow.holds Try.pinned (OpenSpec.ofChange fnExactSignSyncSpec)

/-- ITS FALSE NEIGHBOUR: 'it returns false'. Refute it at one input. -/
def fnExactSignSyncWrong : ChangeSpec := { name := "fnExactSignSync", fn := fun _ => fun
  | [d] => { results := [.lit (.bool false)], args := [d] }
  | _ => none }
def FnExactSignSyncWrongFalsely : Prop := fnExactSignSyncRow.holds Try.pinned (OpenSpec.ofChange fnExactSignSyncWrong)

/-- 'laws.FnExactSignAsk': WHATEVER THE INPUT: true; the input reads as it did. -/
def fnExactSignAskSpec : ChangeSpec := { name := "fnExactSignAsk", fn := fun _ => fun
  | [d1, d2] => { results := [.lit (.bool true)], args := [d1, d2] }
  | _ => none }
def fnExactSignAskRow : OpenClaim := { program := "yteifmlmmfghjjaa", sum := "5a992ff47659cef1be00a75817e5db297802b633cd7090ba9ac16aabc1ee1c6b", func := "loop.example/g00946/laws.FnExactSignAsk", spec := "fnExactSignAsk", apart := false }
def FnExactSignAskSaid : Prop := fnExactSignAskRow.holds Try.pinned (OpenSpec.ofChange fnExactSignAskSpec)

/-- ITS FALSE NEIGHBOUR: 'it returns false'. Refute it at one input. -/
def fnExactSignAskWrong : ChangeSpec := { name := "fnExactSignAsk", fn := fun _ => fun
  | [d1, d2] => { results := [.lit (.bool false)], args := [d1, d2] }
  | _ => none }
def FnExactSignAskWrongFalsely : Prop := fnExactSignAskRow.holds Try.pinned (OpenSpec.ofChange fnExactSignAskWrong)

/-- 'laws.FnSigner': WHATEVER THE INPUT: true; the input reads as it did. -/
def fnSignerSpec : ChangeSpec := { name := "fnSigner", fn := fun _ => fun
  | [d] => { results := [.lit (.bool true)], args := [d] }
  | _ => none }
def fnSignerRow : OpenClaim := { program := "yteifmlmmfghjjaa", sum := "5a992ff47659cef1be00a75817e5db297802b633cd7090ba9ac16aabc1ee1c6b", func := "loop.example/g00946/laws.FnSigner", spec := "fnSigner", apart := false }
def FnSignerSaid : Prop := fnSignerRow.holds Try.pinned (OpenSpec.ofChange fnSignerSpec)

/-- ITS FALSE NEIGHBOUR: 'it returns false'. Refute it at one input. -/
def fnSignerWrong : ChangeSpec := { name := "fnSigner", fn := fun _ => fun
  | [d] => { results := [.lit (.bool false)], args := [d] }
  | _ => none }
def FnSignerWrongFalsely : Prop := fnSignerRow.holds Try.pinned (OpenSpec.ofChange fnSignerWrong)

/- THE SECOND FORM. 'bulk': how many values and letters a reading holds, each counted each time it is reached (what is shared counts as often as it is met; a slice's spare places count too). A statement '..UptoSaid' is the law's where the arguments, and the package variables that the reading takes, are together of bulk at most 1048576: NARROWER than '..Said'. Prove '..Said' where nothing that the law and all that it calls make is longer than what came in: it says more and counts as full. Else prove '..UptoSaid'. A law counts once. -/
mutual
def uptoBulk {H : Type} : DataW H → Nat
  | .lit (.string bytes) => bytes.length + 1
  | .lit _ => 1
  | .nil => 1
  | .ptr d => uptoBulk d + 1
  | .slice elems spare => uptoBulkAll elems + uptoBulkAll spare + 1
  | .agg parts => uptoBulkAll parts + 1
  | .iface _ d => uptoBulk d + 1
  | .map entries => uptoBulkEntries entries + 1
  | .held _ => 1
def uptoBulkAll {H : Type} : List (DataW H) → Nat
  | [] => 0
  | d :: r => uptoBulk d + uptoBulkAll r
def uptoBulkEntries {H : Type} : List (Lit × DataW H) → Nat
  | [] => 0
  | x :: r => uptoBulkEntry x + uptoBulkEntries r
def uptoBulkEntry {H : Type} : Lit × DataW H → Nat
  | (.string bytes, d) => bytes.length + uptoBulk d + 1
  | (_, d) => uptoBulk d + 1
 end
def uptoSmall : (H : Type) → List (DataW H) → Bool := fun _ ds => decide (uptoBulkAll ds ≤ 1048576)
def OpenSpec.upto (s : _root_.Go.ChangeSpec) : _root_.Go.OpenSpec := { _root_.Go.OpenSpec.ofChange s with cond := some uptoSmall }

/-- 'laws.FnExactSignerOk', WHERE WHAT IT READS IS OF BULK AT MOST 1048576: true; the input reads as it did. -/
def fnExactSignerOkUptoRow : OpenClaim := { program := "yteifmlmmfghjjaa", sum := "5a992ff47659cef1be00a75817e5db297802b633cd7090ba9ac16aabc1ee1c6b", func := "loop.example/g00946/laws.FnExactSignerOk", spec := "fnExactSignerOk", apart := false, narrowed := true }
def FnExactSignerOkUptoSaid : Prop := fnExactSignerOkUptoRow.holds Try.pinned (OpenSpec.upto fnExactSignerOkSpec)

/-- 'laws.FnExactSignFall', WHERE WHAT IT READS IS OF BULK AT MOST 1048576: true; the input reads as it did. -/
def fnExactSignFallUptoRow : OpenClaim := { program := "yteifmlmmfghjjaa", sum := "5a992ff47659cef1be00a75817e5db297802b633cd7090ba9ac16aabc1ee1c6b", func := "loop.example/g00946/laws.FnExactSignFall", spec := "fnExactSignFall", apart := false, narrowed := true }
def FnExactSignFallUptoSaid : Prop := fnExactSignFallUptoRow.holds Try.pinned (OpenSpec.upto fnExactSignFallSpec)

/-- 'laws.FnExactSignSync', WHERE WHAT IT READS IS OF BULK AT MOST 1048576: true; the input reads as it did. -/
def fnExactSignSyncUptoRow : OpenClaim := { program := "yteifmlmmfghjjaa", sum := "5a992ff47659cef1be00a75817e5db297802b633cd7090ba9ac16aabc1ee1c6b", func := "loop.example/g00946/laws.FnExactSignSync", spec := "fnExactSignSync", apart := false, narrowed := true }
def FnExactSignSyncUptoSaid : Prop := fnExactSignSyncUptoRow.holds Try.pinned (OpenSpec.upto fnExactSignSyncSpec)

/-- 'laws.FnExactSignAsk', WHERE WHAT IT READS IS OF BULK AT MOST 1048576: true; the input reads as it did. -/
def fnExactSignAskUptoRow : OpenClaim := { program := "yteifmlmmfghjjaa", sum := "5a992ff47659cef1be00a75817e5db297802b633cd7090ba9ac16aabc1ee1c6b", func := "loop.example/g00946/laws.FnExactSignAsk", spec := "fnExactSignAsk", apart := false, narrowed := true }
def FnExactSignAskUptoSaid : Prop := fnExactSignAskUptoRow.holds Try.pinned (OpenSpec.upto fnExactSignAskSpec)

/-- 'laws.FnSigner', WHERE WHAT IT READS IS OF BULK AT MOST 1048576: true; the input reads as it did. -/
def fnSignerUptoRow : OpenClaim := { program := "yteifmlmmfghjjaa", sum := "5a992ff47659cef1be00a75817e5db297802b633cd7090ba9ac16aabc1ee1c6b", func := "loop.example/g00946/laws.FnSigner", spec := "fnSigner", apart := false, narrowed := true }
def FnSignerUptoSaid : Prop := fnSignerUptoRow.holds Try.pinned (OpenSpec.upto fnSignerSpec)

end Rows
end Go.Proofs.Yteifmlmmfghjjaa
