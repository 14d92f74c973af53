/-
  No cell of these rows narrows 'for every input' (looked for: loops, veiled, ifaces, maps, wideKeys, modest, calm, conditions, laid).
  DERIVED. THE GIVEN ROWS OF THIS SEAT. 7 by the template 'for every input the law returns true; each argument reads behind the call as it read before'; 0 by the template 'total and deterministic' (their statements: YtpfppkjikkihfaaTotals.lean).
  GIVEN WITH THE SEED: the statements are not yours to turn. If you find one false, say at which input.
  Laid BY PROGRAM, IN A SANDBOX (cutbox-rows.mjs): the forced cells as the released guide's own fill.sh prints them over the translation 4ac83cd3b30e4ea8… (all of the seat's roots in one cut). By AI agents, Wed Nov 11 2026. No macro, syntax, notation, axiom, sorry.
-/
import Derived.Test.YtpfppkjikkihfaaChecked
import GoSem.Claim
import GoSem.ClaimJoined
import GoSem.ClaimMapViews
import Derived.JoinedTies
import Derived.KernelRfl
namespace Go.Proofs.Ytpfppkjikkihfaa
/- THE CELL 'sum', in the pinned program and in every row, IS THE sha256 OF THE DUMP (.gsa) THAT YtpfppkjikkihfaaProg.lean LOADS. Nothing in Lean hashes anything: it is a label: what it is worth is what the hold of that sum in a sandbox is worth. -/
noncomputable def Try.pinned : Pinned := { name := "ytpfppkjikkihfaa", sum := "4ac83cd3b30e4ea891020d65fd62466ed7a04a324b07ba9e1ec6d53387426c5b", checked := Try.checked }
namespace Rows
def none {H : Type} : Left H := { results := [], args := [] }

/-- 'laws.FnExactMaySign': WHATEVER THE INPUT: true; the input reads as it did. -/
def fnExactMaySignSpec : ChangeSpec := { name := "fnExactMaySign", fn := fun _ => fun
  | [d1, d2] => { results := [.lit (.bool true)], args := [d1, d2] }
  | _ => none }
def fnExactMaySignRow : OpenClaim := { program := "ytpfppkjikkihfaa", sum := "4ac83cd3b30e4ea891020d65fd62466ed7a04a324b07ba9e1ec6d53387426c5b", func := "loop.example/g00946/laws.FnExactMaySign", spec := "fnExactMaySign", apart := false }
def FnExactMaySignSaid : Prop := fnExactMaySignRow.holds Try.pinned (OpenSpec.ofChange fnExactMaySignSpec)

/-- ITS FALSE NEIGHBOUR: 'it returns false'. Refute it at one input. -/
def fnExactMaySignWrong : ChangeSpec := { name := "fnExactMaySign", fn := fun _ => fun
  | [d1, d2] => { results := [.lit (.bool false)], args := [d1, d2] }
  | _ => none }
def FnExactMaySignWrongFalsely : Prop := fnExactMaySignRow.holds Try.pinned (OpenSpec.ofChange fnExactMaySignWrong)

/-- 'laws.FnTrust': WHATEVER THE INPUT: true; the input reads as it did. -/
def fnTrustSpec : ChangeSpec := { name := "fnTrust", fn := fun _ => fun
  | [d] => { results := [.lit (.bool true)], args := [d] }
  | _ => none }
def fnTrustRow : OpenClaim := { program := "ytpfppkjikkihfaa", sum := "4ac83cd3b30e4ea891020d65fd62466ed7a04a324b07ba9e1ec6d53387426c5b", func := "loop.example/g00946/laws.FnTrust", spec := "fnTrust", apart := false }
def FnTrustSaid : Prop := fnTrustRow.holds Try.pinned (OpenSpec.ofChange fnTrustSpec)

/-- ITS FALSE NEIGHBOUR: 'it returns false'. Refute it at one input. -/
def fnTrustWrong : ChangeSpec := { name := "fnTrust", fn := fun _ => fun
  | [d] => { results := [.lit (.bool false)], args := [d] }
  | _ => none }
def FnTrustWrongFalsely : Prop := fnTrustRow.holds Try.pinned (OpenSpec.ofChange fnTrustWrong)

/-- 'laws.FnExactWalRec': WHATEVER THE INPUT: true; the input reads as it did. -/
def fnExactWalRecSpec : ChangeSpec := { name := "fnExactWalRec", fn := fun _ => fun
  | [d] => { results := [.lit (.bool true)], args := [d] }
  | _ => none }
def fnExactWalRecRow : OpenClaim := { program := "ytpfppkjikkihfaa", sum := "4ac83cd3b30e4ea891020d65fd62466ed7a04a324b07ba9e1ec6d53387426c5b", func := "loop.example/g00946/laws.FnExactWalRec", spec := "fnExactWalRec", apart := false }
def FnExactWalRecSaid : Prop := fnExactWalRecRow.holds Try.pinned (OpenSpec.ofChange fnExactWalRecSpec)

/-- ITS FALSE NEIGHBOUR: 'it returns false'. Refute it at one input. -/
def fnExactWalRecWrong : ChangeSpec := { name := "fnExactWalRec", fn := fun _ => fun
  | [d] => { results := [.lit (.bool false)], args := [d] }
  | _ => none }
def FnExactWalRecWrongFalsely : Prop := fnExactWalRecRow.holds Try.pinned (OpenSpec.ofChange fnExactWalRecWrong)

/-- 'laws.FnExactWalAdd': WHATEVER THE INPUT: true; the input reads as it did. -/
def fnExactWalAddSpec : ChangeSpec := { name := "fnExactWalAdd", fn := fun _ => fun
  | [d1, d2] => { results := [.lit (.bool true)], args := [d1, d2] }
  | _ => none }
def fnExactWalAddRow : OpenClaim := { program := "ytpfppkjikkihfaa", sum := "4ac83cd3b30e4ea891020d65fd62466ed7a04a324b07ba9e1ec6d53387426c5b", func := "loop.example/g00946/laws.FnExactWalAdd", spec := "fnExactWalAdd", apart := false }
def FnExactWalAddSaid : Prop := fnExactWalAddRow.holds Try.pinned (OpenSpec.ofChange fnExactWalAddSpec)

/-- ITS FALSE NEIGHBOUR: 'it returns false'. Refute it at one input. -/
def fnExactWalAddWrong : ChangeSpec := { name := "fnExactWalAdd", fn := fun _ => fun
  | [d1, d2] => { results := [.lit (.bool false)], args := [d1, d2] }
  | _ => none }
def FnExactWalAddWrongFalsely : Prop := fnExactWalAddRow.holds Try.pinned (OpenSpec.ofChange fnExactWalAddWrong)

/-- 'laws.FnExactTableOk': WHATEVER THE INPUT: true; the input reads as it did. -/
def fnExactTableOkSpec : ChangeSpec := { name := "fnExactTableOk", fn := fun _ => fun
  | [d] => { results := [.lit (.bool true)], args := [d] }
  | _ => none }
def fnExactTableOkRow : OpenClaim := { program := "ytpfppkjikkihfaa", sum := "4ac83cd3b30e4ea891020d65fd62466ed7a04a324b07ba9e1ec6d53387426c5b", func := "loop.example/g00946/laws.FnExactTableOk", spec := "fnExactTableOk", unfollowed := true, recurses := true, apart := false }
def FnExactTableOkSaid : Prop := fnExactTableOkRow.holds Try.pinned (OpenSpec.ofChange fnExactTableOkSpec)

/-- ITS FALSE NEIGHBOUR: 'it returns false'. Refute it at one input. -/
def fnExactTableOkWrong : ChangeSpec := { name := "fnExactTableOk", fn := fun _ => fun
  | [d] => { results := [.lit (.bool false)], args := [d] }
  | _ => none }
def FnExactTableOkWrongFalsely : Prop := fnExactTableOkRow.holds Try.pinned (OpenSpec.ofChange fnExactTableOkWrong)

/-- 'laws.FnExactWalTrim': WHATEVER THE INPUT: true; the input reads as it did. -/
def fnExactWalTrimSpec : ChangeSpec := { name := "fnExactWalTrim", fn := fun _ => fun
  | [d] => { results := [.lit (.bool true)], args := [d] }
  | _ => none }
def fnExactWalTrimRow : OpenClaim := { program := "ytpfppkjikkihfaa", sum := "4ac83cd3b30e4ea891020d65fd62466ed7a04a324b07ba9e1ec6d53387426c5b", func := "loop.example/g00946/laws.FnExactWalTrim", spec := "fnExactWalTrim", apart := false }
def FnExactWalTrimSaid : Prop := fnExactWalTrimRow.holds Try.pinned (OpenSpec.ofChange fnExactWalTrimSpec)

/-- ITS FALSE NEIGHBOUR: 'it returns false'. Refute it at one input. -/
def fnExactWalTrimWrong : ChangeSpec := { name := "fnExactWalTrim", fn := fun _ => fun
  | [d] => { results := [.lit (.bool false)], args := [d] }
  | _ => none }
def FnExactWalTrimWrongFalsely : Prop := fnExactWalTrimRow.holds Try.pinned (OpenSpec.ofChange fnExactWalTrimWrong)

/-- 'laws.FnExactWalScan': WHATEVER THE INPUT: true; the input reads as it did. -/
def fnExactWalScanSpec : ChangeSpec := { name := "fnExactWalScan", fn := fun _ => fun
  | [d] => { results := [.lit (.bool true)], args := [d] }
  | _ => none }
def fnExactWalScanRow : OpenClaim := { program := "ytpfppkjikkihfaa", sum := "4ac83cd3b30e4ea891020d65fd62466ed7a04a324b07ba9e1ec6d53387426c5b", func := "loop.example/g00946/laws.FnExactWalScan", spec := "fnExactWalScan", apart := false }
def FnExactWalScanSaid : Prop := fnExactWalScanRow.holds Try.pinned (OpenSpec.ofChange fnExactWalScanSpec)

/-- ITS FALSE NEIGHBOUR: 'it returns false'. Refute it at one input. -/
def fnExactWalScanWrong : ChangeSpec := { name := "fnExactWalScan", fn := fun _ => fun
  | [d] => { results := [.lit (.bool false)], args := [d] }
  | _ => none }
def FnExactWalScanWrongFalsely : Prop := fnExactWalScanRow.holds Try.pinned (OpenSpec.ofChange fnExactWalScanWrong)

/- THE SECOND FORM. 'bulk': how many values and letters a reading holds, each counted each time it is reached (what is shared counts as often as it is met; a slice's spare places count too). A statement '..UptoSaid' is the law's where the arguments, and the package variables that the reading takes, are together of bulk at most 1048576: NARROWER than '..Said'. Prove '..Said' where nothing that the law and all that it calls make is longer than what came in: it says more and counts as full. Else prove '..UptoSaid'. A law counts once. -/
mutual
def uptoBulk {H : Type} : DataW H → Nat
  | .lit (.string bytes) => bytes.length + 1
  | .lit _ => 1
  | .nil => 1
  | .ptr d => uptoBulk d + 1
  | .slice elems spare => uptoBulkAll elems + uptoBulkAll spare + 1
  | .agg parts => uptoBulkAll parts + 1
  | .iface _ d => uptoBulk d + 1
  | .map entries => uptoBulkEntries entries + 1
  | .held _ => 1
def uptoBulkAll {H : Type} : List (DataW H) → Nat
  | [] => 0
  | d :: r => uptoBulk d + uptoBulkAll r
def uptoBulkEntries {H : Type} : List (Lit × DataW H) → Nat
  | [] => 0
  | x :: r => uptoBulkEntry x + uptoBulkEntries r
def uptoBulkEntry {H : Type} : Lit × DataW H → Nat
  | (.string bytes, d) => bytes.length + uptoBulk d + 1
  | (_, d) => uptoBulk d + 1
 end
def uptoSmall : (H : Type) → List (DataW H) → Bool := fun _ ds => decide (uptoBulkAll ds ≤ 1048576)
def OpenSpec.upto (s : _root_.Go.ChangeSpec) : _root_.Go.OpenSpec := { _root_.Go.OpenSpec.ofChange s with cond := some uptoSmall }

/-- 'laws.FnExactMaySign', WHERE WHAT IT READS IS OF BULK AT MOST 1048576: true; the input reads as it did. -/
def fnExactMaySignUptoRow : OpenClaim := { program := "ytpfppkjikkihfaa", sum := "4ac83cd3b30e4ea891020d65fd62466ed7a04a324b07ba9e1ec6d53387426c5b", func := "loop.example/g00946/laws.FnExactMaySign", spec := "fnExactMaySign", apart := false, narrowed := true }
def FnExactMaySignUptoSaid : Prop := fnExactMaySignUptoRow.holds Try.pinned (OpenSpec.upto fnExactMaySignSpec)

/-- 'laws.FnTrust', WHERE WHAT IT READS IS OF BULK AT MOST 1048576: true; the input reads as it did. -/
def fnTrustUptoRow : OpenClaim := { program := "ytpfppkjikkihfaa", sum := "4ac83cd3b30e4ea891020d65fd62466ed7a04a324b07ba9e1ec6d53387426c5b", func := "loop.example/g00946/laws.FnTrust", spec := "fnTrust", apart := false, narrowed := true }
def FnTrustUptoSaid : Prop := fnTrustUptoRow.holds Try.pinned (OpenSpec.upto fnTrustSpec)

/-- 'laws.FnExactWalRec', WHERE WHAT IT READS IS OF BULK AT MOST 1048576: true; the input reads as it did. -/
def fnExactWalRecUptoRow : OpenClaim := { program := "ytpfppkjikkihfaa", sum := "4ac83cd3b30e4ea891020d65fd62466ed7a04a324b07ba9e1ec6d53387426c5b", func := "loop.example/g00946/laws.FnExactWalRec", spec := "fnExactWalRec", apart := false, narrowed := true }
def FnExactWalRecUptoSaid : Prop := fnExactWalRecUptoRow.holds Try.pinned (OpenSpec.upto fnExactWalRecSpec)

/-- 'laws.FnExactWalAdd', WHERE WHAT IT READS IS OF BULK AT MOST 1048576: true; the input reads as it did. -/
def fnExactWalAddUptoRow : OpenClaim := { program := "ytpfppkjikkihfaa", sum := "4ac83cd3b30e4ea891020d65fd62466ed7a04a324b07ba9e1ec6d53387426c5b", func := "loop.example/g00946/laws.FnExactWalAdd", spec := "fnExactWalAdd", apart := false, narrowed := true }
def FnExactWalAddUptoSaid : Prop := fnExactWalAddUptoRow.holds Try.pinned (OpenSpec.upto fnExactWalAddSpec)

/-- 'laws.FnExactTableOk', WHERE WHAT IT READS IS OF BULK AT MOST 1048576: true; the input reads as it did. -/
def fnExactTableOkUptoRow : OpenClaim := { program := "ytpfppkjikkihfaa", sum := "4ac83cd3b30e4ea891020d65fd62466ed7a04a324b07ba9e1ec6d53387426c5b", func := "loop.example/g00946/laws.FnExactTableOk", spec := "fnExactTableOk", unfollowed := true, recurses := true, apart := false, narrowed := true }
def FnExactTableOkUptoSaid : Prop := fnExactTableOkUptoRow.holds Try.pinned (OpenSpec.upto fnExactTableOkSpec)

/-- 'laws.FnExactWalTrim', WHERE WHAT IT READS IS OF BULK AT MOST 1048576: true; the input reads as it did. -/
def fnExactWalTrimUptoRow : OpenClaim := { program := "ytpfppkjikkihfaa", sum := "4ac83cd3b30e4ea891020d65fd62466ed7a04a324b07ba9e1ec6d53387426c5b", func := "loop.example/g00946/laws.FnExactWalTrim", spec := "fnExactWalTrim", apart := false, narrowed := true }
def FnExactWalTrimUptoSaid : Prop := fnExactWalTrimUptoRow.holds Try.pinned (OpenSpec.upto fnExactWalTrimSpec)

/-- 'laws.FnExactWalScan', WHERE WHAT IT READS IS OF BULK AT MOST 1048576: true; the input reads as it did. -/
def fnExactWalScanUptoRow : OpenClaim := { program := "ytpfppkjikkihfaa", sum := "4ac83cd3b30e4ea891020d65fd62466ed7a04a324b07ba9e1ec6d53387426c5b", func := "loop.example/g00946/laws.FnExactWalScan", spec := "fnExactWalScan", apart := false, narrowed := true }
def FnExactWalScanUptoSaid : Prop := fnExactWalScanUptoRow.holds Try.pinned (OpenSpec.upto fnExactWalScanSpec)

end Rows
end Go.Proofs.Ytpfppkjikkihfaa
