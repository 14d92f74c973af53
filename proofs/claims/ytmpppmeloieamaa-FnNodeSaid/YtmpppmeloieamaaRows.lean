/-
  No cell of these rows narrows 'for every input' (looked for: loops, veiled, ifaces, maps, wideKeys, modest, calm, conditions, laid).
  DERIVED. THE GIVEN ROWS OF THIS SEAT. 4 by the template 'for every input the law returns true; each argument reads behind the call as it read before'; 0 by the template 'total and deterministic' (their statements: YtmpppmeloieamaaTotals.lean).
  GIVEN WITH THE SEED: the statements are not yours to turn. If you find one false, say at which input.
  Laid BY PROGRAM, IN A SANDBOX (cutbox-rows.mjs): the forced cells as the released guide's own fill.sh prints them over the translation 06a34f5bdd4aa3e9… (all of the seat's roots in one cut). By AI agents, Wed Nov 11 2026. No macro, syntax, notation, axiom, sorry.
-/
import Derived.Test.YtmpppmeloieamaaChecked
import GoSem.Claim
import GoSem.ClaimJoined
import GoSem.ClaimMapViews
import Derived.JoinedTies
import Derived.KernelRfl
namespace Go.Proofs.Ytmpppmeloieamaa
/- THE CELL 'sum', in the pinned program and in every row, IS THE sha256 OF THE DUMP (.gsa) THAT YtmpppmeloieamaaProg.lean LOADS. Nothing in Lean hashes anything: it is a label: what it is worth is what the hold of that sum in a sandbox is worth. -/
noncomputable def Try.pinned : Pinned := { name := "ytmpppmeloieamaa", sum := "06a34f5bdd4aa3e90e5f0ecf1e0d4aff307621d2d1dff5b69d833e30ef185c9d", checked := Try.checked }
namespace Rows
def none {H : Type} : Left H := { results := [], args := [] }

/-- 'laws.FnExactNodeStart': WHATEVER THE INPUT: true; the input reads as it did. -/
def fnExactNodeStartSpec : ChangeSpec := { name := "fnExactNodeStart", fn := fun _ => fun
  | [d] => { results := [.lit (.bool true)], args := [d] }
  | _ => none }
def fnExactNodeStartRow : OpenClaim := { program := "ytmpppmeloieamaa", sum := "06a34f5bdd4aa3e90e5f0ecf1e0d4aff307621d2d1dff5b69d833e30ef185c9d", func := "loop.example/g00946/laws.FnExactNodeStart", spec := "fnExactNodeStart", unfollowed := true, recurses := true, apart := false }
def FnExactNodeStartSaid : Prop := fnExactNodeStartRow.holds Try.pinned (OpenSpec.ofChange fnExactNodeStartSpec)

/-- ITS FALSE NEIGHBOUR: 'it returns false'. Refute it at one input. -/
def fnExactNodeStartWrong : ChangeSpec := { name := "fnExactNodeStart", fn := fun _ => fun
  | [d] => { results := [.lit (.bool false)], args := [d] }
  | _ => none }
def FnExactNodeStartWrongFalsely : Prop := fnExactNodeStartRow.holds Try.pinned (OpenSpec.ofChange fnExactNodeStartWrong)

/-- 'laws.FnExactNodeGet': WHATEVER THE INPUT: true; the input reads as it did. -/
def fnExactNodeGetSpec : ChangeSpec := { name := "fnExactNodeGet", fn := fun _ => fun
  | [d1, d2] => { results := [.lit (.bool true)], args := [d1, d2] }
  | _ => none }
def fnExactNodeGetRow : OpenClaim := { program := "ytmpppmeloieamaa", sum := "06a34f5bdd4aa3e90e5f0ecf1e0d4aff307621d2d1dff5b69d833e30ef185c9d", func := "loop.example/g00946/laws.FnExactNodeGet", spec := "fnExactNodeGet", unfollowed := true, recurses := true, apart := false }
def FnExactNodeGetSaid : Prop := fnExactNodeGetRow.holds Try.pinned (OpenSpec.ofChange fnExactNodeGetSpec)

/-- ITS FALSE NEIGHBOUR: 'it returns false'. Refute it at one input. -/
def fnExactNodeGetWrong : ChangeSpec := { name := "fnExactNodeGet", fn := fun _ => fun
  | [d1, d2] => { results := [.lit (.bool false)], args := [d1, d2] }
  | _ => none }
def FnExactNodeGetWrongFalsely : Prop := fnExactNodeGetRow.holds Try.pinned (OpenSpec.ofChange fnExactNodeGetWrong)

/-- 'laws.FnExactNodeTime': WHATEVER THE INPUT: true; the input reads as it did. -/
def fnExactNodeTimeSpec : ChangeSpec := { name := "fnExactNodeTime", fn := fun _ => fun
  | [d1, d2] => { results := [.lit (.bool true)], args := [d1, d2] }
  | _ => none }
def fnExactNodeTimeRow : OpenClaim := { program := "ytmpppmeloieamaa", sum := "06a34f5bdd4aa3e90e5f0ecf1e0d4aff307621d2d1dff5b69d833e30ef185c9d", func := "loop.example/g00946/laws.FnExactNodeTime", spec := "fnExactNodeTime", unfollowed := true, recurses := true, apart := false }
def FnExactNodeTimeSaid : Prop := fnExactNodeTimeRow.holds Try.pinned (OpenSpec.ofChange fnExactNodeTimeSpec)

/-- ITS FALSE NEIGHBOUR: 'it returns false'. Refute it at one input. -/
def fnExactNodeTimeWrong : ChangeSpec := { name := "fnExactNodeTime", fn := fun _ => fun
  | [d1, d2] => { results := [.lit (.bool false)], args := [d1, d2] }
  | _ => none }
def FnExactNodeTimeWrongFalsely : Prop := fnExactNodeTimeRow.holds Try.pinned (OpenSpec.ofChange fnExactNodeTimeWrong)

/-- 'laws.FnNode': WHATEVER THE INPUT: true; the input reads as it did. -/
def fnNodeSpec : ChangeSpec := { name := "fnNode", fn := fun _ => fun
  | [d] => { results := [.lit (.bool true)], args := [d] }
  | _ => none }
def fnNodeRow : OpenClaim := { program := "ytmpppmeloieamaa", sum := "06a34f5bdd4aa3e90e5f0ecf1e0d4aff307621d2d1dff5b69d833e30ef185c9d", func := "loop.example/g00946/laws.FnNode", spec := "fnNode", unfollowed := true, recurses := true, apart := false }
def FnNodeSaid : Prop := fnNodeRow.holds Try.pinned (OpenSpec.ofChange fnNodeSpec)

/-- ITS FALSE NEIGHBOUR: 'it returns false'. Refute it at one input. -/
def fnNodeWrong : ChangeSpec := { name := "fnNode", fn := fun _ => fun
  | [d] => { results := [.lit (.bool false)], args := [d] }
  | _ => none }
def FnNodeWrongFalsely : Prop := fnNodeRow.holds Try.pinned (OpenSpec.ofChange fnNodeWrong)

/- THE SECOND FORM. 'bulk': how many values and letters a reading holds, each counted each time it is reached (what is shared counts as often as it is met; a slice's spare places count too). A statement '..UptoSaid' is the law's where the arguments, and the package variables that the reading takes, are together of bulk at most 1048576: NARROWER than '..Said'. Prove '..Said' where nothing that the law and all that it calls make is longer than what came in: it says more and counts as full. Else prove '..UptoSaid'. A law counts once. -/
mutual
def uptoBulk {H : Type} : DataW H → Nat
  | .lit (.string bytes) => bytes.length + 1
  | .lit _ => 1
  | .nil => 1
  | .ptr d => uptoBulk d + 1
  | .slice elems spare => uptoBulkAll elems + uptoBulkAll spare + 1
  | .agg parts => uptoBulkAll parts + 1
  | .iface _ d => uptoBulk d + 1
  | .map entries => uptoBulkEntries entries + 1
  | .held _ => 1
def uptoBulkAll {H : Type} : List (DataW H) → Nat
  | [] => 0
  | d :: r => uptoBulk d + uptoBulkAll r
def uptoBulkEntries {H : Type} : List (Lit × DataW H) → Nat
  | [] => 0
  | x :: r => uptoBulkEntry x + uptoBulkEntries r
def uptoBulkEntry {H : Type} : Lit × DataW H → Nat
  | (.string bytes, d) => bytes.length + uptoBulk d + 1
  | (_, d) => uptoBulk d + 1
 end
def uptoSmall : (H : Type) → List (DataW H) → Bool := fun _ ds => decide (uptoBulkAll ds ≤ 1048576)
def OpenSpec.upto (s : _root_.Go.ChangeSpec) : _root_.Go.OpenSpec := { _root_.Go.OpenSpec.ofChange s with cond := some uptoSmall }

/-- 'laws.FnExactNodeStart', WHERE WHAT IT READS IS OF BULK AT MOST 1048576: true; the input reads as it did. -/
def fnExactNodeStartUptoRow : OpenClaim := { program := "ytmpppmeloieamaa", sum := "06a34f5bdd4aa3e90e5f0ecf1e0d4aff307621d2d1dff5b69d833e30ef185c9d", func := "loop.example/g00946/laws.FnExactNodeStart", spec := "fnExactNodeStart", unfollowed := true, recurses := true, apart := false, narrowed := true }
def FnExactNodeStartUptoSaid : Prop := fnExactNodeStartUptoRow.holds Try.pinned (OpenSpec.upto fnExactNodeStartSpec)

/-- 'laws.FnExactNodeGet', WHERE WHAT IT READS IS OF BULK AT MOST 1048576: true; the input reads as it did. -/
def fnExactNodeGetUptoRow : OpenClaim := { program := "ytmpppmeloieamaa", sum := "06a34f5bdd4aa3e90e5f0ecf1e0d4aff307621d2d1dff5b69d833e30ef185c9d", func := "loop.example/g00946/laws.FnExactNodeGet", spec := "fnExactNodeGet", unfollowed := true, recurses := true, apart := false, narrowed := true }
def FnExactNodeGetUptoSaid : Prop := fnExactNodeGetUptoRow.holds Try.pinned (OpenSpec.upto fnExactNodeGetSpec)

/-- 'laws.FnExactNodeTime', WHERE WHAT IT READS IS OF BULK AT MOST 1048576: true; the input reads as it did. -/
def fnExactNodeTimeUptoRow : OpenClaim := { program := "ytmpppmeloieamaa", sum := "06a34f5bdd4aa3e90e5f0ecf1e0d4aff307621d2d1dff5b69d833e30ef185c9d", func := "loop.example/g00946/laws.FnExactNodeTime", spec := "fnExactNodeTime", unfollowed := true, recurses := true, apart := false, narrowed := true }
def FnExactNodeTimeUptoSaid : Prop := fnExactNodeTimeUptoRow.holds Try.pinned (OpenSpec.upto fnExactNodeTimeSpec)

/-- 'laws.FnNode', WHERE WHAT IT READS IS OF BULK AT MOST 1048576: true; the input reads as it did. -/
def fnNodeUptoRow : OpenClaim := { program := "ytmpppmeloieamaa", sum := "06a34f5bdd4aa3e90e5f0ecf1e0d4aff307621d2d1dff5b69d833e30ef185c9d", func := "loop.example/g00946/laws.FnNode", spec := "fnNode", unfollowed := true, recurses := true, apart := false, narrowed := true }
def FnNodeUptoSaid : Prop := fnNodeUptoRow.holds Try.pinned (OpenSpec.upto fnNodeSpec)

end Rows
end Go.Proofs.Ytmpppmeloieamaa
