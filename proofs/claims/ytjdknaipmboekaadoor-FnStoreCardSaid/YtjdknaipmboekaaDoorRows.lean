/-
  NARROWER THAN 'FOR EVERY INPUT', by the rows' own cells (each row's printed sentence says how): FnExactStoreOk: laid · FnExactStoreGet: laid · FnExactStoreSync: laid · FnExactStoreFall: laid · FnExactStoreAdd: laid · FnExactStorePrune: laid · FnStore: laid.
  DERIVED. THE GIVEN ROWS OF THIS SEAT. 7 by the template 'for every input the law returns true; each argument reads behind the call as it read before'; 0 by the template 'total and deterministic' (their statements: YtjdknaipmboekaaDoorTotals.lean).
  GIVEN WITH THE SEED: the statements are not yours to turn. If you find one false, say at which input.
  Laid BY PROGRAM, IN A SANDBOX (cutbox-rows.mjs): the forced cells as the released guide's own fill.sh prints them over the translation 5430ce6aef18d706… (all of the seat's roots in one cut). By AI agents, Wed Nov 11 2026. No macro, syntax, notation, axiom, sorry.
-/
import Derived.Test.YtjdknaipmboekaaDoorChecked
import GoSem.Claim
import GoSem.ClaimJoined
import GoSem.ClaimMapViews
import Derived.JoinedTies
import Derived.KernelRfl
namespace Go.Proofs.YtjdknaipmboekaaDoor
/- THE CELL 'sum', in the pinned program and in every row, IS THE sha256 OF THE DUMP (.gsa) THAT YtjdknaipmboekaaDoorProg.lean LOADS. Nothing in Lean hashes anything: it is a label: what it is worth is what the hold of that sum in a sandbox is worth. -/
noncomputable def Tryd.pinned : Pinned := { name := "ytjdknaipmboekaadoor", sum := "5430ce6aef18d70604b6f611de29d74622a3a04714f6838597bd572752155fd3", checked := Tryd.checked }
namespace Rows
def none {H : Type} : Left H := { results := [], args := [] }

/- WHAT THE LISTED PACKAGE-LEVEL VARIABLES READ AS WHEN THE CALL BEGINS. Each datum BY PROGRAM (the guide's laid-datum.mjs) off the statement by which the dump's own 'gosem.cut.vars' lays the variable. In a bare row this is a premise. The card (YtjdknaipmboekaaDoorCards.lean) ties it to the program's text. -/
def laid_loop_example_g00946_impl_shaWords {H : Type} : DataW H := .agg [.lit (.int .u32 1116352408), .lit (.int .u32 1899447441), .lit (.int .u32 3049323471), .lit (.int .u32 3921009573), .lit (.int .u32 961987163), .lit (.int .u32 1508970993), .lit (.int .u32 2453635748), .lit (.int .u32 2870763221), .lit (.int .u32 3624381080), .lit (.int .u32 310598401), .lit (.int .u32 607225278), .lit (.int .u32 1426881987), .lit (.int .u32 1925078388), .lit (.int .u32 2162078206), .lit (.int .u32 2614888103), .lit (.int .u32 3248222580), .lit (.int .u32 3835390401), .lit (.int .u32 4022224774), .lit (.int .u32 264347078), .lit (.int .u32 604807628), .lit (.int .u32 770255983), .lit (.int .u32 1249150122), .lit (.int .u32 1555081692), .lit (.int .u32 1996064986), .lit (.int .u32 2554220882), .lit (.int .u32 2821834349), .lit (.int .u32 2952996808), .lit (.int .u32 3210313671), .lit (.int .u32 3336571891), .lit (.int .u32 3584528711), .lit (.int .u32 113926993), .lit (.int .u32 338241895), .lit (.int .u32 666307205), .lit (.int .u32 773529912), .lit (.int .u32 1294757372), .lit (.int .u32 1396182291), .lit (.int .u32 1695183700), .lit (.int .u32 1986661051), .lit (.int .u32 2177026350), .lit (.int .u32 2456956037), .lit (.int .u32 2730485921), .lit (.int .u32 2820302411), .lit (.int .u32 3259730800), .lit (.int .u32 3345764771), .lit (.int .u32 3516065817), .lit (.int .u32 3600352804), .lit (.int .u32 4094571909), .lit (.int .u32 275423344), .lit (.int .u32 430227734), .lit (.int .u32 506948616), .lit (.int .u32 659060556), .lit (.int .u32 883997877), .lit (.int .u32 958139571), .lit (.int .u32 1322822218), .lit (.int .u32 1537002063), .lit (.int .u32 1747873779), .lit (.int .u32 1955562222), .lit (.int .u32 2024104815), .lit (.int .u32 2227730452), .lit (.int .u32 2361852424), .lit (.int .u32 2428436474), .lit (.int .u32 2756734187), .lit (.int .u32 3204031479), .lit (.int .u32 3329325298)]

/-- 'laws.FnExactStoreOk': WHATEVER THE INPUT: true; the input reads as it did. -/
def fnExactStoreOkSpec : ChangeSpec := { name := "fnExactStoreOk", vars := ["loop.example/g00946/impl.shaWords"], fn := fun _ => fun
  | [d, g1] => { results := [.lit (.bool true)], args := [d], vars := [g1] }
  | _ => none }
def fnExactStoreOkRow : OpenClaim := { program := "ytjdknaipmboekaadoor", sum := "5430ce6aef18d70604b6f611de29d74622a3a04714f6838597bd572752155fd3", func := "loop.example/g00946/laws.FnExactStoreOk", spec := "fnExactStoreOk", named := ["loop.example/g00946/impl.shaWords"], apart := false, laid := [("loop.example/g00946/impl.shaWords", laid_loop_example_g00946_impl_shaWords)] }
def FnExactStoreOkSaid : Prop := fnExactStoreOkRow.holds Tryd.pinned (OpenSpec.ofChange fnExactStoreOkSpec)

/-- ITS FALSE NEIGHBOUR: 'it returns false'. Refute it at one input. -/
def fnExactStoreOkWrong : ChangeSpec := { name := "fnExactStoreOk", vars := ["loop.example/g00946/impl.shaWords"], fn := fun _ => fun
  | [d, g1] => { results := [.lit (.bool false)], args := [d], vars := [g1] }
  | _ => none }
def FnExactStoreOkWrongFalsely : Prop := fnExactStoreOkRow.holds Tryd.pinned (OpenSpec.ofChange fnExactStoreOkWrong)

/-- 'laws.FnExactStoreGet': WHATEVER THE INPUT: true; the input reads as it did. -/
def fnExactStoreGetSpec : ChangeSpec := { name := "fnExactStoreGet", vars := ["loop.example/g00946/impl.shaWords"], fn := fun _ => fun
  | [d1, d2, g1] => { results := [.lit (.bool true)], args := [d1, d2], vars := [g1] }
  | _ => none }
def fnExactStoreGetRow : OpenClaim := { program := "ytjdknaipmboekaadoor", sum := "5430ce6aef18d70604b6f611de29d74622a3a04714f6838597bd572752155fd3", func := "loop.example/g00946/laws.FnExactStoreGet", spec := "fnExactStoreGet", named := ["loop.example/g00946/impl.shaWords"], apart := false, laid := [("loop.example/g00946/impl.shaWords", laid_loop_example_g00946_impl_shaWords)] }
def FnExactStoreGetSaid : Prop := fnExactStoreGetRow.holds Tryd.pinned (OpenSpec.ofChange fnExactStoreGetSpec)

/-- ITS FALSE NEIGHBOUR: 'it returns false'. Refute it at one input. -/
def fnExactStoreGetWrong : ChangeSpec := { name := "fnExactStoreGet", vars := ["loop.example/g00946/impl.shaWords"], fn := fun _ => fun
  | [d1, d2, g1] => { results := [.lit (.bool false)], args := [d1, d2], vars := [g1] }
  | _ => none }
def FnExactStoreGetWrongFalsely : Prop := fnExactStoreGetRow.holds Tryd.pinned (OpenSpec.ofChange fnExactStoreGetWrong)

/-- 'laws.FnExactStoreSync': WHATEVER THE INPUT: true; the input reads as it did. -/
def fnExactStoreSyncSpec : ChangeSpec := { name := "fnExactStoreSync", vars := ["loop.example/g00946/impl.shaWords"], fn := fun _ => fun
  | [d, g1] => { results := [.lit (.bool true)], args := [d], vars := [g1] }
  | _ => none }
def fnExactStoreSyncRow : OpenClaim := { program := "ytjdknaipmboekaadoor", sum := "5430ce6aef18d70604b6f611de29d74622a3a04714f6838597bd572752155fd3", func := "loop.example/g00946/laws.FnExactStoreSync", spec := "fnExactStoreSync", named := ["loop.example/g00946/impl.shaWords"], apart := false, laid := [("loop.example/g00946/impl.shaWords", laid_loop_example_g00946_impl_shaWords)] }
def FnExactStoreSyncSaid : Prop := fnExactStoreSyncRow.holds Tryd.pinned (OpenSpec.ofChange fnExactStoreSyncSpec)

/-- ITS FALSE NEIGHBOUR: 'it returns false'. Refute it at one input. -/
def fnExactStoreSyncWrong : ChangeSpec := { name := "fnExactStoreSync", vars := ["loop.example/g00946/impl.shaWords"], fn := fun _ => fun
  | [d, g1] => { results := [.lit (.bool false)], args := [d], vars := [g1] }
  | _ => none }
def FnExactStoreSyncWrongFalsely : Prop := fnExactStoreSyncRow.holds Tryd.pinned (OpenSpec.ofChange fnExactStoreSyncWrong)

/-- 'laws.FnExactStoreFall': WHATEVER THE INPUT: true; the input reads as it did. -/
def fnExactStoreFallSpec : ChangeSpec := { name := "fnExactStoreFall", vars := ["loop.example/g00946/impl.shaWords"], fn := fun _ => fun
  | [d1, d2, g1] => { results := [.lit (.bool true)], args := [d1, d2], vars := [g1] }
  | _ => none }
def fnExactStoreFallRow : OpenClaim := { program := "ytjdknaipmboekaadoor", sum := "5430ce6aef18d70604b6f611de29d74622a3a04714f6838597bd572752155fd3", func := "loop.example/g00946/laws.FnExactStoreFall", spec := "fnExactStoreFall", named := ["loop.example/g00946/impl.shaWords"], apart := false, laid := [("loop.example/g00946/impl.shaWords", laid_loop_example_g00946_impl_shaWords)] }
def FnExactStoreFallSaid : Prop := fnExactStoreFallRow.holds Tryd.pinned (OpenSpec.ofChange fnExactStoreFallSpec)

/-- ITS FALSE NEIGHBOUR: 'it returns false'. Refute it at one input. -/
def fnExactStoreFallWrong : ChangeSpec := { name := "fnExactStoreFall", vars := ["loop.example/g00946/impl.shaWords"], fn := fun _ => fun
  | [d1, d2, g1] => { results := [.lit (.bool false)], args := [d1, d2], vars := [g1] }
  | _ => none }
def FnExactStoreFallWrongFalsely : Prop := fnExactStoreFallRow.holds Tryd.pinned (OpenSpec.ofChange fnExactStoreFallWrong)

/-- 'laws.FnExactStoreAdd': WHATEVER THE INPUT: true; the input reads as it did. -/
def fnExactStoreAddSpec : ChangeSpec := { name := "fnExactStoreAdd", vars := ["loop.example/g00946/impl.shaWords"], fn := fun _ => fun
  | [d1, d2, g1] => { results := [.lit (.bool true)], args := [d1, d2], vars := [g1] }
  | _ => none }
def fnExactStoreAddRow : OpenClaim := { program := "ytjdknaipmboekaadoor", sum := "5430ce6aef18d70604b6f611de29d74622a3a04714f6838597bd572752155fd3", func := "loop.example/g00946/laws.FnExactStoreAdd", spec := "fnExactStoreAdd", named := ["loop.example/g00946/impl.shaWords"], apart := false, laid := [("loop.example/g00946/impl.shaWords", laid_loop_example_g00946_impl_shaWords)] }
def FnExactStoreAddSaid : Prop := fnExactStoreAddRow.holds Tryd.pinned (OpenSpec.ofChange fnExactStoreAddSpec)

/-- ITS FALSE NEIGHBOUR: 'it returns false'. Refute it at one input. -/
def fnExactStoreAddWrong : ChangeSpec := { name := "fnExactStoreAdd", vars := ["loop.example/g00946/impl.shaWords"], fn := fun _ => fun
  | [d1, d2, g1] => { results := [.lit (.bool false)], args := [d1, d2], vars := [g1] }
  | _ => none }
def FnExactStoreAddWrongFalsely : Prop := fnExactStoreAddRow.holds Tryd.pinned (OpenSpec.ofChange fnExactStoreAddWrong)

/-- 'laws.FnExactStorePrune': WHATEVER THE INPUT: true; the input reads as it did. -/
def fnExactStorePruneSpec : ChangeSpec := { name := "fnExactStorePrune", vars := ["loop.example/g00946/impl.shaWords"], fn := fun _ => fun
  | [d1, d2, g1] => { results := [.lit (.bool true)], args := [d1, d2], vars := [g1] }
  | _ => none }
def fnExactStorePruneRow : OpenClaim := { program := "ytjdknaipmboekaadoor", sum := "5430ce6aef18d70604b6f611de29d74622a3a04714f6838597bd572752155fd3", func := "loop.example/g00946/laws.FnExactStorePrune", spec := "fnExactStorePrune", named := ["loop.example/g00946/impl.shaWords"], apart := false, laid := [("loop.example/g00946/impl.shaWords", laid_loop_example_g00946_impl_shaWords)] }
def FnExactStorePruneSaid : Prop := fnExactStorePruneRow.holds Tryd.pinned (OpenSpec.ofChange fnExactStorePruneSpec)

/-- ITS FALSE NEIGHBOUR: 'it returns false'. Refute it at one input. -/
def fnExactStorePruneWrong : ChangeSpec := { name := "fnExactStorePrune", vars := ["loop.example/g00946/impl.shaWords"], fn := fun _ => fun
  | [d1, d2, g1] => { results := [.lit (.bool false)], args := [d1, d2], vars := [g1] }
  | _ => none }
def FnExactStorePruneWrongFalsely : Prop := fnExactStorePruneRow.holds Tryd.pinned (OpenSpec.ofChange fnExactStorePruneWrong)

/-- 'laws.FnStore': WHATEVER THE INPUT: true; the input reads as it did. -/
def fnStoreSpec : ChangeSpec := { name := "fnStore", vars := ["loop.example/g00946/impl.shaWords"], fn := fun _ => fun
  | [d, g1] => { results := [.lit (.bool true)], args := [d], vars := [g1] }
  | _ => none }
def fnStoreRow : OpenClaim := { program := "ytjdknaipmboekaadoor", sum := "5430ce6aef18d70604b6f611de29d74622a3a04714f6838597bd572752155fd3", func := "loop.example/g00946/laws.FnStore", spec := "fnStore", named := ["loop.example/g00946/impl.shaWords"], apart := false, laid := [("loop.example/g00946/impl.shaWords", laid_loop_example_g00946_impl_shaWords)] }
def FnStoreSaid : Prop := fnStoreRow.holds Tryd.pinned (OpenSpec.ofChange fnStoreSpec)

/-- ITS FALSE NEIGHBOUR: 'it returns false'. Refute it at one input. -/
def fnStoreWrong : ChangeSpec := { name := "fnStore", vars := ["loop.example/g00946/impl.shaWords"], fn := fun _ => fun
  | [d, g1] => { results := [.lit (.bool false)], args := [d], vars := [g1] }
  | _ => none }
def FnStoreWrongFalsely : Prop := fnStoreRow.holds Tryd.pinned (OpenSpec.ofChange fnStoreWrong)

/- THE SECOND FORM. 'bulk': how many values and letters a reading holds, each counted each time it is reached (what is shared counts as often as it is met; a slice's spare places count too). A statement '..UptoSaid' is the law's where the arguments, and the package variables that the reading takes, are together of bulk at most 1048576: NARROWER than '..Said'. Prove '..Said' where nothing that the law and all that it calls make is longer than what came in: it says more and counts as full. Else prove '..UptoSaid'. A law counts once. -/
mutual
def uptoBulk {H : Type} : DataW H → Nat
  | .lit (.string bytes) => bytes.length + 1
  | .lit _ => 1
  | .nil => 1
  | .ptr d => uptoBulk d + 1
  | .slice elems spare => uptoBulkAll elems + uptoBulkAll spare + 1
  | .agg parts => uptoBulkAll parts + 1
  | .iface _ d => uptoBulk d + 1
  | .map entries => uptoBulkEntries entries + 1
  | .held _ => 1
def uptoBulkAll {H : Type} : List (DataW H) → Nat
  | [] => 0
  | d :: r => uptoBulk d + uptoBulkAll r
def uptoBulkEntries {H : Type} : List (Lit × DataW H) → Nat
  | [] => 0
  | x :: r => uptoBulkEntry x + uptoBulkEntries r
def uptoBulkEntry {H : Type} : Lit × DataW H → Nat
  | (.string bytes, d) => bytes.length + uptoBulk d + 1
  | (_, d) => uptoBulk d + 1
 end
def uptoSmall : (H : Type) → List (DataW H) → Bool := fun _ ds => decide (uptoBulkAll ds ≤ 1048576)
def OpenSpec.upto (s : _root_.Go.ChangeSpec) : _root_.Go.OpenSpec := { _root_.Go.OpenSpec.ofChange s with cond := some uptoSmall }

/-- 'laws.FnExactStoreOk', WHERE WHAT IT READS IS OF BULK AT MOST 1048576: true; the input reads as it did. -/
def fnExactStoreOkUptoRow : OpenClaim := { program := "ytjdknaipmboekaadoor", sum := "5430ce6aef18d70604b6f611de29d74622a3a04714f6838597bd572752155fd3", func := "loop.example/g00946/laws.FnExactStoreOk", spec := "fnExactStoreOk", named := ["loop.example/g00946/impl.shaWords"], apart := false, laid := [("loop.example/g00946/impl.shaWords", laid_loop_example_g00946_impl_shaWords)], narrowed := true }
def FnExactStoreOkUptoSaid : Prop := fnExactStoreOkUptoRow.holds Tryd.pinned (OpenSpec.upto fnExactStoreOkSpec)

/-- 'laws.FnExactStoreGet', WHERE WHAT IT READS IS OF BULK AT MOST 1048576: true; the input reads as it did. -/
def fnExactStoreGetUptoRow : OpenClaim := { program := "ytjdknaipmboekaadoor", sum := "5430ce6aef18d70604b6f611de29d74622a3a04714f6838597bd572752155fd3", func := "loop.example/g00946/laws.FnExactStoreGet", spec := "fnExactStoreGet", named := ["loop.example/g00946/impl.shaWords"], apart := false, laid := [("loop.example/g00946/impl.shaWords", laid_loop_example_g00946_impl_shaWords)], narrowed := true }
def FnExactStoreGetUptoSaid : Prop := fnExactStoreGetUptoRow.holds Tryd.pinned (OpenSpec.upto fnExactStoreGetSpec)

/-- 'laws.FnExactStoreSync', WHERE WHAT IT READS IS OF BULK AT MOST 1048576: true; the input reads as it did. -/
def fnExactStoreSyncUptoRow : OpenClaim := { program := "ytjdknaipmboekaadoor", sum := "5430ce6aef18d70604b6f611de29d74622a3a04714f6838597bd572752155fd3", func := "loop.example/g00946/laws.FnExactStoreSync", spec := "fnExactStoreSync", named := ["loop.example/g00946/impl.shaWords"], apart := false, laid := [("loop.example/g00946/impl.shaWords", laid_loop_example_g00946_impl_shaWords)], narrowed := true }
def FnExactStoreSyncUptoSaid : Prop := fnExactStoreSyncUptoRow.holds Tryd.pinned (OpenSpec.upto fnExactStoreSyncSpec)

/-- 'laws.FnExactStoreFall', WHERE WHAT IT READS IS OF BULK AT MOST 1048576: true; the input reads as it did. -/
def fnExactStoreFallUptoRow : OpenClaim := { program := "ytjdknaipmboekaadoor", sum := "5430ce6aef18d70604b6f611de29d74622a3a04714f6838597bd572752155fd3", func := "loop.example/g00946/laws.FnExactStoreFall", spec := "fnExactStoreFall", named := ["loop.example/g00946/impl.shaWords"], apart := false, laid := [("loop.example/g00946/impl.shaWords", laid_loop_example_g00946_impl_shaWords)], narrowed := true }
def FnExactStoreFallUptoSaid : Prop := fnExactStoreFallUptoRow.holds Tryd.pinned (OpenSpec.upto fnExactStoreFallSpec)

/-- 'laws.FnExactStoreAdd', WHERE WHAT IT READS IS OF BULK AT MOST 1048576: true; the input reads as it did. -/
def fnExactStoreAddUptoRow : OpenClaim := { program := "ytjdknaipmboekaadoor", sum := "5430ce6aef18d70604b6f611de29d74622a3a04714f6838597bd572752155fd3", func := "loop.example/g00946/laws.FnExactStoreAdd", spec := "fnExactStoreAdd", named := ["loop.example/g00946/impl.shaWords"], apart := false, laid := [("loop.example/g00946/impl.shaWords", laid_loop_example_g00946_impl_shaWords)], narrowed := true }
def FnExactStoreAddUptoSaid : Prop := fnExactStoreAddUptoRow.holds Tryd.pinned (OpenSpec.upto fnExactStoreAddSpec)

/-- 'laws.FnExactStorePrune', WHERE WHAT IT READS IS OF BULK AT MOST 1048576: true; the input reads as it did. -/
def fnExactStorePruneUptoRow : OpenClaim := { program := "ytjdknaipmboekaadoor", sum := "5430ce6aef18d70604b6f611de29d74622a3a04714f6838597bd572752155fd3", func := "loop.example/g00946/laws.FnExactStorePrune", spec := "fnExactStorePrune", named := ["loop.example/g00946/impl.shaWords"], apart := false, laid := [("loop.example/g00946/impl.shaWords", laid_loop_example_g00946_impl_shaWords)], narrowed := true }
def FnExactStorePruneUptoSaid : Prop := fnExactStorePruneUptoRow.holds Tryd.pinned (OpenSpec.upto fnExactStorePruneSpec)

/-- 'laws.FnStore', WHERE WHAT IT READS IS OF BULK AT MOST 1048576: true; the input reads as it did. -/
def fnStoreUptoRow : OpenClaim := { program := "ytjdknaipmboekaadoor", sum := "5430ce6aef18d70604b6f611de29d74622a3a04714f6838597bd572752155fd3", func := "loop.example/g00946/laws.FnStore", spec := "fnStore", named := ["loop.example/g00946/impl.shaWords"], apart := false, laid := [("loop.example/g00946/impl.shaWords", laid_loop_example_g00946_impl_shaWords)], narrowed := true }
def FnStoreUptoSaid : Prop := fnStoreUptoRow.holds Tryd.pinned (OpenSpec.upto fnStoreSpec)

end Rows
end Go.Proofs.YtjdknaipmboekaaDoor
