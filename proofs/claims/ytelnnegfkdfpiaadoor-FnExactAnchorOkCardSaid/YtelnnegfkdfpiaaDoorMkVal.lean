/- Marks in slices of Val, and their sizes (written by wip/mk.py). -/
import Derived.Test.YtelnnegfkdfpiaaDoorFamVal
import Derived.Test.YtelnnegfkdfpiaaDoorChg
import Derived.WalkKit
import Derived.WalkSpells
import Derived.WalkLawsBesides
import Derived.Lib.Hide
namespace Go.Proofs.YtelnnegfkdfpiaaDoor
open Go.RowKit

def markVal (k : Nat) : ValD := ⟨(k : Int), (k : Int) + 1⟩
def marksVal (k n : Nat) : List ValD := (List.range n).map fun i => markVal (k + i * 2)
theorem marksVal_len (k n : Nat) : (marksVal k n).length = n := by simp [marksVal]
theorem marksVal_at (k n i : Nat) (h : i < n) : (marksVal k n)[i]? = some (markVal (k + i * 2)) := by simp [marksVal, h]


end Go.Proofs.YtelnnegfkdfpiaaDoor
