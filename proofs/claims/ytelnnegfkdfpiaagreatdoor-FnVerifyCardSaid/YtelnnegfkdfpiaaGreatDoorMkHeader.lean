/- Marks in slices of Header, and their sizes (written by wip/mk.py). -/
import Derived.Test.YtelnnegfkdfpiaaGreatDoorFamHeader
import Derived.Test.YtelnnegfkdfpiaaGreatDoorChg
import Derived.WalkKit
import Derived.WalkSpells
import Derived.WalkLawsBesides
import Derived.Lib.Hide
namespace Go.Proofs.YtelnnegfkdfpiaaGreatDoor
open Go.RowKit

def markHeader (k : Nat) : HeaderD := ⟨(k : Int), (k : Int) + 1, markT (k + 2), markT (k + 3), markT (k + 4), markT (k + 5)⟩
def marksHeader (k n : Nat) : List HeaderD := (List.range n).map fun i => markHeader (k + i * 6)
theorem marksHeader_len (k n : Nat) : (marksHeader k n).length = n := by simp [marksHeader]
theorem marksHeader_at (k n i : Nat) (h : i < n) : (marksHeader k n)[i]? = some (markHeader (k + i * 6)) := by simp [marksHeader, h]



set_option maxHeartbeats 1000000 in
theorem szHeader_out (h t : Int) (last vals next data : ByteArray) (left : Int) (w : World) (s1 : last.size ≤ maxLen) (s2 : vals.size ≤ maxLen) (s3 : next.size ≤ maxLen) (s4 : data.size ≤ maxLen) (h0 : 0 ≤ left) (h1 : left ≤ 1048576) :
    Calls Tryz.prog 15 #[.agg #[.int .i64 h, .int .i64 t, .string last, .string vals, .string next, .string data], .int .i64 left] w (SzOut 0 left w) := by
  unfold maxLen at s1 s2 s3 s4
  have HB : Hid (Below w.heap.size w (w.alloc (.cells #[.int .i64 h, .int .i64 t, .string last, .string vals, .string next, .string data] 45))) := (Below.refl _ _).alloc (Nat.le_refl _) _
  by_cases c1 : left < last.size
  · go_enter Tryz.func15, Tryz.ntmps15
    go_wp2
    go_ret
    exact ⟨-1, rfl, by omega, by omega, by omega, HB.out⟩
  by_cases c2 : left - last.size < vals.size
  · go_enter Tryz.func15, Tryz.ntmps15
    go_wp2
    go_ret
    exact ⟨-1, rfl, by omega, by omega, by omega, HB.out⟩
  by_cases c3 : left - last.size - vals.size < next.size
  · go_enter Tryz.func15, Tryz.ntmps15
    go_wp2
    go_ret
    exact ⟨-1, rfl, by omega, by omega, by omega, HB.out⟩
  by_cases c4 : left - last.size - vals.size - next.size < data.size
  · go_enter Tryz.func15, Tryz.ntmps15
    go_wp2
    go_ret
    exact ⟨-1, rfl, by omega, by omega, by omega, HB.out⟩
  go_enter Tryz.func15, Tryz.ntmps15
  go_wp2
  go_ret
  exact ⟨left - last.size - vals.size - next.size - data.size, rfl, by omega, by omega, by omega, HB.out⟩

end Go.Proofs.YtelnnegfkdfpiaaGreatDoor
