/- The hash of a text, told in plain Lean: the padding, the blocks, the bytes. -/
import Derived.Test.YtelnnegfkdfpiaaGreatDoorSha2
import Derived.WalkKit
import Derived.WalkSpells
import Derived.WalkLawsBesides
import Derived.Lib.Hide
namespace Go.Proofs.YtelnnegfkdfpiaaGreatDoor
open Go.RowKit

def zN (n : Nat) : Nat := (64 - (n + 9) % 64) % 64
def padL (l : List UInt8) : List UInt8 := l ++ (128 :: (List.replicate (zN l.length + 1) 0 ++ be 7 (8 * (l.length : Int))))
def st0 : St := ⟨1779033703, 3144134277, 1013904242, 2773480762, 1359893119, 2600822924, 528734635, 1541459225⟩
def shaFold (p : List UInt8) : Nat → St
  | 0 => st0
  | k + 1 => blkS ((p.drop (64 * k)).take 64) (shaFold p k)
def outS (v : St) : List UInt8 := v.l.flatMap fun x => be 4 x.toNat
def shaL (l : List UInt8) : List UInt8 := outS (shaFold (padL l) ((padL l).length / 64))
theorem padL_len (l : List UInt8) : (padL l).length = 64 * ((padL l).length / 64) := by
  have : (padL l).length = l.length + 9 + zN l.length := by
    unfold padL
    simp only [List.length_append, List.length_cons, List.length_replicate, be_len]
    omega
  rw [this]; unfold zN; omega
theorem padL_bd (l : List UInt8) : (padL l).length ≤ l.length + 73 := by
  unfold padL
  simp only [List.length_append, List.length_cons, List.length_replicate, be_len]
  unfold zN; omega
theorem outS_len (v : St) : (outS v).length = 32 := by
  unfold outS St.l
  simp [be_len]
theorem shaL_len (l : List UInt8) : (shaL l).length = 32 := outS_len _
theorem be4_lt (x : W32) : (x.toNat : Int) < 256 ^ 4 := by have := w32_lt x; show (x.toNat : Int) < 4294967296; omega
theorem extract_list64 (s : ByteArray) (a b : Nat) : (s.extract a b).data.toList = (s.data.toList.drop a).take (b - a) := by
  rw [ByteArray.data_extract, Array.toList_extract, List.extract_eq_take_drop]
def bytesTo (v : St) (k : Nat) : List UInt8 := (v.l.take k).flatMap fun x => be 4 x.toNat
theorem bytesTo_len (v : St) (k : Nat) (hk : k ≤ 8) : (bytesTo v k).length = 4 * k := by
  unfold bytesTo
  rw [List.length_flatMap]
  simp only [be_len]
  rw [List.map_const', List.sum_replicate_nat, List.length_take]
  have : v.l.length = 8 := rfl
  omega
theorem bytesTo_next (v : St) (k : Nat) (hk : k < 8) : bytesTo v (k + 1) = bytesTo v k ++ be 4 (v.l.getD k 0).toNat := by
  unfold bytesTo
  have hl : v.l.length = 8 := rfl
  rw [List.take_succ_eq_append_getElem (by omega), List.flatMap_append]
  simp [List.getD_eq_getElem?_getD, List.getElem?_eq_getElem (show k < v.l.length by omega)]
theorem bytesTo_all (v : St) : bytesTo v 8 = outS v := by
  unfold bytesTo outS
  rfl
theorem list_bytes (s : ByteArray) : s = ⟨s.data.toList.toArray⟩ := by apply ByteArray.ext; simp
theorem size_list (s : ByteArray) : s.size = s.data.toList.length := by simp
end Go.Proofs.YtelnnegfkdfpiaaGreatDoor
