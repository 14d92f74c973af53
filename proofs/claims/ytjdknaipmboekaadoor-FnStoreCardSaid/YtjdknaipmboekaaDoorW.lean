/- Fixed-width numbers as bytes. -/
import Derived.Test.YtjdknaipmboekaaDoorBytes
import Derived.WalkKit
import Derived.WalkSpells
import Derived.WalkLawsBesides
import Derived.Lib.Hide
namespace Go.Proofs.YtjdknaipmboekaaDoor
open Go.RowKit

/-- the k low bytes of n, the greatest first -/
def be : Nat → Int → List UInt8
  | 0, _ => []
  | k + 1, n => UInt8.ofNat (n / 256 ^ k % 256).toNat :: be k n
theorem be_len (k : Nat) (n : Int) : (be k n).length = k := by induction k with
  | zero => rfl
  | succ k ih => simp [be, ih]

theorem q_bound (n : Int) (k : Nat) (h0 : 0 ≤ n) : 0 ≤ n / 256 ^ k ∧ n / 256 ^ k ≤ n :=
  ⟨Int.ediv_nonneg h0 (Int.pow_nonneg (by decide)), Int.ediv_le_self _ h0⟩
theorem q_next (n : Int) (k : Nat) : n / 256 ^ k / 256 = n / 256 ^ (k + 1) := by
  rw [Int.pow_succ, Int.ediv_ediv_of_nonneg (Int.pow_nonneg (by decide))]
theorem pow7 (k : Nat) (h : k ≤ 7) : (256 : Int) ^ k ≤ 72057594037927936 := by
  rcases (by omega : k = 0 ∨ k = 1 ∨ k = 2 ∨ k = 3 ∨ k = 4 ∨ k = 5 ∨ k = 6 ∨ k = 7) with rfl | rfl | rfl | rfl | rfl | rfl | rfl | rfl <;> decide

end Go.Proofs.YtjdknaipmboekaaDoor
