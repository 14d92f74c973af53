import Derived.Test.YteifmlmmfghjjaaW
import Derived.Laws.BitsLemmas
import Derived.WalkKit
import Derived.WalkSpells
import Derived.WalkLawsBesides
import Derived.Lib.Hide
namespace Go.Proofs.Yteifmlmmfghjjaa
open Go.RowKit
theorem infoU8 : (Try.prog.info? 5).map (fun i => (i.zero, i.size, i.bytes)) = some (some (.int .u8 0), 1, 1) := by kernel_rfl

theorem wrapP (k0 : Nat) (h1 : 1 ≤ k0) (h7 : k0 ≤ 7) : wrap64 (2 ^ (8 * k0)) = 256 ^ k0 := by
  rcases (by omega : k0 = 1 ∨ k0 = 2 ∨ k0 = 3 ∨ k0 = 4 ∨ k0 = 5 ∨ k0 = 6 ∨ k0 = 7) with rfl | rfl | rfl | rfl | rfl | rfl | rfl <;> decide +kernel
theorem wraps_i64 (n : Int) (h₀ : 0 ≤ n) (h₁ : n < 2 ^ 63) : IntKind.i64.wrap n = n := by rw [IntKind.wrap_i64]; omega
theorem i64_and255 (x : Int) (h₀ : 0 ≤ x) (h₁ : x < 2 ^ 63) : bits .and .i64 x 255 = x % 256 := bits_mask .i64 63 (by decide) wraps_i64 8 (by decide) x h₀ h₁
theorem drop_set {α : Type} (cur : Array α) (j : Nat) (v : α) (h : j < cur.size) : (cur.setIfInBounds j v).toList.drop j = v :: cur.toList.drop (j + 1) := by
  rw [Array.toList_setIfInBounds, List.drop_set]
  simp only [Nat.lt_irrefl, if_false, Nat.sub_self]
  rw [List.drop_eq_getElem_cons (by simpa using h)]
  rfl
def byteC (b : UInt8) : List Value := [.int .u8 b.toNat]

end Go.Proofs.Yteifmlmmfghjjaa
