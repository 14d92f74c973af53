/- l1Size: how great a draw may become. -/
import Derived.Test.YtjdknaipmboekaaDoorDraw
import Derived.WalkKit
import Derived.WalkSpells
import Derived.WalkLawsBesides
import Derived.Lib.Hide
namespace Go.Proofs.YtjdknaipmboekaaDoor
open Go.RowKit

def SizeOutS (m : Int) (w : World) (e : Ending) (w' : World) : Prop := ∃ x : Int, e = .returned (.int .i64 x) ∧ 0 ≤ x ∧ x ≤ m ∧ w = w'
set_option maxHeartbeats 1000000 in
theorem l1SizeS_any (A : Option Addr) (n c : Nat) (m : Int) (w : World) (hn : n ≤ 1048576) (h0 : 0 ≤ m) :
    Calls Tryd.prog 51 #[.slice A n c, .int .i64 m] w (SizeOutS m w) := by
  by_cases h : m < 2 + (n : Int) / 20
  · go_enter Tryd.func51, Tryd.ntmps51
    go_wp2
    go_ret
    exact ⟨m, rfl, h0, Int.le_refl _, rfl⟩
  · go_enter Tryd.func51, Tryd.ntmps51
    go_wp2
    go_ret
    exact ⟨2 + (n : Int) / 20, rfl, by omega, by omega, rfl⟩
end Go.Proofs.YtjdknaipmboekaaDoor
