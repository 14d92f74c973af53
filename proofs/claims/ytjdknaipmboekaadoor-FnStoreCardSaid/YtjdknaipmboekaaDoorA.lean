/- Contracts of the number predicates and the trust period's functions: within, l1In, isTime, TrustOk, Expires, Fresh, TimeLeft, of the program and of the reference. -/
import Derived.Test.YtjdknaipmboekaaDoorRows
import Derived.WalkKit
import Derived.WalkSpells
import Derived.WalkLawsBesides
import Derived.Lib.Hide
namespace Go.Proofs.YtjdknaipmboekaaDoor
open Go.RowKit

theorem bcell {W w1 : World} (hb : Below W.heap.size W w1) : (∀ b o, b < W.heap.size → w1.cell? ⟨b, o, none⟩ = W.cell? ⟨b, o, none⟩) ∧ (∀ b o, b < W.heap.size → w1.frozen? ⟨b, o, none⟩ = W.frozen? ⟨b, o, none⟩) ∧ W.heap.size ≤ w1.heap.size :=
  ⟨fun b o h => hb.cell (p := ⟨b, o, none⟩) h, fun b o h => hb.frozen (p := ⟨b, o, none⟩) h, hb.size⟩

theorem nlt {a b n : Nat} (h : a + (n + 1) ≤ b) : a < b ∧ ∀ k, k < n + 1 → a + k < b := ⟨by omega, fun k hk => by omega⟩

theorem quiet_sym {P : Program} {f : FuncId} {args : Array Value} {w : World} {n : Nat} {v : Value}
    (h : Calls P f args (w.drewN n) fun e w' => e = .returned v ∧ w.drewN n = w') : Calls P f args (w.drewN n) fun e w'' => e = .returned v ∧ ∃ m, w'' = w.drewN m :=
  h.mono fun _ _ ⟨he, hm⟩ => ⟨he, n, hm.symm⟩

theorem belN {B : Nat} {a w : World} (h : Below B a w) (n : Nat) : Below B a (w.drewN n) := ⟨h.os, h.tape, h.output, h.size, h.block⟩

/-- from lo to hi -/
def inB (x lo hi : Int) : Bool := decide (lo ≤ x) && decide (x ≤ hi)

theorem inB_iff (x lo hi : Int) : inB x lo hi = true ↔ lo ≤ x ∧ x ≤ hi := by simp [inB]

theorem within_any (x lo hi : Int) (w : World) :
    Calls Tryd.prog 43 #[.int .i64 x, .int .i64 lo, .int .i64 hi] w fun e w' => e = .returned (.bool (inB x lo hi)) ∧ w = w' := by
  unfold inB
  go_enter Tryd.func43, Tryd.ntmps43
  go_wp2
  all_goals (go_ret; simp [*])
  all_goals omega
theorem l1In_any (x lo hi : Int) (w : World) :
    Calls Tryd.prog 37 #[.int .i64 x, .int .i64 lo, .int .i64 hi] w fun e w' => e = .returned (.bool (inB x lo hi)) ∧ w = w' := by
  unfold inB
  go_enter Tryd.func37, Tryd.ntmps37
  go_wp2
  all_goals (go_ret; simp [*])
  all_goals omega
theorem isTime_any (x : Int) (w : World) :
    Calls Tryd.prog 57 #[.int .i64 x] w fun e w' => e = .returned (.bool (inB x 0 1000000)) ∧ w = w' := by
  go_enter Tryd.func57, Tryd.ntmps57
  go_wp2_with ((refine (within_any _ _ _ _).mono ?_; rintro e w' ⟨rfl, rfl⟩))
  go_ret; exact ⟨rfl, rfl⟩
theorem isHeight_any (x : Int) (w : World) :
    Calls Tryd.prog 56 #[.int .i64 x] w fun e w' => e = .returned (.bool (inB x 1 1000000)) ∧ w = w' := by
  go_enter Tryd.func56, Tryd.ntmps56
  go_wp2_with ((refine (within_any _ _ _ _).mono ?_; rintro e w' ⟨rfl, rfl⟩))
  go_ret; exact ⟨rfl, rfl⟩

def trustB (p s : Int) : Bool := inB p 1 100000 && inB s 0 1000


def expiresN (p s t : Int) : Int := if (trustB p s && inB t 0 1000000) = true then t + p else -1
theorem expiresN_yes (p s t : Int) (h1 : trustB p s = true) (h2 : inB t 0 1000000 = true) : expiresN p s t = t + p := by simp [expiresN, h1, h2]
theorem trustB_bd {p s : Int} (h : trustB p s = true) : 1 ≤ p ∧ p ≤ 100000 ∧ 0 ≤ s ∧ s ≤ 1000 := by
  simp [trustB, inB] at h; omega
theorem inB_bd {x lo hi : Int} (h : inB x lo hi = true) : lo ≤ x ∧ x ≤ hi := (inB_iff _ _ _).1 h

def freshB (p s t n : Int) : Bool := trustB p s && inB t 0 1000000 && inB n 0 1000000 && decide (n ≤ t + p) && decide (t ≤ n + s)

def leftN (p s t n : Int) : Int := if (trustB p s && inB t 0 1000000 && inB n 0 1000000 && decide (n < t + p)) = true then t + p - n else 0
end Go.Proofs.YtjdknaipmboekaaDoor
