/- Contracts of the number predicates and the trust period's functions: within, l1In, isTime, TrustOk, Expires, Fresh, TimeLeft, of the program and of the reference. -/
import Derived.Test.YtelnnegfkdfpiaaGreatDoorRows
import Derived.WalkKit
import Derived.WalkSpells
import Derived.WalkLawsBesides
import Derived.Lib.Hide
namespace Go.Proofs.YtelnnegfkdfpiaaGreatDoor
open Go.RowKit

theorem bcell {W w1 : World} (hb : Below W.heap.size W w1) : (∀ b o, b < W.heap.size → w1.cell? ⟨b, o, none⟩ = W.cell? ⟨b, o, none⟩) ∧ (∀ b o, b < W.heap.size → w1.frozen? ⟨b, o, none⟩ = W.frozen? ⟨b, o, none⟩) ∧ W.heap.size ≤ w1.heap.size :=
  ⟨fun b o h => hb.cell (p := ⟨b, o, none⟩) h, fun b o h => hb.frozen (p := ⟨b, o, none⟩) h, hb.size⟩

theorem nlt {a b n : Nat} (h : a + (n + 1) ≤ b) : a < b ∧ ∀ k, k < n + 1 → a + k < b := ⟨by omega, fun k hk => by omega⟩

theorem quiet_sym {P : Program} {f : FuncId} {args : Array Value} {w : World} {n : Nat} {v : Value}
    (h : Calls P f args (w.drewN n) fun e w' => e = .returned v ∧ w.drewN n = w') : Calls P f args (w.drewN n) fun e w'' => e = .returned v ∧ ∃ m, w'' = w.drewN m :=
  h.mono fun _ _ ⟨he, hm⟩ => ⟨he, n, hm.symm⟩

theorem belN {B : Nat} {a w : World} (h : Below B a w) (n : Nat) : Below B a (w.drewN n) := ⟨h.os, h.tape, h.output, h.size, h.block⟩

/-- from lo to hi -/
def inB (x lo hi : Int) : Bool := decide (lo ≤ x) && decide (x ≤ hi)

theorem inB_iff (x lo hi : Int) : inB x lo hi = true ↔ lo ≤ x ∧ x ≤ hi := by simp [inB]

theorem within_any (x lo hi : Int) (w : World) :
    Calls Tryz.prog 88 #[.int .i64 x, .int .i64 lo, .int .i64 hi] w fun e w' => e = .returned (.bool (inB x lo hi)) ∧ w = w' := by
  unfold inB
  go_enter Tryz.func88, Tryz.ntmps88
  go_wp2
  all_goals (go_ret; simp [*])
  all_goals omega
theorem l1In_any (x lo hi : Int) (w : World) :
    Calls Tryz.prog 75 #[.int .i64 x, .int .i64 lo, .int .i64 hi] w fun e w' => e = .returned (.bool (inB x lo hi)) ∧ w = w' := by
  unfold inB
  go_enter Tryz.func75, Tryz.ntmps75
  go_wp2
  all_goals (go_ret; simp [*])
  all_goals omega
theorem isTime_any (x : Int) (w : World) :
    Calls Tryz.prog 70 #[.int .i64 x] w fun e w' => e = .returned (.bool (inB x 0 1000000)) ∧ w = w' := by
  go_enter Tryz.func70, Tryz.ntmps70
  go_wp2_with ((refine (within_any _ _ _ _).mono ?_; rintro e w' ⟨rfl, rfl⟩))
  go_ret; exact ⟨rfl, rfl⟩
theorem l10Time_any (x : Int) (w : World) :
    Calls Tryz.prog 43 #[.int .i64 x] w fun e w' => e = .returned (.bool (inB x 0 1000000)) ∧ w = w' := by
  go_enter Tryz.func43, Tryz.ntmps43
  go_wp2_with ((refine (l1In_any _ _ _ _).mono ?_; rintro e w' ⟨rfl, rfl⟩))
  go_ret; exact ⟨rfl, rfl⟩
theorem isHeight_any (x : Int) (w : World) :
    Calls Tryz.prog 89 #[.int .i64 x] w fun e w' => e = .returned (.bool (inB x 1 1000000)) ∧ w = w' := by
  go_enter Tryz.func89, Tryz.ntmps89
  go_wp2_with ((refine (within_any _ _ _ _).mono ?_; rintro e w' ⟨rfl, rfl⟩))
  go_ret; exact ⟨rfl, rfl⟩
theorem isVal_any (x : Int) (w : World) :
    Calls Tryz.prog 123 #[.int .i64 x] w fun e w' => e = .returned (.bool (inB x 1 99)) ∧ w = w' := by
  go_enter Tryz.func123, Tryz.ntmps123
  go_wp2_with ((refine (within_any _ _ _ _).mono ?_; rintro e w' ⟨rfl, rfl⟩))
  go_ret; exact ⟨rfl, rfl⟩

def trustB (p s : Int) : Bool := inB p 1 100000 && inB s 0 1000

theorem TrustOk_any (p s : Int) (w : World) :
    Calls Tryz.prog 67 #[.agg #[.int .i64 p, .int .i64 s]] w fun e w' => e = .returned (.bool (trustB p s)) ∧ Below w.heap.size w w' := by
  unfold trustB
  go_enter Tryz.func67, Tryz.ntmps67
  go_wp2_with ((refine (within_any _ _ _ _).mono ?_; rintro e w' ⟨rfl, rfl⟩))
  all_goals (go_ret; exact ⟨by simp [*], (by repeat (first | exact Below.refl _ _ | assumption | refine Below.drew ?_ | refine belN ?_ _ | refine Below.alloc ?_ (by first | exact Nat.le_refl _ | (simp; done) | (simp; omega) | omega) _ | refine Below.setCell ?_ (by first | exact Nat.le_refl _ | (simp; done) | (simp; omega) | omega) _ | refine Below.trans ?_ (Below.mono (by assumption) (by first | exact Nat.le_refl _ | (simp; done) | (simp; omega) | omega))))⟩)
theorem sTrustOk_any (p s : Int) (w : World) :
    Calls Tryz.prog 41 #[.agg #[.int .i64 p, .int .i64 s]] w fun e w' => e = .returned (.bool (trustB p s)) ∧ Below w.heap.size w w' := by
  unfold trustB
  go_enter Tryz.func41, Tryz.ntmps41
  go_wp2_with ((refine (l1In_any _ _ _ _).mono ?_; rintro e w' ⟨rfl, rfl⟩))
  all_goals (go_ret; exact ⟨by simp [*], (by repeat (first | exact Below.refl _ _ | assumption | refine Below.drew ?_ | refine belN ?_ _ | refine Below.alloc ?_ (by first | exact Nat.le_refl _ | (simp; done) | (simp; omega) | omega) _ | refine Below.setCell ?_ (by first | exact Nat.le_refl _ | (simp; done) | (simp; omega) | omega) _ | refine Below.trans ?_ (Below.mono (by assumption) (by first | exact Nat.le_refl _ | (simp; done) | (simp; omega) | omega))))⟩)
theorem toTrust_any (p s : Int) (w : World) :
    Calls Tryz.prog 18 #[.agg #[.int .i64 p, .int .i64 s]] w fun e w' => e = .returned (.agg #[.int .i64 p, .int .i64 s]) ∧ Below w.heap.size w w' := by
  go_enter Tryz.func18, Tryz.ntmps18
  go_wp2
  exact bodyPost_ret (v := .agg #[.int .i64 p, .int .i64 s]) (by simp [results, Tryz.results18, go_sem]) rfl ⟨rfl, (by repeat (first | exact Below.refl _ _ | assumption | refine Below.drew ?_ | refine belN ?_ _ | refine Below.alloc ?_ (by first | exact Nat.le_refl _ | (simp; done) | (simp; omega) | omega) _ | refine Below.setCell ?_ (by first | exact Nat.le_refl _ | (simp; done) | (simp; omega) | omega) _ | refine Below.trans ?_ (Below.mono (by assumption) (by first | exact Nat.le_refl _ | (simp; done) | (simp; omega) | omega))))⟩

def expiresN (p s t : Int) : Int := if (trustB p s && inB t 0 1000000) = true then t + p else -1
theorem expiresN_yes (p s t : Int) (h1 : trustB p s = true) (h2 : inB t 0 1000000 = true) : expiresN p s t = t + p := by simp [expiresN, h1, h2]
theorem trustB_bd {p s : Int} (h : trustB p s = true) : 1 ≤ p ∧ p ≤ 100000 ∧ 0 ≤ s ∧ s ≤ 1000 := by
  simp [trustB, inB] at h; omega
theorem inB_bd {x lo hi : Int} (h : inB x lo hi = true) : lo ≤ x ∧ x ≤ hi := (inB_iff _ _ _).1 h
theorem Expires_any (p s t : Int) (w : World) :
    Calls Tryz.prog 71 #[.agg #[.int .i64 p, .int .i64 s], .int .i64 t] w fun e w' => e = .returned (.int .i64 (expiresN p s t)) ∧ Below w.heap.size w w' := by
  cases h1 : trustB p s
  · have HE : Hid (expiresN p s t = -1) := by show _ = _; simp [expiresN, h1]
    go_enter Tryz.func71, Tryz.ntmps71
    go_wp2_with (first | (go_at_call 67; (refine (TrustOk_any _ _ _).mono ?_; rintro e w1 ⟨rfl, hb⟩; obtain ⟨hc, hf, hz⟩ := bcell hb; (try simp only [World.size_drew] at hz); (try simp only [World.size_alloc] at hz); have hy := nlt (by omega : w.heap.size + 1 ≤ w1.heap.size))) | (go_at_call 70; (refine (isTime_any _ _).mono ?_; rintro e w' ⟨rfl, rfl⟩)))
    go_ret; exact ⟨by rw [HE.out]; rfl, (by repeat (first | exact Below.refl _ _ | assumption | refine Below.drew ?_ | refine belN ?_ _ | refine Below.alloc ?_ (by first | exact Nat.le_refl _ | (simp; done) | (simp; omega) | omega) _ | refine Below.setCell ?_ (by first | exact Nat.le_refl _ | (simp; done) | (simp; omega) | omega) _ | refine Below.trans ?_ (Below.mono (by assumption) (by first | exact Nat.le_refl _ | (simp; done) | (simp; omega) | omega))))⟩
  · cases h2 : inB t 0 1000000
    · have HE : Hid (expiresN p s t = -1) := by show _ = _; simp [expiresN, h1, h2]
      go_enter Tryz.func71, Tryz.ntmps71
      go_wp2_with (first | (go_at_call 67; (refine (TrustOk_any _ _ _).mono ?_; rintro e w1 ⟨rfl, hb⟩; obtain ⟨hc, hf, hz⟩ := bcell hb; (try simp only [World.size_drew] at hz); (try simp only [World.size_alloc] at hz); have hy := nlt (by omega : w.heap.size + 1 ≤ w1.heap.size))) | (go_at_call 70; (refine (isTime_any _ _).mono ?_; rintro e w' ⟨rfl, rfl⟩)))
      go_ret; exact ⟨by rw [HE.out]; rfl, (by repeat (first | exact Below.refl _ _ | assumption | refine Below.drew ?_ | refine belN ?_ _ | refine Below.alloc ?_ (by first | exact Nat.le_refl _ | (simp; done) | (simp; omega) | omega) _ | refine Below.setCell ?_ (by first | exact Nat.le_refl _ | (simp; done) | (simp; omega) | omega) _ | refine Below.trans ?_ (Below.mono (by assumption) (by first | exact Nat.le_refl _ | (simp; done) | (simp; omega) | omega))))⟩
    · have b1 := trustB_bd h1
      have b2 := inB_bd h2
      have HE := Lib.hid (expiresN_yes p s t h1 h2)
      go_enter Tryz.func71, Tryz.ntmps71
      go_wp2_with (first | (go_at_call 67; (refine (TrustOk_any _ _ _).mono ?_; rintro e w1 ⟨rfl, hb⟩; obtain ⟨hc, hf, hz⟩ := bcell hb; (try simp only [World.size_drew] at hz); (try simp only [World.size_alloc] at hz); have hy := nlt (by omega : w.heap.size + 1 ≤ w1.heap.size))) | (go_at_call 70; (refine (isTime_any _ _).mono ?_; rintro e w' ⟨rfl, rfl⟩)))
      go_ret; exact ⟨by rw [HE.out]; rfl, (by repeat (first | exact Below.refl _ _ | assumption | refine Below.drew ?_ | refine belN ?_ _ | refine Below.alloc ?_ (by first | exact Nat.le_refl _ | (simp; done) | (simp; omega) | omega) _ | refine Below.setCell ?_ (by first | exact Nat.le_refl _ | (simp; done) | (simp; omega) | omega) _ | refine Below.trans ?_ (Below.mono (by assumption) (by first | exact Nat.le_refl _ | (simp; done) | (simp; omega) | omega))))⟩

def freshB (p s t n : Int) : Bool := trustB p s && inB t 0 1000000 && inB n 0 1000000 && decide (n ≤ t + p) && decide (t ≤ n + s)

def leftN (p s t n : Int) : Int := if (trustB p s && inB t 0 1000000 && inB n 0 1000000 && decide (n < t + p)) = true then t + p - n else 0
end Go.Proofs.YtelnnegfkdfpiaaGreatDoor
