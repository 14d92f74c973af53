/- Contracts of the number predicates and the trust period's functions: within, l1In, isTime, TrustOk, Expires, Fresh, TimeLeft, of the program and of the reference. -/
import Derived.Test.YtpfppkjikkihfaaRows
import Derived.WalkKit
import Derived.WalkSpells
import Derived.WalkLawsBesides
import Derived.Lib.Hide
namespace Go.Proofs.Ytpfppkjikkihfaa
open Go.RowKit

theorem bcell {W w1 : World} (hb : Below W.heap.size W w1) : (∀ b o, b < W.heap.size → w1.cell? ⟨b, o, none⟩ = W.cell? ⟨b, o, none⟩) ∧ (∀ b o, b < W.heap.size → w1.frozen? ⟨b, o, none⟩ = W.frozen? ⟨b, o, none⟩) ∧ W.heap.size ≤ w1.heap.size :=
  ⟨fun b o h => hb.cell (p := ⟨b, o, none⟩) h, fun b o h => hb.frozen (p := ⟨b, o, none⟩) h, hb.size⟩

theorem nlt {a b n : Nat} (h : a + (n + 1) ≤ b) : a < b ∧ ∀ k, k < n + 1 → a + k < b := ⟨by omega, fun k hk => by omega⟩

theorem quiet_sym {P : Program} {f : FuncId} {args : Array Value} {w : World} {n : Nat} {v : Value}
    (h : Calls P f args (w.drewN n) fun e w' => e = .returned v ∧ w.drewN n = w') : Calls P f args (w.drewN n) fun e w'' => e = .returned v ∧ ∃ m, w'' = w.drewN m :=
  h.mono fun _ _ ⟨he, hm⟩ => ⟨he, n, hm.symm⟩

theorem belN {B : Nat} {a w : World} (h : Below B a w) (n : Nat) : Below B a (w.drewN n) := ⟨h.os, h.tape, h.output, h.size, h.block⟩

/-- from lo to hi -/
def inB (x lo hi : Int) : Bool := decide (lo ≤ x) && decide (x ≤ hi)

theorem inB_iff (x lo hi : Int) : inB x lo hi = true ↔ lo ≤ x ∧ x ≤ hi := by simp [inB]

theorem within_any (x lo hi : Int) (w : World) :
    Calls Try.prog 61 #[.int .i64 x, .int .i64 lo, .int .i64 hi] w fun e w' => e = .returned (.bool (inB x lo hi)) ∧ w = w' := by
  unfold inB
  go_enter Try.func61, Try.ntmps61
  go_wp2
  all_goals (go_ret; simp [*])
  all_goals omega
theorem l1In_any (x lo hi : Int) (w : World) :
    Calls Try.prog 58 #[.int .i64 x, .int .i64 lo, .int .i64 hi] w fun e w' => e = .returned (.bool (inB x lo hi)) ∧ w = w' := by
  unfold inB
  go_enter Try.func58, Try.ntmps58
  go_wp2
  all_goals (go_ret; simp [*])
  all_goals omega
theorem isTime_any (x : Int) (w : World) :
    Calls Try.prog 48 #[.int .i64 x] w fun e w' => e = .returned (.bool (inB x 0 1000000)) ∧ w = w' := by
  go_enter Try.func48, Try.ntmps48
  go_wp2_with ((refine (within_any _ _ _ _).mono ?_; rintro e w' ⟨rfl, rfl⟩))
  go_ret; exact ⟨rfl, rfl⟩
theorem l10Time_any (x : Int) (w : World) :
    Calls Try.prog 50 #[.int .i64 x] w fun e w' => e = .returned (.bool (inB x 0 1000000)) ∧ w = w' := by
  go_enter Try.func50, Try.ntmps50
  go_wp2_with ((refine (l1In_any _ _ _ _).mono ?_; rintro e w' ⟨rfl, rfl⟩))
  go_ret; exact ⟨rfl, rfl⟩
theorem isHeight_any (x : Int) (w : World) :
    Calls Try.prog 68 #[.int .i64 x] w fun e w' => e = .returned (.bool (inB x 1 1000000)) ∧ w = w' := by
  go_enter Try.func68, Try.ntmps68
  go_wp2_with ((refine (within_any _ _ _ _).mono ?_; rintro e w' ⟨rfl, rfl⟩))
  go_ret; exact ⟨rfl, rfl⟩
theorem isVal_any (x : Int) (w : World) :
    Calls Try.prog 70 #[.int .i64 x] w fun e w' => e = .returned (.bool (inB x 1 99)) ∧ w = w' := by
  go_enter Try.func70, Try.ntmps70
  go_wp2_with ((refine (within_any _ _ _ _).mono ?_; rintro e w' ⟨rfl, rfl⟩))
  go_ret; exact ⟨rfl, rfl⟩

def trustB (p s : Int) : Bool := inB p 1 100000 && inB s 0 1000

theorem TrustOk_any (p s : Int) (w : World) :
    Calls Try.prog 47 #[.agg #[.int .i64 p, .int .i64 s]] w fun e w' => e = .returned (.bool (trustB p s)) ∧ Below w.heap.size w w' := by
  unfold trustB
  go_enter Try.func47, Try.ntmps47
  go_wp2_with ((refine (within_any _ _ _ _).mono ?_; rintro e w' ⟨rfl, rfl⟩))
  all_goals (go_ret; exact ⟨by simp [*], (by repeat (first | exact Below.refl _ _ | assumption | refine Below.drew ?_ | refine belN ?_ _ | refine Below.alloc ?_ (by first | exact Nat.le_refl _ | (simp; done) | (simp; omega) | omega) _ | refine Below.setCell ?_ (by first | exact Nat.le_refl _ | (simp; done) | (simp; omega) | omega) _ | refine Below.trans ?_ (Below.mono (by assumption) (by first | exact Nat.le_refl _ | (simp; done) | (simp; omega) | omega))))⟩)
theorem sTrustOk_any (p s : Int) (w : World) :
    Calls Try.prog 49 #[.agg #[.int .i64 p, .int .i64 s]] w fun e w' => e = .returned (.bool (trustB p s)) ∧ Below w.heap.size w w' := by
  unfold trustB
  go_enter Try.func49, Try.ntmps49
  go_wp2_with ((refine (l1In_any _ _ _ _).mono ?_; rintro e w' ⟨rfl, rfl⟩))
  all_goals (go_ret; exact ⟨by simp [*], (by repeat (first | exact Below.refl _ _ | assumption | refine Below.drew ?_ | refine belN ?_ _ | refine Below.alloc ?_ (by first | exact Nat.le_refl _ | (simp; done) | (simp; omega) | omega) _ | refine Below.setCell ?_ (by first | exact Nat.le_refl _ | (simp; done) | (simp; omega) | omega) _ | refine Below.trans ?_ (Below.mono (by assumption) (by first | exact Nat.le_refl _ | (simp; done) | (simp; omega) | omega))))⟩)

def expiresN (p s t : Int) : Int := if (trustB p s && inB t 0 1000000) = true then t + p else -1
theorem expiresN_yes (p s t : Int) (h1 : trustB p s = true) (h2 : inB t 0 1000000 = true) : expiresN p s t = t + p := by simp [expiresN, h1, h2]
theorem trustB_bd {p s : Int} (h : trustB p s = true) : 1 ≤ p ∧ p ≤ 100000 ∧ 0 ≤ s ∧ s ≤ 1000 := by
  simp [trustB, inB] at h; omega
theorem inB_bd {x lo hi : Int} (h : inB x lo hi = true) : lo ≤ x ∧ x ≤ hi := (inB_iff _ _ _).1 h
theorem Expires_any (p s t : Int) (w : World) :
    Calls Try.prog 22 #[.agg #[.int .i64 p, .int .i64 s], .int .i64 t] w fun e w' => e = .returned (.int .i64 (expiresN p s t)) ∧ Below w.heap.size w w' := by
  cases h1 : trustB p s
  · have HE : Hid (expiresN p s t = -1) := by show _ = _; simp [expiresN, h1]
    go_enter Try.func22, Try.ntmps22
    go_wp2_with (first | (go_at_call 47; (refine (TrustOk_any _ _ _).mono ?_; rintro e w1 ⟨rfl, hb⟩; obtain ⟨hc, hf, hz⟩ := bcell hb; (try simp only [World.size_drew] at hz); (try simp only [World.size_alloc] at hz); have hy := nlt (by omega : w.heap.size + 1 ≤ w1.heap.size))) | (go_at_call 48; (refine (isTime_any _ _).mono ?_; rintro e w' ⟨rfl, rfl⟩)))
    go_ret; exact ⟨by rw [HE.out]; rfl, (by repeat (first | exact Below.refl _ _ | assumption | refine Below.drew ?_ | refine belN ?_ _ | refine Below.alloc ?_ (by first | exact Nat.le_refl _ | (simp; done) | (simp; omega) | omega) _ | refine Below.setCell ?_ (by first | exact Nat.le_refl _ | (simp; done) | (simp; omega) | omega) _ | refine Below.trans ?_ (Below.mono (by assumption) (by first | exact Nat.le_refl _ | (simp; done) | (simp; omega) | omega))))⟩
  · cases h2 : inB t 0 1000000
    · have HE : Hid (expiresN p s t = -1) := by show _ = _; simp [expiresN, h1, h2]
      go_enter Try.func22, Try.ntmps22
      go_wp2_with (first | (go_at_call 47; (refine (TrustOk_any _ _ _).mono ?_; rintro e w1 ⟨rfl, hb⟩; obtain ⟨hc, hf, hz⟩ := bcell hb; (try simp only [World.size_drew] at hz); (try simp only [World.size_alloc] at hz); have hy := nlt (by omega : w.heap.size + 1 ≤ w1.heap.size))) | (go_at_call 48; (refine (isTime_any _ _).mono ?_; rintro e w' ⟨rfl, rfl⟩)))
      go_ret; exact ⟨by rw [HE.out]; rfl, (by repeat (first | exact Below.refl _ _ | assumption | refine Below.drew ?_ | refine belN ?_ _ | refine Below.alloc ?_ (by first | exact Nat.le_refl _ | (simp; done) | (simp; omega) | omega) _ | refine Below.setCell ?_ (by first | exact Nat.le_refl _ | (simp; done) | (simp; omega) | omega) _ | refine Below.trans ?_ (Below.mono (by assumption) (by first | exact Nat.le_refl _ | (simp; done) | (simp; omega) | omega))))⟩
    · have b1 := trustB_bd h1
      have b2 := inB_bd h2
      have HE := Lib.hid (expiresN_yes p s t h1 h2)
      go_enter Try.func22, Try.ntmps22
      go_wp2_with (first | (go_at_call 47; (refine (TrustOk_any _ _ _).mono ?_; rintro e w1 ⟨rfl, hb⟩; obtain ⟨hc, hf, hz⟩ := bcell hb; (try simp only [World.size_drew] at hz); (try simp only [World.size_alloc] at hz); have hy := nlt (by omega : w.heap.size + 1 ≤ w1.heap.size))) | (go_at_call 48; (refine (isTime_any _ _).mono ?_; rintro e w' ⟨rfl, rfl⟩)))
      go_ret; exact ⟨by rw [HE.out]; rfl, (by repeat (first | exact Below.refl _ _ | assumption | refine Below.drew ?_ | refine belN ?_ _ | refine Below.alloc ?_ (by first | exact Nat.le_refl _ | (simp; done) | (simp; omega) | omega) _ | refine Below.setCell ?_ (by first | exact Nat.le_refl _ | (simp; done) | (simp; omega) | omega) _ | refine Below.trans ?_ (Below.mono (by assumption) (by first | exact Nat.le_refl _ | (simp; done) | (simp; omega) | omega))))⟩
theorem sExpires_any (p s t : Int) (w : World) :
    Calls Try.prog 23 #[.agg #[.int .i64 p, .int .i64 s], .int .i64 t] w fun e w' => e = .returned (.int .i64 (expiresN p s t)) ∧ Below w.heap.size w w' := by
  cases h1 : trustB p s
  · have HE : Hid (expiresN p s t = -1) := by show _ = _; simp [expiresN, h1]
    go_enter Try.func23, Try.ntmps23
    go_wp2_with (first | (go_at_call 49; (refine (sTrustOk_any _ _ _).mono ?_; rintro e w1 ⟨rfl, hb⟩; obtain ⟨hc, hf, hz⟩ := bcell hb; (try simp only [World.size_drew] at hz); (try simp only [World.size_alloc] at hz); have hy := nlt (by omega : w.heap.size + 1 ≤ w1.heap.size))) | (go_at_call 50; (refine (l10Time_any _ _).mono ?_; rintro e w' ⟨rfl, rfl⟩)))
    go_ret; exact ⟨by rw [HE.out]; rfl, (by repeat (first | exact Below.refl _ _ | assumption | refine Below.drew ?_ | refine belN ?_ _ | refine Below.alloc ?_ (by first | exact Nat.le_refl _ | (simp; done) | (simp; omega) | omega) _ | refine Below.setCell ?_ (by first | exact Nat.le_refl _ | (simp; done) | (simp; omega) | omega) _ | refine Below.trans ?_ (Below.mono (by assumption) (by first | exact Nat.le_refl _ | (simp; done) | (simp; omega) | omega))))⟩
  · cases h2 : inB t 0 1000000
    · have HE : Hid (expiresN p s t = -1) := by show _ = _; simp [expiresN, h1, h2]
      go_enter Try.func23, Try.ntmps23
      go_wp2_with (first | (go_at_call 49; (refine (sTrustOk_any _ _ _).mono ?_; rintro e w1 ⟨rfl, hb⟩; obtain ⟨hc, hf, hz⟩ := bcell hb; (try simp only [World.size_drew] at hz); (try simp only [World.size_alloc] at hz); have hy := nlt (by omega : w.heap.size + 1 ≤ w1.heap.size))) | (go_at_call 50; (refine (l10Time_any _ _).mono ?_; rintro e w' ⟨rfl, rfl⟩)))
      go_ret; exact ⟨by rw [HE.out]; rfl, (by repeat (first | exact Below.refl _ _ | assumption | refine Below.drew ?_ | refine belN ?_ _ | refine Below.alloc ?_ (by first | exact Nat.le_refl _ | (simp; done) | (simp; omega) | omega) _ | refine Below.setCell ?_ (by first | exact Nat.le_refl _ | (simp; done) | (simp; omega) | omega) _ | refine Below.trans ?_ (Below.mono (by assumption) (by first | exact Nat.le_refl _ | (simp; done) | (simp; omega) | omega))))⟩
    · have b1 := trustB_bd h1
      have b2 := inB_bd h2
      have HE := Lib.hid (expiresN_yes p s t h1 h2)
      go_enter Try.func23, Try.ntmps23
      go_wp2_with (first | (go_at_call 49; (refine (sTrustOk_any _ _ _).mono ?_; rintro e w1 ⟨rfl, hb⟩; obtain ⟨hc, hf, hz⟩ := bcell hb; (try simp only [World.size_drew] at hz); (try simp only [World.size_alloc] at hz); have hy := nlt (by omega : w.heap.size + 1 ≤ w1.heap.size))) | (go_at_call 50; (refine (l10Time_any _ _).mono ?_; rintro e w' ⟨rfl, rfl⟩)))
      go_ret; exact ⟨by rw [HE.out]; rfl, (by repeat (first | exact Below.refl _ _ | assumption | refine Below.drew ?_ | refine belN ?_ _ | refine Below.alloc ?_ (by first | exact Nat.le_refl _ | (simp; done) | (simp; omega) | omega) _ | refine Below.setCell ?_ (by first | exact Nat.le_refl _ | (simp; done) | (simp; omega) | omega) _ | refine Below.trans ?_ (Below.mono (by assumption) (by first | exact Nat.le_refl _ | (simp; done) | (simp; omega) | omega))))⟩

def freshB (p s t n : Int) : Bool := trustB p s && inB t 0 1000000 && inB n 0 1000000 && decide (n ≤ t + p) && decide (t ≤ n + s)
theorem sFresh_any (p s t n : Int) (w : World) :
    Calls Try.prog 21 #[.agg #[.int .i64 p, .int .i64 s], .int .i64 t, .int .i64 n] w fun e w' => e = .returned (.bool (freshB p s t n)) ∧ Below w.heap.size w w' := by
  cases h1 : trustB p s
  · go_enter Try.func21, Try.ntmps21
    go_wp2_with (first | (go_at_call 49; (refine (sTrustOk_any _ _ _).mono ?_; rintro e w1 ⟨rfl, hb⟩; obtain ⟨hc, hf, hz⟩ := bcell hb; (try simp only [World.size_drew] at hz); (try simp only [World.size_alloc] at hz); have hy := nlt (by omega : w.heap.size + 1 ≤ w1.heap.size))) | (go_at_call 50; (refine (l10Time_any _ _).mono ?_; rintro e w' ⟨rfl, rfl⟩)))
    go_ret; exact ⟨by simp [freshB, h1], (by repeat (first | exact Below.refl _ _ | assumption | refine Below.drew ?_ | refine belN ?_ _ | refine Below.alloc ?_ (by first | exact Nat.le_refl _ | (simp; done) | (simp; omega) | omega) _ | refine Below.setCell ?_ (by first | exact Nat.le_refl _ | (simp; done) | (simp; omega) | omega) _ | refine Below.trans ?_ (Below.mono (by assumption) (by first | exact Nat.le_refl _ | (simp; done) | (simp; omega) | omega))))⟩
  · cases h2 : inB t 0 1000000
    · go_enter Try.func21, Try.ntmps21
      go_wp2_with (first | (go_at_call 49; (refine (sTrustOk_any _ _ _).mono ?_; rintro e w1 ⟨rfl, hb⟩; obtain ⟨hc, hf, hz⟩ := bcell hb; (try simp only [World.size_drew] at hz); (try simp only [World.size_alloc] at hz); have hy := nlt (by omega : w.heap.size + 1 ≤ w1.heap.size))) | (go_at_call 50; (refine (l10Time_any _ _).mono ?_; rintro e w' ⟨rfl, rfl⟩)))
      go_ret; exact ⟨by simp [freshB, h2], (by repeat (first | exact Below.refl _ _ | assumption | refine Below.drew ?_ | refine belN ?_ _ | refine Below.alloc ?_ (by first | exact Nat.le_refl _ | (simp; done) | (simp; omega) | omega) _ | refine Below.setCell ?_ (by first | exact Nat.le_refl _ | (simp; done) | (simp; omega) | omega) _ | refine Below.trans ?_ (Below.mono (by assumption) (by first | exact Nat.le_refl _ | (simp; done) | (simp; omega) | omega))))⟩
    · cases h3 : inB n 0 1000000
      · go_enter Try.func21, Try.ntmps21
        go_wp2_with (first | (go_at_call 49; (refine (sTrustOk_any _ _ _).mono ?_; rintro e w1 ⟨rfl, hb⟩; obtain ⟨hc, hf, hz⟩ := bcell hb; (try simp only [World.size_drew] at hz); (try simp only [World.size_alloc] at hz); have hy := nlt (by omega : w.heap.size + 1 ≤ w1.heap.size))) | (go_at_call 50; (refine (l10Time_any _ _).mono ?_; rintro e w' ⟨rfl, rfl⟩)))
        go_ret; exact ⟨by simp [freshB, h3], (by repeat (first | exact Below.refl _ _ | assumption | refine Below.drew ?_ | refine belN ?_ _ | refine Below.alloc ?_ (by first | exact Nat.le_refl _ | (simp; done) | (simp; omega) | omega) _ | refine Below.setCell ?_ (by first | exact Nat.le_refl _ | (simp; done) | (simp; omega) | omega) _ | refine Below.trans ?_ (Below.mono (by assumption) (by first | exact Nat.le_refl _ | (simp; done) | (simp; omega) | omega))))⟩
      · have b1 := trustB_bd h1
        have b2 := inB_bd h2
        have b3 := inB_bd h3
        go_enter Try.func21, Try.ntmps21
        go_wp2_with (first | (go_at_call 49; (refine (sTrustOk_any _ _ _).mono ?_; rintro e w1 ⟨rfl, hb⟩; obtain ⟨hc, hf, hz⟩ := bcell hb; (try simp only [World.size_drew] at hz); (try simp only [World.size_alloc] at hz); have hy := nlt (by omega : w.heap.size + 1 ≤ w1.heap.size))) | (go_at_call 50; (refine (l10Time_any _ _).mono ?_; rintro e w' ⟨rfl, rfl⟩)))
        all_goals (go_ret; exact ⟨by simp [freshB, h1, h2, h3]; omega, (by repeat (first | exact Below.refl _ _ | assumption | refine Below.drew ?_ | refine belN ?_ _ | refine Below.alloc ?_ (by first | exact Nat.le_refl _ | (simp; done) | (simp; omega) | omega) _ | refine Below.setCell ?_ (by first | exact Nat.le_refl _ | (simp; done) | (simp; omega) | omega) _ | refine Below.trans ?_ (Below.mono (by assumption) (by first | exact Nat.le_refl _ | (simp; done) | (simp; omega) | omega))))⟩)
theorem Fresh_any (p s t n : Int) (w : World) :
    Calls Try.prog 20 #[.agg #[.int .i64 p, .int .i64 s], .int .i64 t, .int .i64 n] w fun e w' => e = .returned (.bool (freshB p s t n)) ∧ Below w.heap.size w w' := by
  cases h1 : trustB p s
  · go_enter Try.func20, Try.ntmps20
    go_wp2_with (first | (go_at_call 47; (refine (TrustOk_any _ _ _).mono ?_; rintro e w1 ⟨rfl, hb⟩; obtain ⟨hc, hf, hz⟩ := bcell hb; (try simp only [World.size_drew] at hz); (try simp only [World.size_alloc] at hz); have hy := nlt (by omega : w.heap.size + 1 ≤ w1.heap.size))) | (go_at_call 48; (refine (isTime_any _ _).mono ?_; rintro e w' ⟨rfl, rfl⟩)))
    go_ret; exact ⟨by simp [freshB, h1], (by repeat (first | exact Below.refl _ _ | assumption | refine Below.drew ?_ | refine belN ?_ _ | refine Below.alloc ?_ (by first | exact Nat.le_refl _ | (simp; done) | (simp; omega) | omega) _ | refine Below.setCell ?_ (by first | exact Nat.le_refl _ | (simp; done) | (simp; omega) | omega) _ | refine Below.trans ?_ (Below.mono (by assumption) (by first | exact Nat.le_refl _ | (simp; done) | (simp; omega) | omega))))⟩
  · cases h2 : inB t 0 1000000
    · go_enter Try.func20, Try.ntmps20
      go_wp2_with (first | (go_at_call 47; (refine (TrustOk_any _ _ _).mono ?_; rintro e w1 ⟨rfl, hb⟩; obtain ⟨hc, hf, hz⟩ := bcell hb; (try simp only [World.size_drew] at hz); (try simp only [World.size_alloc] at hz); have hy := nlt (by omega : w.heap.size + 1 ≤ w1.heap.size))) | (go_at_call 48; (refine (isTime_any _ _).mono ?_; rintro e w' ⟨rfl, rfl⟩)))
      go_ret; exact ⟨by simp [freshB, h2], (by repeat (first | exact Below.refl _ _ | assumption | refine Below.drew ?_ | refine belN ?_ _ | refine Below.alloc ?_ (by first | exact Nat.le_refl _ | (simp; done) | (simp; omega) | omega) _ | refine Below.setCell ?_ (by first | exact Nat.le_refl _ | (simp; done) | (simp; omega) | omega) _ | refine Below.trans ?_ (Below.mono (by assumption) (by first | exact Nat.le_refl _ | (simp; done) | (simp; omega) | omega))))⟩
    · cases h3 : inB n 0 1000000
      · go_enter Try.func20, Try.ntmps20
        go_wp2_with (first | (go_at_call 47; (refine (TrustOk_any _ _ _).mono ?_; rintro e w1 ⟨rfl, hb⟩; obtain ⟨hc, hf, hz⟩ := bcell hb; (try simp only [World.size_drew] at hz); (try simp only [World.size_alloc] at hz); have hy := nlt (by omega : w.heap.size + 1 ≤ w1.heap.size))) | (go_at_call 48; (refine (isTime_any _ _).mono ?_; rintro e w' ⟨rfl, rfl⟩)))
        go_ret; exact ⟨by simp [freshB, h3], (by repeat (first | exact Below.refl _ _ | assumption | refine Below.drew ?_ | refine belN ?_ _ | refine Below.alloc ?_ (by first | exact Nat.le_refl _ | (simp; done) | (simp; omega) | omega) _ | refine Below.setCell ?_ (by first | exact Nat.le_refl _ | (simp; done) | (simp; omega) | omega) _ | refine Below.trans ?_ (Below.mono (by assumption) (by first | exact Nat.le_refl _ | (simp; done) | (simp; omega) | omega))))⟩
      · have b1 := trustB_bd h1
        have b2 := inB_bd h2
        have b3 := inB_bd h3
        have HE := Lib.hid (expiresN_yes p s t h1 h2)
        go_enter Try.func20, Try.ntmps20
        go_wp2_with (first | (go_at_call 47; (refine (TrustOk_any _ _ _).mono ?_; rintro e w1 ⟨rfl, hb⟩; obtain ⟨hc, hf, hz⟩ := bcell hb; (try simp only [World.size_drew] at hz); (try simp only [World.size_alloc] at hz); have hy := nlt (by omega : w.heap.size + 1 ≤ w1.heap.size))) | (go_at_call 48; (refine (isTime_any _ _).mono ?_; rintro e w' ⟨rfl, rfl⟩)) | (go_at_call 22; refine (Expires_any _ _ _ _).mono ?_; rw [HE.out]; rintro e w1 ⟨rfl, hb⟩; obtain ⟨hc, hf, hz⟩ := bcell hb; have hy := nlt (by omega : w.heap.size + 1 ≤ w1.heap.size)))
        all_goals (go_ret; exact ⟨by simp [freshB, h1, h2, h3]; omega, (by repeat (first | exact Below.refl _ _ | assumption | refine Below.drew ?_ | refine belN ?_ _ | refine Below.alloc ?_ (by first | exact Nat.le_refl _ | (simp; done) | (simp; omega) | omega) _ | refine Below.setCell ?_ (by first | exact Nat.le_refl _ | (simp; done) | (simp; omega) | omega) _ | refine Below.trans ?_ (Below.mono (by assumption) (by first | exact Nat.le_refl _ | (simp; done) | (simp; omega) | omega))))⟩)

def leftN (p s t n : Int) : Int := if (trustB p s && inB t 0 1000000 && inB n 0 1000000 && decide (n < t + p)) = true then t + p - n else 0
theorem sTimeLeft_any (p s t n : Int) (w : World) :
    Calls Try.prog 19 #[.agg #[.int .i64 p, .int .i64 s], .int .i64 t, .int .i64 n] w fun e w' => e = .returned (.int .i64 (leftN p s t n)) ∧ Below w.heap.size w w' := by
  cases h1 : trustB p s
  · go_enter Try.func19, Try.ntmps19
    go_wp2_with (first | (go_at_call 49; (refine (sTrustOk_any _ _ _).mono ?_; rintro e w1 ⟨rfl, hb⟩; obtain ⟨hc, hf, hz⟩ := bcell hb; (try simp only [World.size_drew] at hz); (try simp only [World.size_alloc] at hz); have hy := nlt (by omega : w.heap.size + 1 ≤ w1.heap.size))) | (go_at_call 50; (refine (l10Time_any _ _).mono ?_; rintro e w' ⟨rfl, rfl⟩)))
    go_ret; exact ⟨by simp [leftN, h1], (by repeat (first | exact Below.refl _ _ | assumption | refine Below.drew ?_ | refine belN ?_ _ | refine Below.alloc ?_ (by first | exact Nat.le_refl _ | (simp; done) | (simp; omega) | omega) _ | refine Below.setCell ?_ (by first | exact Nat.le_refl _ | (simp; done) | (simp; omega) | omega) _ | refine Below.trans ?_ (Below.mono (by assumption) (by first | exact Nat.le_refl _ | (simp; done) | (simp; omega) | omega))))⟩
  · cases h2 : inB t 0 1000000
    · go_enter Try.func19, Try.ntmps19
      go_wp2_with (first | (go_at_call 49; (refine (sTrustOk_any _ _ _).mono ?_; rintro e w1 ⟨rfl, hb⟩; obtain ⟨hc, hf, hz⟩ := bcell hb; (try simp only [World.size_drew] at hz); (try simp only [World.size_alloc] at hz); have hy := nlt (by omega : w.heap.size + 1 ≤ w1.heap.size))) | (go_at_call 50; (refine (l10Time_any _ _).mono ?_; rintro e w' ⟨rfl, rfl⟩)))
      go_ret; exact ⟨by simp [leftN, h2], (by repeat (first | exact Below.refl _ _ | assumption | refine Below.drew ?_ | refine belN ?_ _ | refine Below.alloc ?_ (by first | exact Nat.le_refl _ | (simp; done) | (simp; omega) | omega) _ | refine Below.setCell ?_ (by first | exact Nat.le_refl _ | (simp; done) | (simp; omega) | omega) _ | refine Below.trans ?_ (Below.mono (by assumption) (by first | exact Nat.le_refl _ | (simp; done) | (simp; omega) | omega))))⟩
    · cases h3 : inB n 0 1000000
      · go_enter Try.func19, Try.ntmps19
        go_wp2_with (first | (go_at_call 49; (refine (sTrustOk_any _ _ _).mono ?_; rintro e w1 ⟨rfl, hb⟩; obtain ⟨hc, hf, hz⟩ := bcell hb; (try simp only [World.size_drew] at hz); (try simp only [World.size_alloc] at hz); have hy := nlt (by omega : w.heap.size + 1 ≤ w1.heap.size))) | (go_at_call 50; (refine (l10Time_any _ _).mono ?_; rintro e w' ⟨rfl, rfl⟩)))
        go_ret; exact ⟨by simp [leftN, h3], (by repeat (first | exact Below.refl _ _ | assumption | refine Below.drew ?_ | refine belN ?_ _ | refine Below.alloc ?_ (by first | exact Nat.le_refl _ | (simp; done) | (simp; omega) | omega) _ | refine Below.setCell ?_ (by first | exact Nat.le_refl _ | (simp; done) | (simp; omega) | omega) _ | refine Below.trans ?_ (Below.mono (by assumption) (by first | exact Nat.le_refl _ | (simp; done) | (simp; omega) | omega))))⟩
      · have b1 := trustB_bd h1
        have b2 := inB_bd h2
        have b3 := inB_bd h3
        by_cases h4 : t + p ≤ n
        · go_enter Try.func19, Try.ntmps19
          go_wp2_with (first | (go_at_call 49; (refine (sTrustOk_any _ _ _).mono ?_; rintro e w1 ⟨rfl, hb⟩; obtain ⟨hc, hf, hz⟩ := bcell hb; (try simp only [World.size_drew] at hz); (try simp only [World.size_alloc] at hz); have hy := nlt (by omega : w.heap.size + 1 ≤ w1.heap.size))) | (go_at_call 50; (refine (l10Time_any _ _).mono ?_; rintro e w' ⟨rfl, rfl⟩)))
          go_ret; exact ⟨by simp [leftN, h1, h2, h3]; omega, (by repeat (first | exact Below.refl _ _ | assumption | refine Below.drew ?_ | refine belN ?_ _ | refine Below.alloc ?_ (by first | exact Nat.le_refl _ | (simp; done) | (simp; omega) | omega) _ | refine Below.setCell ?_ (by first | exact Nat.le_refl _ | (simp; done) | (simp; omega) | omega) _ | refine Below.trans ?_ (Below.mono (by assumption) (by first | exact Nat.le_refl _ | (simp; done) | (simp; omega) | omega))))⟩
        · go_enter Try.func19, Try.ntmps19
          go_wp2_with (first | (go_at_call 49; (refine (sTrustOk_any _ _ _).mono ?_; rintro e w1 ⟨rfl, hb⟩; obtain ⟨hc, hf, hz⟩ := bcell hb; (try simp only [World.size_drew] at hz); (try simp only [World.size_alloc] at hz); have hy := nlt (by omega : w.heap.size + 1 ≤ w1.heap.size))) | (go_at_call 50; (refine (l10Time_any _ _).mono ?_; rintro e w' ⟨rfl, rfl⟩)))
          go_ret; exact ⟨by simp [leftN, h1, h2, h3]; omega, (by repeat (first | exact Below.refl _ _ | assumption | refine Below.drew ?_ | refine belN ?_ _ | refine Below.alloc ?_ (by first | exact Nat.le_refl _ | (simp; done) | (simp; omega) | omega) _ | refine Below.setCell ?_ (by first | exact Nat.le_refl _ | (simp; done) | (simp; omega) | omega) _ | refine Below.trans ?_ (Below.mono (by assumption) (by first | exact Nat.le_refl _ | (simp; done) | (simp; omega) | omega))))⟩
theorem TimeLeft_any (p s t n : Int) (w : World) :
    Calls Try.prog 18 #[.agg #[.int .i64 p, .int .i64 s], .int .i64 t, .int .i64 n] w fun e w' => e = .returned (.int .i64 (leftN p s t n)) ∧ Below w.heap.size w w' := by
  cases h1 : trustB p s
  · go_enter Try.func18, Try.ntmps18
    go_wp2_with (first | (go_at_call 47; (refine (TrustOk_any _ _ _).mono ?_; rintro e w1 ⟨rfl, hb⟩; obtain ⟨hc, hf, hz⟩ := bcell hb; (try simp only [World.size_drew] at hz); (try simp only [World.size_alloc] at hz); have hy := nlt (by omega : w.heap.size + 1 ≤ w1.heap.size))) | (go_at_call 48; (refine (isTime_any _ _).mono ?_; rintro e w' ⟨rfl, rfl⟩)))
    go_ret; exact ⟨by simp [leftN, h1], (by repeat (first | exact Below.refl _ _ | assumption | refine Below.drew ?_ | refine belN ?_ _ | refine Below.alloc ?_ (by first | exact Nat.le_refl _ | (simp; done) | (simp; omega) | omega) _ | refine Below.setCell ?_ (by first | exact Nat.le_refl _ | (simp; done) | (simp; omega) | omega) _ | refine Below.trans ?_ (Below.mono (by assumption) (by first | exact Nat.le_refl _ | (simp; done) | (simp; omega) | omega))))⟩
  · cases h2 : inB t 0 1000000
    · go_enter Try.func18, Try.ntmps18
      go_wp2_with (first | (go_at_call 47; (refine (TrustOk_any _ _ _).mono ?_; rintro e w1 ⟨rfl, hb⟩; obtain ⟨hc, hf, hz⟩ := bcell hb; (try simp only [World.size_drew] at hz); (try simp only [World.size_alloc] at hz); have hy := nlt (by omega : w.heap.size + 1 ≤ w1.heap.size))) | (go_at_call 48; (refine (isTime_any _ _).mono ?_; rintro e w' ⟨rfl, rfl⟩)))
      go_ret; exact ⟨by simp [leftN, h2], (by repeat (first | exact Below.refl _ _ | assumption | refine Below.drew ?_ | refine belN ?_ _ | refine Below.alloc ?_ (by first | exact Nat.le_refl _ | (simp; done) | (simp; omega) | omega) _ | refine Below.setCell ?_ (by first | exact Nat.le_refl _ | (simp; done) | (simp; omega) | omega) _ | refine Below.trans ?_ (Below.mono (by assumption) (by first | exact Nat.le_refl _ | (simp; done) | (simp; omega) | omega))))⟩
    · cases h3 : inB n 0 1000000
      · go_enter Try.func18, Try.ntmps18
        go_wp2_with (first | (go_at_call 47; (refine (TrustOk_any _ _ _).mono ?_; rintro e w1 ⟨rfl, hb⟩; obtain ⟨hc, hf, hz⟩ := bcell hb; (try simp only [World.size_drew] at hz); (try simp only [World.size_alloc] at hz); have hy := nlt (by omega : w.heap.size + 1 ≤ w1.heap.size))) | (go_at_call 48; (refine (isTime_any _ _).mono ?_; rintro e w' ⟨rfl, rfl⟩)))
        go_ret; exact ⟨by simp [leftN, h3], (by repeat (first | exact Below.refl _ _ | assumption | refine Below.drew ?_ | refine belN ?_ _ | refine Below.alloc ?_ (by first | exact Nat.le_refl _ | (simp; done) | (simp; omega) | omega) _ | refine Below.setCell ?_ (by first | exact Nat.le_refl _ | (simp; done) | (simp; omega) | omega) _ | refine Below.trans ?_ (Below.mono (by assumption) (by first | exact Nat.le_refl _ | (simp; done) | (simp; omega) | omega))))⟩
      · have b1 := trustB_bd h1
        have b2 := inB_bd h2
        have b3 := inB_bd h3
        have HE := Lib.hid (expiresN_yes p s t h1 h2)
        go_enter Try.func18, Try.ntmps18
        go_wp2_with (first | (go_at_call 47; (refine (TrustOk_any _ _ _).mono ?_; rintro e w1 ⟨rfl, hb⟩; obtain ⟨hc, hf, hz⟩ := bcell hb; (try simp only [World.size_drew] at hz); (try simp only [World.size_alloc] at hz); have hy := nlt (by omega : w.heap.size + 1 ≤ w1.heap.size))) | (go_at_call 48; (refine (isTime_any _ _).mono ?_; rintro e w' ⟨rfl, rfl⟩)) | (go_at_call 22; refine (Expires_any _ _ _ _).mono ?_; rw [HE.out]; rintro e w1 ⟨rfl, hb⟩; obtain ⟨hc, hf, hz⟩ := bcell hb; have hy := nlt (by omega : w.heap.size + 1 ≤ w1.heap.size)))
        all_goals (go_ret; refine ⟨?_, (by repeat (first | exact Below.refl _ _ | assumption | refine Below.drew ?_ | refine belN ?_ _ | refine Below.alloc ?_ (by first | exact Nat.le_refl _ | (simp; done) | (simp; omega) | omega) _ | refine Below.setCell ?_ (by first | exact Nat.le_refl _ | (simp; done) | (simp; omega) | omega) _ | refine Below.trans ?_ (Below.mono (by assumption) (by first | exact Nat.le_refl _ | (simp; done) | (simp; omega) | omega))))⟩)
        all_goals (simp [leftN, h1, h2, h3]; omega)
end Go.Proofs.Ytpfppkjikkihfaa
