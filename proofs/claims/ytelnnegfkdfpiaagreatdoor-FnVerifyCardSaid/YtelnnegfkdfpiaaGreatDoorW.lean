/- Fixed-width numbers as bytes. -/
import Derived.Test.YtelnnegfkdfpiaaGreatDoorBytes
import Derived.WalkKit
import Derived.WalkSpells
import Derived.WalkLawsBesides
import Derived.Lib.Hide
namespace Go.Proofs.YtelnnegfkdfpiaaGreatDoor
open Go.RowKit

/-- the k low bytes of n, the greatest first -/
def be : Nat → Int → List UInt8
  | 0, _ => []
  | k + 1, n => UInt8.ofNat (n / 256 ^ k % 256).toNat :: be k n
theorem be_len (k : Nat) (n : Int) : (be k n).length = k := by induction k with
  | zero => rfl
  | succ k ih => simp [be, ih]

theorem q_bound (n : Int) (k : Nat) (h0 : 0 ≤ n) : 0 ≤ n / 256 ^ k ∧ n / 256 ^ k ≤ n :=
  ⟨Int.ediv_nonneg h0 (Int.pow_nonneg (by decide)), Int.ediv_le_self _ h0⟩
theorem q_next (n : Int) (k : Nat) : n / 256 ^ k / 256 = n / 256 ^ (k + 1) := by
  rw [Int.pow_succ, Int.ediv_ediv_of_nonneg (Int.pow_nonneg (by decide))]
theorem pow7 (k : Nat) (h : k ≤ 7) : (256 : Int) ^ k ≤ 72057594037927936 := by
  rcases (by omega : k = 0 ∨ k = 1 ∨ k = 2 ∨ k = 3 ∨ k = 4 ∨ k = 5 ∨ k = 6 ∨ k = 7) with rfl | rfl | rfl | rfl | rfl | rfl | rfl | rfl <;> decide

set_option maxRecDepth 100000 in
set_option maxHeartbeats 400000 in
theorem sFixed_any (n : Int) (k0 : Nat) (w : World) (h1 : 1 ≤ k0) (h7 : k0 ≤ 7) (h0 : 0 ≤ n) (hn : n < 256 ^ k0) :
    Calls Tryz.prog 98 #[.int .i64 n, .int .i64 k0] w fun e w' => e = .returned (.string ⟨(be k0 n).toArray⟩) ∧ Below w.heap.size w w' := by
  have hk : inB k0 1 7 = true := by simp [inB]; omega
  have HN := Lib.hid hn
  have hd : decide (n < 0) = false := by simp; omega
  clear hn
  go_enter Tryz.func98, Tryz.ntmps98
  go_wp2_with (go_at_call 75; (with_reducible refine (l1In_any _ _ _ _).mono ?_); rintro e w' ⟨rfl, rfl⟩)
  go_loopw [0, 5, 6] (fun m o i wr => ∃ k : Nat, k ≤ k0 ∧ m = .int .i64 (n / 256 ^ k) ∧ o = .string ⟨(be k n).toArray⟩ ∧ i = .int .i64 k ∧ Below w.heap.size w wr) (fun _ _ i _ => k0 - (intOf i).toNat)
  case atStart => exact ⟨0, by omega, by simp, by simp [be], rfl, Below.refl _ _⟩
  case round =>
    obtain ⟨k, hk, rfl, rfl, rfl, hb⟩ := hrel
    have hz := hb.size
    generalize hq : n / 256 ^ k = q
    have q0 : 0 ≤ q := by rw [← hq]; exact (q_bound n k h0).1
    have q1 : q ≤ 72057594037927936 := by have := HN.out; have := pow7 k0 h7; have := (q_bound n k h0).2; omega
    have HQ := Lib.hid hq
    clear hq
    have kc : ∀ w, _ := fun w => conv1 w (q % 256) (by omega) (by omega)
    have hlen : (be k n).length ≤ 7 := by rw [be_len]; omega
    by_cases hlt : k < k0
    · go_wp2
      go_roundw
      case rel => exact ⟨k + 1, by omega, by rw [← HQ.out, q_next], by rw [bcat [_]]; simp [be, HQ.out], by go_num, (by repeat (first | exact Below.refl _ _ | assumption | refine Below.drew ?_ | refine belN ?_ _ | refine Below.alloc ?_ (by first | exact Nat.le_refl _ | (simp; done) | (simp; omega) | omega) _ | refine Below.setCell ?_ (by first | exact Nat.le_refl _ | (simp; done) | (simp; omega) | omega) _ | refine Below.trans ?_ (Below.mono (by assumption) (by first | exact Nat.le_refl _ | (simp; done) | (simp; omega) | omega))))⟩
      case measure => simp [intOf]; omega
    · obtain rfl : k = k0 := by omega
      have hz : q = 0 := by rw [← HQ.out]; exact Int.ediv_eq_zero_of_lt h0 HN.out
      have HZ : Hid (¬ 0 < q) := by show ¬ _; omega
      have q2 : q ≤ 0 := by omega
      clear hz
      go_wp2
      go_ret
      exact ⟨rfl, (by repeat (first | exact Below.refl _ _ | assumption | refine Below.drew ?_ | refine belN ?_ _ | refine Below.alloc ?_ (by first | exact Nat.le_refl _ | (simp; done) | (simp; omega) | omega) _ | refine Below.setCell ?_ (by first | exact Nat.le_refl _ | (simp; done) | (simp; omega) | omega) _ | refine Below.trans ?_ (Below.mono (by assumption) (by first | exact Nat.le_refl _ | (simp; done) | (simp; omega) | omega))))⟩
end Go.Proofs.YtelnnegfkdfpiaaGreatDoor
