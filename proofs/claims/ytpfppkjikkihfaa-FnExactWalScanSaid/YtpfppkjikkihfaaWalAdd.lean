/- WalAdd of the program and of the reference. -/
import Derived.Test.YtpfppkjikkihfaaWal
import Derived.WalkKit
import Derived.WalkSpells
import Derived.WalkLawsBesides
import Derived.Lib.Hide
namespace Go.Proofs.Ytpfppkjikkihfaa
open Go.RowKit

theorem walRecL_len (l : List UInt8) : (walRecL l).length ≤ 71 := by
  unfold walRecL; split
  · have := sizedL_len l; simp [be_len]; omega
  · simp
theorem walRecL_pos (l : List UInt8) (h : l.length ≤ 60) : 4 ≤ (walRecL l).length := by
  unfold walRecL; rw [if_pos h]; simp [be_len]
def walAddB (log l : List UInt8) : Bool := decide (l.length ≤ 60) && decide (log.length + (walRecL l).length ≤ 2000)
def walAddL (log l : List UInt8) : List UInt8 := if walAddB log l = true then log ++ walRecL l else log

theorem WalAdd_any (log l : List UInt8) (w : World) (hg : log.length ≤ 1048576) (hl : l.length ≤ 9223372036854775807) :
    Calls Try.prog 27 #[.string ⟨log.toArray⟩, .string ⟨l.toArray⟩] w fun e w' => e = .returned (.tuple #[.string ⟨(walAddL log l).toArray⟩, .bool (walAddB log l)]) ∧ Below w.heap.size w w' := by
  by_cases h6 : l.length ≤ 60
  · have hrl := walRecL_len l
    have hrp := walRecL_pos l h6
    have HC := Lib.hid (bcat log (walRecL l))
    by_cases h2 : log.length + (walRecL l).length ≤ 2000
    · have HE : Hid (walAddB log l = true) := by show _ = _; simp [walAddB, h6, h2]
      have HA : Hid (walAddL log l = log ++ walRecL l) := by show _ = _; unfold walAddL; rw [HE.out]; rfl
      have HW : ∀ w, Hid (Calls Try.prog 25 #[.string ⟨l.toArray⟩] w fun e w' => e = .returned (.string ⟨(walRecL l).toArray⟩) ∧ Below w.heap.size w w') := fun w => WalRec_any l w hl
      clear h6
      generalize walRecL l = r at *
      have hne : r.isEmpty = false := by cases r; simp at hrp; rfl
      go_enter Try.func27, Try.ntmps27
      go_wp2_with (go_at_call 25; (with_reducible refine ((HW _).out).mono ?_); rintro e w1 ⟨rfl, hb⟩; obtain ⟨hc, hf, hz⟩ := bcell hb)
      go_ret2
      exact ⟨by rw [HE.out, HA.out, ← HC.out]; rfl, (by repeat (first | exact Below.refl _ _ | assumption | refine Below.drew ?_ | refine belN ?_ _ | refine Below.alloc ?_ (by first | exact Nat.le_refl _ | (simp; done) | (simp; omega) | omega) _ | refine Below.setCell ?_ (by first | exact Nat.le_refl _ | (simp; done) | (simp; omega) | omega) _ | refine Below.trans ?_ (Below.mono (by assumption) (by first | exact Nat.le_refl _ | (simp; done) | (simp; omega) | omega))))⟩
    · have HE : Hid (walAddB log l = false) := by show _ = _; simp [walAddB, h2]
      have HA : Hid (walAddL log l = log) := by show _ = _; unfold walAddL; rw [HE.out]; rfl
      have HW : ∀ w, Hid (Calls Try.prog 25 #[.string ⟨l.toArray⟩] w fun e w' => e = .returned (.string ⟨(walRecL l).toArray⟩) ∧ Below w.heap.size w w') := fun w => WalRec_any l w hl
      clear h6
      generalize walRecL l = r at *
      have hne : r.isEmpty = false := by cases r; simp at hrp; rfl
      go_enter Try.func27, Try.ntmps27
      go_wp2_with (go_at_call 25; (with_reducible refine ((HW _).out).mono ?_); rintro e w1 ⟨rfl, hb⟩; obtain ⟨hc, hf, hz⟩ := bcell hb)
      go_ret2
      exact ⟨by rw [HE.out, HA.out]; rfl, (by repeat (first | exact Below.refl _ _ | assumption | refine Below.drew ?_ | refine belN ?_ _ | refine Below.alloc ?_ (by first | exact Nat.le_refl _ | (simp; done) | (simp; omega) | omega) _ | refine Below.setCell ?_ (by first | exact Nat.le_refl _ | (simp; done) | (simp; omega) | omega) _ | refine Below.trans ?_ (Below.mono (by assumption) (by first | exact Nat.le_refl _ | (simp; done) | (simp; omega) | omega))))⟩
  · have HE : Hid (walAddB log l = false) := by show _ = _; simp [walAddB, h6]
    have HA : Hid (walAddL log l = log) := by show _ = _; unfold walAddL; rw [HE.out]; rfl
    have HW : ∀ w, Hid (Calls Try.prog 25 #[.string ⟨l.toArray⟩] w fun e w' => e = .returned (.string ⟨([] : List UInt8).toArray⟩) ∧ Below w.heap.size w w') := fun w => by have h := WalRec_any l w hl; unfold walRecL at h; rw [if_neg h6] at h; exact h
    clear h6
    go_enter Try.func27, Try.ntmps27
    go_wp2_with (go_at_call 25; (with_reducible refine ((HW _).out).mono ?_); rintro e w1 ⟨rfl, hb⟩; obtain ⟨hc, hf, hz⟩ := bcell hb)
    go_ret2
    exact ⟨by rw [HE.out, HA.out]; rfl, (by repeat (first | exact Below.refl _ _ | assumption | refine Below.drew ?_ | refine belN ?_ _ | refine Below.alloc ?_ (by first | exact Nat.le_refl _ | (simp; done) | (simp; omega) | omega) _ | refine Below.setCell ?_ (by first | exact Nat.le_refl _ | (simp; done) | (simp; omega) | omega) _ | refine Below.trans ?_ (Below.mono (by assumption) (by first | exact Nat.le_refl _ | (simp; done) | (simp; omega) | omega))))⟩

theorem sWalAdd_any (log l : List UInt8) (w : World) (hg : log.length ≤ 1048576) (hl : l.length ≤ 9223372036854775807) :
    Calls Try.prog 26 #[.string ⟨log.toArray⟩, .string ⟨l.toArray⟩] w fun e w' => e = .returned (.tuple #[.string ⟨(walAddL log l).toArray⟩, .bool (walAddB log l)]) ∧ Below w.heap.size w w' := by
  by_cases h6 : l.length ≤ 60
  · have hrl := walRecL_len l
    have hrp := walRecL_pos l h6
    have HC := Lib.hid (bcat log (walRecL l))
    by_cases h2 : log.length + (walRecL l).length ≤ 2000
    · have HE : Hid (walAddB log l = true) := by show _ = _; simp [walAddB, h6, h2]
      have HA : Hid (walAddL log l = log ++ walRecL l) := by show _ = _; unfold walAddL; rw [HE.out]; rfl
      have HW : ∀ w, Hid (Calls Try.prog 24 #[.string ⟨l.toArray⟩] w fun e w' => e = .returned (.string ⟨(walRecL l).toArray⟩) ∧ Below w.heap.size w w') := fun w => sWalRec_any l w hl
      clear h6
      generalize walRecL l = r at *
      have hne : r.isEmpty = false := by cases r; simp at hrp; rfl
      go_enter Try.func26, Try.ntmps26
      go_wp2_with (go_at_call 24; (with_reducible refine ((HW _).out).mono ?_); rintro e w1 ⟨rfl, hb⟩; obtain ⟨hc, hf, hz⟩ := bcell hb)
      go_ret2
      exact ⟨by rw [HE.out, HA.out, ← HC.out]; rfl, (by repeat (first | exact Below.refl _ _ | assumption | refine Below.drew ?_ | refine belN ?_ _ | refine Below.alloc ?_ (by first | exact Nat.le_refl _ | (simp; done) | (simp; omega) | omega) _ | refine Below.setCell ?_ (by first | exact Nat.le_refl _ | (simp; done) | (simp; omega) | omega) _ | refine Below.trans ?_ (Below.mono (by assumption) (by first | exact Nat.le_refl _ | (simp; done) | (simp; omega) | omega))))⟩
    · have HE : Hid (walAddB log l = false) := by show _ = _; simp [walAddB, h2]
      have HA : Hid (walAddL log l = log) := by show _ = _; unfold walAddL; rw [HE.out]; rfl
      have HW : ∀ w, Hid (Calls Try.prog 24 #[.string ⟨l.toArray⟩] w fun e w' => e = .returned (.string ⟨(walRecL l).toArray⟩) ∧ Below w.heap.size w w') := fun w => sWalRec_any l w hl
      clear h6
      generalize walRecL l = r at *
      have hne : r.isEmpty = false := by cases r; simp at hrp; rfl
      go_enter Try.func26, Try.ntmps26
      go_wp2_with (go_at_call 24; (with_reducible refine ((HW _).out).mono ?_); rintro e w1 ⟨rfl, hb⟩; obtain ⟨hc, hf, hz⟩ := bcell hb)
      go_ret2
      exact ⟨by rw [HE.out, HA.out]; rfl, (by repeat (first | exact Below.refl _ _ | assumption | refine Below.drew ?_ | refine belN ?_ _ | refine Below.alloc ?_ (by first | exact Nat.le_refl _ | (simp; done) | (simp; omega) | omega) _ | refine Below.setCell ?_ (by first | exact Nat.le_refl _ | (simp; done) | (simp; omega) | omega) _ | refine Below.trans ?_ (Below.mono (by assumption) (by first | exact Nat.le_refl _ | (simp; done) | (simp; omega) | omega))))⟩
  · have HE : Hid (walAddB log l = false) := by show _ = _; simp [walAddB, h6]
    have HA : Hid (walAddL log l = log) := by show _ = _; unfold walAddL; rw [HE.out]; rfl
    have HW : ∀ w, Hid (Calls Try.prog 24 #[.string ⟨l.toArray⟩] w fun e w' => e = .returned (.string ⟨([] : List UInt8).toArray⟩) ∧ Below w.heap.size w w') := fun w => by have h := sWalRec_any l w hl; unfold walRecL at h; rw [if_neg h6] at h; exact h
    clear h6
    go_enter Try.func26, Try.ntmps26
    go_wp2_with (go_at_call 24; (with_reducible refine ((HW _).out).mono ?_); rintro e w1 ⟨rfl, hb⟩; obtain ⟨hc, hf, hz⟩ := bcell hb)
    go_ret2
    exact ⟨by rw [HE.out, HA.out]; rfl, (by repeat (first | exact Below.refl _ _ | assumption | refine Below.drew ?_ | refine belN ?_ _ | refine Below.alloc ?_ (by first | exact Nat.le_refl _ | (simp; done) | (simp; omega) | omega) _ | refine Below.setCell ?_ (by first | exact Nat.le_refl _ | (simp; done) | (simp; omega) | omega) _ | refine Below.trans ?_ (Below.mono (by assumption) (by first | exact Nat.le_refl _ | (simp; done) | (simp; omega) | omega))))⟩

end Go.Proofs.Ytpfppkjikkihfaa
