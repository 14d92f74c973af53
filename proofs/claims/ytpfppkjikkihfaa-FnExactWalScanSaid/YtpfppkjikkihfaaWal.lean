/- Records of the write-ahead log: sized, WalRec, WalAdd, of the program and of the reference. -/
import Derived.Test.YtpfppkjikkihfaaCrc
import Derived.WalkKit
import Derived.WalkSpells
import Derived.WalkLawsBesides
import Derived.Lib.Hide
namespace Go.Proofs.Ytpfppkjikkihfaa
open Go.RowKit

def sizedL (l : List UInt8) : List UInt8 := varL l.length ++ l
def walRecL (l : List UInt8) : List UInt8 := if l.length ≤ 60 then be 4 (crcN (sizedL l)) ++ sizedL l else []
theorem sizedL_len (l : List UInt8) : (sizedL l).length ≤ l.length + 7 := by have := varL_len l.length; simp [sizedL]; omega

theorem sized_any (l : List UInt8) (w : World) (hl : l.length ≤ 1048576) :
    Calls Try.prog 56 #[.string ⟨l.toArray⟩] w fun e w' => e = .returned (.string ⟨(sizedL l).toArray⟩) ∧ Below w.heap.size w w' := by
  have hv := varL_len l.length
  have HC := Lib.hid (bcat (varL l.length) l)
  go_enter Try.func56, Try.ntmps56
  go_wp2_with (go_at_call 75; (with_reducible refine (Var_any _ _).mono ?_); rintro e w1 ⟨rfl, hb⟩; obtain ⟨hc, hf, hz⟩ := bcell hb)
  go_ret
  exact ⟨by unfold sizedL; rw [← HC.out]; rfl, (by repeat (first | exact Below.refl _ _ | assumption | refine Below.drew ?_ | refine belN ?_ _ | refine Below.alloc ?_ (by first | exact Nat.le_refl _ | (simp; done) | (simp; omega) | omega) _ | refine Below.setCell ?_ (by first | exact Nat.le_refl _ | (simp; done) | (simp; omega) | omega) _ | refine Below.trans ?_ (Below.mono (by assumption) (by first | exact Nat.le_refl _ | (simp; done) | (simp; omega) | omega))))⟩
theorem l6Piece_any (l : List UInt8) (w : World) (hl : l.length ≤ 1048576) :
    Calls Try.prog 51 #[.string ⟨l.toArray⟩] w fun e w' => e = .returned (.string ⟨(sizedL l).toArray⟩) ∧ Below w.heap.size w w' := by
  have hv := varL_len l.length
  have HC := Lib.hid (bcat (varL l.length) l)
  go_enter Try.func51, Try.ntmps51
  go_wp2_with (go_at_call 74; (with_reducible refine (sVar_any _ _).mono ?_); rintro e w1 ⟨rfl, hb⟩; obtain ⟨hc, hf, hz⟩ := bcell hb)
  go_ret
  exact ⟨by unfold sizedL; rw [← HC.out]; rfl, (by repeat (first | exact Below.refl _ _ | assumption | refine Below.drew ?_ | refine belN ?_ _ | refine Below.alloc ?_ (by first | exact Nat.le_refl _ | (simp; done) | (simp; omega) | omega) _ | refine Below.setCell ?_ (by first | exact Nat.le_refl _ | (simp; done) | (simp; omega) | omega) _ | refine Below.trans ?_ (Below.mono (by assumption) (by first | exact Nat.le_refl _ | (simp; done) | (simp; omega) | omega))))⟩
theorem WalRec_any (l : List UInt8) (w : World) (hl : l.length ≤ 9223372036854775807) :
    Calls Try.prog 25 #[.string ⟨l.toArray⟩] w fun e w' => e = .returned (.string ⟨(walRecL l).toArray⟩) ∧ Below w.heap.size w w' := by
  by_cases h6 : (60 : Int) < l.length
  · have HE : Hid (walRecL l = []) := by show _ = _; unfold walRecL; rw [if_neg (by omega)]
    go_enter Try.func25, Try.ntmps25
    go_wp2
    go_ret
    exact ⟨by rw [HE.out]; rfl, (by repeat (first | exact Below.refl _ _ | assumption | refine Below.drew ?_ | refine belN ?_ _ | refine Below.alloc ?_ (by first | exact Nat.le_refl _ | (simp; done) | (simp; omega) | omega) _ | refine Below.setCell ?_ (by first | exact Nat.le_refl _ | (simp; done) | (simp; omega) | omega) _ | refine Below.trans ?_ (Below.mono (by assumption) (by first | exact Nat.le_refl _ | (simp; done) | (simp; omega) | omega))))⟩
  · have HE : Hid (walRecL l = be 4 (crcN (sizedL l)) ++ sizedL l) := by show _ = _; unfold walRecL; rw [if_pos (by omega)]
    have hv := sizedL_len l
    have hcr := crcN_bd (sizedL l)
    have hbl : (be 4 (crcN (sizedL l))).length ≤ 4 := by rw [be_len]; omega
    have HC := Lib.hid (bcat (be 4 (crcN (sizedL l))) (sizedL l))
    have HS : Hid ((⟨(sizedL l).toArray⟩ : ByteArray).size ≤ maxLen) := by show (sizedL l).length ≤ _; unfold maxLen; omega
    have HF : ∀ w, Hid (Calls Try.prog 54 #[.int .i64 (crcN (sizedL l)), .int .i64 4] w fun e w' => e = .returned (.string ⟨(be 4 (crcN (sizedL l))).toArray⟩) ∧ Below w.heap.size w w') := fun w => Fixed_any (crcN (sizedL l)) 4 w (by omega) (by omega) hcr.1 (by omega)
    have HR : ∀ w, Hid (Calls Try.prog 55 #[.string ⟨(sizedL l).toArray⟩] w fun e w' => e = .returned (.int .i64 (crcN (sizedL l))) ∧ w = w') := fun w => Crc_any ⟨(sizedL l).toArray⟩ w HS.out
    go_enter Try.func25, Try.ntmps25
    go_wp2_with (first | (go_at_call 56; (with_reducible refine (sized_any _ _ (by omega)).mono ?_); rintro e w1 ⟨rfl, hb⟩; obtain ⟨hc, hf, hz⟩ := bcell hb) | (go_at_call 55; (with_reducible refine ((HR _).out).mono ?_); rintro e w' ⟨rfl, rfl⟩) | (go_at_call 54; (with_reducible refine ((HF _).out).mono ?_); rintro e w1 ⟨rfl, hb⟩; obtain ⟨hc, hf, hz⟩ := bcell hb))
    go_ret
    exact ⟨by rw [HE.out, ← HC.out]; rfl, (by repeat (first | exact Below.refl _ _ | assumption | refine Below.drew ?_ | refine belN ?_ _ | refine Below.alloc ?_ (by first | exact Nat.le_refl _ | (simp; done) | (simp; omega) | omega) _ | refine Below.setCell ?_ (by first | exact Nat.le_refl _ | (simp; done) | (simp; omega) | omega) _ | refine Below.trans ?_ (Below.mono (by assumption) (by first | exact Nat.le_refl _ | (simp; done) | (simp; omega) | omega))))⟩
theorem sWalRec_any (l : List UInt8) (w : World) (hl : l.length ≤ 9223372036854775807) :
    Calls Try.prog 24 #[.string ⟨l.toArray⟩] w fun e w' => e = .returned (.string ⟨(walRecL l).toArray⟩) ∧ Below w.heap.size w w' := by
  by_cases h6 : (60 : Int) < l.length
  · have HE : Hid (walRecL l = []) := by show _ = _; unfold walRecL; rw [if_neg (by omega)]
    go_enter Try.func24, Try.ntmps24
    go_wp2
    go_ret
    exact ⟨by rw [HE.out]; rfl, (by repeat (first | exact Below.refl _ _ | assumption | refine Below.drew ?_ | refine belN ?_ _ | refine Below.alloc ?_ (by first | exact Nat.le_refl _ | (simp; done) | (simp; omega) | omega) _ | refine Below.setCell ?_ (by first | exact Nat.le_refl _ | (simp; done) | (simp; omega) | omega) _ | refine Below.trans ?_ (Below.mono (by assumption) (by first | exact Nat.le_refl _ | (simp; done) | (simp; omega) | omega))))⟩
  · have HE : Hid (walRecL l = be 4 (crcN (sizedL l)) ++ sizedL l) := by show _ = _; unfold walRecL; rw [if_pos (by omega)]
    have hv := sizedL_len l
    have hcr := crcN_bd (sizedL l)
    have hbl : (be 4 (crcN (sizedL l))).length ≤ 4 := by rw [be_len]; omega
    have HC := Lib.hid (bcat (be 4 (crcN (sizedL l))) (sizedL l))
    have HS : Hid ((⟨(sizedL l).toArray⟩ : ByteArray).size ≤ maxLen) := by show (sizedL l).length ≤ _; unfold maxLen; omega
    have HF : ∀ w, Hid (Calls Try.prog 52 #[.int .i64 (crcN (sizedL l)), .int .i64 4] w fun e w' => e = .returned (.string ⟨(be 4 (crcN (sizedL l))).toArray⟩) ∧ Below w.heap.size w w') := fun w => sFixed_any (crcN (sizedL l)) 4 w (by omega) (by omega) hcr.1 (by omega)
    have HR : ∀ w, Hid (Calls Try.prog 53 #[.string ⟨(sizedL l).toArray⟩] w fun e w' => e = .returned (.int .i64 (crcN (sizedL l))) ∧ w = w') := fun w => sCrc_any ⟨(sizedL l).toArray⟩ w HS.out
    go_enter Try.func24, Try.ntmps24
    go_wp2_with (first | (go_at_call 51; (with_reducible refine (l6Piece_any _ _ (by omega)).mono ?_); rintro e w1 ⟨rfl, hb⟩; obtain ⟨hc, hf, hz⟩ := bcell hb) | (go_at_call 53; (with_reducible refine ((HR _).out).mono ?_); rintro e w' ⟨rfl, rfl⟩) | (go_at_call 52; (with_reducible refine ((HF _).out).mono ?_); rintro e w1 ⟨rfl, hb⟩; obtain ⟨hc, hf, hz⟩ := bcell hb))
    go_ret
    exact ⟨by rw [HE.out, ← HC.out]; rfl, (by repeat (first | exact Below.refl _ _ | assumption | refine Below.drew ?_ | refine belN ?_ _ | refine Below.alloc ?_ (by first | exact Nat.le_refl _ | (simp; done) | (simp; omega) | omega) _ | refine Below.setCell ?_ (by first | exact Nat.le_refl _ | (simp; done) | (simp; omega) | omega) _ | refine Below.trans ?_ (Below.mono (by assumption) (by first | exact Nat.le_refl _ | (simp; done) | (simp; omega) | omega))))⟩
end Go.Proofs.Ytpfppkjikkihfaa
