/- WalScan and WalTrim of the program and of the reference. -/
import Derived.Test.YtpfppkjikkihfaaWalScan
import Derived.WalkKit
import Derived.WalkSpells
import Derived.WalkLawsBesides
import Derived.Lib.Hide
namespace Go.Proofs.Ytpfppkjikkihfaa
open Go.RowKit

def strC (x : ByteArray) : List Value := [.string x]
theorem strC_len (x : ByteArray) : (strC x).length = 1 := rfl
theorem infoStr : (Try.prog.info? 9).map (fun i => (i.zero, i.size, i.bytes)) = some (some (.string ⟨#[]⟩), 1, 16) := by kernel_rfl
/-- a slice of strings and a place, handed back -/
def ScanOut (l : List ByteArray) (a : Nat) (w : World) (e : Ending) (w' : World) : Prop :=
  ∃ A c, e = .returned (.tuple #[.slice A l.length c, .int .i64 a]) ∧ OwnL strC 1 9 w' w.heap.size w'.heap.size A l.length c l ∧ Below w.heap.size w w'

set_option maxRecDepth 100000 in
set_option maxHeartbeats 2000000 in
theorem WalScan_any (log : ByteArray) (w : World) (hs : log.size ≤ 1048576) :
    Calls Try.prog 36 #[.string log] w (ScanOut (scanS log).1 (scanS log).2 w) := by
  obtain ⟨i0, hi, hz0, hz1, hz2⟩ := info_parts infoStr
  go_enter Try.func36, Try.ntmps36
  go_wp2_with fail
  go_loopw [4, 5] (fun o i wr => ∃ (f a : Nat) (acc : List ByteArray), i = .int .i64 a ∧ a ≤ log.size ∧ acc.length ≤ a ∧ log.size + 1 ≤ f + a ∧ scanF log f a acc = scanS log ∧ wr.ownsRow w.heap.size 9 1 o acc.length (acc.flatMap strC) ∧ Below w.heap.size w wr) (fun _ i _ => log.size + 1 - (intOf i).toNat)
  case atStart => exact ⟨log.size + 1, 0, [], rfl, Nat.zero_le _, by simp, by omega, rfl, World.ownsRow_lit w #[] 0 (Nat.le_refl _) (by decide) rfl, (by repeat (first | exact Below.refl _ _ | assumption | refine Below.drew ?_ | refine belN ?_ _ | refine Below.alloc ?_ (by first | exact Nat.le_refl _ | (simp; done) | (simp; omega) | omega) _ | refine Below.setCell ?_ (by first | exact Nat.le_refl _ | (simp; done) | (simp; omega) | omega) _ | refine Below.trans ?_ (Below.mono (by assumption) (by first | exact Nat.le_refl _ | (simp; done) | (simp; omega) | omega))))⟩
  case round =>
    obtain ⟨f, a, acc, rfl, ha, hacc, hf, hsc, hown, hb⟩ := hrel
    have HO := Lib.hid hown
    have HB := Lib.hid hb
    have HS := Lib.hid hsc
    have hz := hb.size
    have hai : (a : Int) ≤ log.size := by omega
    have hst := step_shift log a ha
    have hsx : (log.extract a log.size).size ≤ 1048576 := by rw [ByteArray.size_extract]; omega
    clear hown hb hsc
    cases hstep : stepS log a with
    | none =>
      have HST : Hid (walAtS (log.extract a log.size) = none) := by show _ = _; rw [hst, hstep]; rfl
      have HF : Hid ((acc, a) = scanS log) := by show _ = _; rw [← HS.out]; exact (scanF_none (by omega) hstep).symm
      clear hst hstep
      go_wp2_with fail
      refine (walAt_any _ _ hsx).mono ?_
      rw [HST.out]
      rintro e w1 ⟨rfl, hb⟩
      have HB1 := Lib.hid (HB.out.trans (hb.mono hz))
      have HO1 := Lib.hid (own_keep HO.out hb (Nat.le_refl _))
      clear hb
      obtain ⟨A, c, rfl, ho⟩ := OwnL.of_own rfl HO1.out
      have HOL := Lib.hid ho
      clear ho
      simp only [walV]
      go_wp2_with fail
      go_ret2
      rw [← HF.out]
      exact ⟨A, c, rfl, HOL.out, HB1.out⟩
    | some r =>
      obtain ⟨s, e⟩ := r
      have HST : Hid (walAtS (log.extract a log.size) = some s) := by show _ = _; rw [hst, hstep]; rfl
      obtain ⟨p1, p2, p3, p4, p5⟩ := step_fit hstep
      obtain ⟨q1, q2, q3, _⟩ := takeS_fit p1
      obtain ⟨f, rfl⟩ : ∃ g, f = g + 1 := ⟨f - 1, by omega⟩
      have HF : Hid (scanF log f e (acc ++ [s]) = scanS log) := by show _ = _; rw [← HS.out]; exact (scanF_some hstep).symm
      have HW : ∀ w, Hid (Calls Try.prog 25 #[.string s] w fun e w' => e = .returned (.string ⟨(walRecL s.data.toList).toArray⟩) ∧ Below w.heap.size w w') := fun w => WalRec_b s w (by omega)
      clear hst hstep p1 p2
      generalize walRecL s.data.toList = r at *
      have hra : (a : Int) + r.length = e := by omega
      go_wp2_with fail
      refine (walAt_any _ _ hsx).mono ?_
      rw [HST.out]
      rintro e' w1 ⟨rfl, hb⟩
      have HB1 := Lib.hid (HB.out.trans (hb.mono hz))
      have HO1 := Lib.hid (own_keep HO.out hb (Nat.le_refl _))
      have hz1' : w.heap.size ≤ w1.heap.size := HB1.out.size
      clear hb
      simp only [walV]
      go_wp2_with (at_builtin; go_must (refine wpList_append_own _ rfl _ _ 59 rfl w.heap.size 9 i0 (.string ⟨#[]⟩) 1 16 Try.underlying59 hi hz0 hz1 hz2 rfl (by decide) _ _ _ rfl (HO1.out.alloc _) ⟨_, 0, none⟩ 1 1 [.string s] rfl rfl (one_new _ _ _) (one_cell _ rfl) (by unfold maxLen; omega) (by omega) (by simp; omega) ?_))
      intro v' w2 hown' hgrow _
      have HB2 := Lib.hid ((HB1.out.alloc hz1' _).grown hgrow (by simp; omega) (fun g hg => (HO1.out.lt g hg).1))
      have HO2 := Lib.hid hown'
      have hz2' : w.heap.size ≤ w2.heap.size := HB2.out.size
      clear hown' hgrow
      go_wp2_with fail
      refine ((HW _).out).mono ?_
      rintro e' w3 ⟨rfl, hb⟩
      have HB3 := Lib.hid (HB2.out.trans (hb.mono hz2'))
      have HO3 := Lib.hid (own_keep HO2.out hb (Nat.le_refl _))
      clear hb
      go_wp2_with fail
      go_roundw
      case rel => exact ⟨f, e, acc ++ [s], by go_num, by omega, by simp; omega, by omega, HF.out, by simpa [strC] using HO3.out, HB3.out⟩
      case measure => simp [intOf]; omega

set_option maxRecDepth 100000 in
set_option maxHeartbeats 2000000 in
theorem sWalScan_any (log : ByteArray) (w : World) (hs : log.size ≤ 1048576) :
    Calls Try.prog 35 #[.string log] w (ScanOut (scanS log).1 (scanS log).2 w) := by
  obtain ⟨i0, hi, hz0, hz1, hz2⟩ := info_parts infoStr
  go_enter Try.func35, Try.ntmps35
  go_wp2_with fail
  go_loopw [4, 5] (fun o i wr => ∃ (f a : Nat) (acc : List ByteArray), i = .int .i64 a ∧ a ≤ log.size ∧ acc.length ≤ a ∧ log.size + 1 ≤ f + a ∧ scanF log f a acc = scanS log ∧ wr.ownsRow w.heap.size 9 1 o acc.length (acc.flatMap strC) ∧ Below w.heap.size w wr) (fun _ i _ => log.size + 1 - (intOf i).toNat)
  case atStart => exact ⟨log.size + 1, 0, [], rfl, Nat.zero_le _, by simp, by omega, rfl, World.ownsRow_lit w #[] 0 (Nat.le_refl _) (by decide) rfl, (by repeat (first | exact Below.refl _ _ | assumption | refine Below.drew ?_ | refine belN ?_ _ | refine Below.alloc ?_ (by first | exact Nat.le_refl _ | (simp; done) | (simp; omega) | omega) _ | refine Below.setCell ?_ (by first | exact Nat.le_refl _ | (simp; done) | (simp; omega) | omega) _ | refine Below.trans ?_ (Below.mono (by assumption) (by first | exact Nat.le_refl _ | (simp; done) | (simp; omega) | omega))))⟩
  case round =>
    obtain ⟨f, a, acc, rfl, ha, hacc, hf, hsc, hown, hb⟩ := hrel
    have HO := Lib.hid hown
    have HB := Lib.hid hb
    have HS := Lib.hid hsc
    have hz := hb.size
    have hai : (a : Int) ≤ log.size := by omega
    clear hown hb hsc
    cases ht : takeS log (a + 4) with
    | none =>
      have HT := Lib.hid ht
      have HF : Hid ((acc, a) = scanS log) := by show _ = _; rw [← HS.out]; exact (scanF_none (by omega) (by unfold stepS; rw [ht])).symm
      clear ht
      go_wp2_with fail
      refine (l6Take_any log (a + 4) _ (by omega) (by omega)).mono ?_
      rw [HT.out]
      rintro e w1 ⟨rfl, hb⟩
      have HB1 := Lib.hid (HB.out.trans (hb.mono hz))
      have HO1 := Lib.hid (own_keep HO.out hb (Nat.le_refl _))
      clear hb
      obtain ⟨A, c, rfl, ho⟩ := OwnL.of_own rfl HO1.out
      have HOL := Lib.hid ho
      clear ho
      simp only [takeV]
      go_wp2_with fail
      refine wp_region_below (by kernel_rfl) (by kernel_rfl) ?_
      repeat (first | go_big_quiet_skip | (go_big_quiet_want; go_big_quiet_op; first | go_big_quiet_on | (apply Exists.intro; refine ⟨fun w1 hC => ?_, ?_⟩; (focus (first | rfl | fail | (simp [(bcell hC).1, hai]; done) | (simp [(bcell hC).1, hai]; rfl))); go_big_quiet_on)))
      refine wpQuiet_nil ?_
      intro w2 hb2
      obtain ⟨hc2, hf2, hz2⟩ := bcell hb2
      have HOL2 := Lib.hid ((HOL.out.below hb2 (Nat.le_refl _)).wide (Nat.le_refl _) hb2.size)
      have HB2 := Lib.hid (HB1.out.trans (hb2.mono HB1.out.size))
      clear hb2
      go_wp2_with fail
      go_ret2
      rw [← HF.out]
      exact ⟨A, c, rfl, HOL2.out, HB2.out⟩
    | some r =>
      obtain ⟨s, e⟩ := r
      have HT := Lib.hid ht
      obtain ⟨q1, q2, q3, _⟩ := takeS_fit ht
      have hstep : stepS log a = if recFits log a s e = true then some (s, e) else none := by unfold stepS; rw [ht]
      have HSTEP := Lib.hid hstep
      clear ht hstep
      have hei : (e : Int) ≤ log.size := by omega
      have hae : (a : Int) ≤ e := by omega
      have hen : ¬ (e : Int) < 0 := by omega
      have hae' : a ≤ e := by omega
      have heb : decide ((e : Int) < 0) = false := decide_eq_false hen
      by_cases h60 : s.size ≤ 60
      · have hpos : 0 < (walRecL s.data.toList).length := by have := walRecL_pos s.data.toList (by simpa using h60); omega
        have HRF : Hid (recFits log a s e = ((log.extract a e).toList == walRecL s.data.toList)) := by show _ = _; unfold recFits; simp [h60]
        have HW : ∀ w, Hid (Calls Try.prog 24 #[.string s] w fun e w' => e = .returned (.string ⟨(walRecL s.data.toList).toArray⟩) ∧ Below w.heap.size w w') := fun w => sWalRec_b s w (by omega)
        clear h60
        generalize walRecL s.data.toList = r at *
        have hne : r.isEmpty = false := by cases r; simp at hpos; rfl
        cases hq : (r == (log.extract a e).toList)
        · have HF : Hid ((acc, a) = scanS log) := by
            show _ = _
            rw [← HS.out]
            refine (scanF_none (by omega) ?_).symm
            rw [HSTEP.out, HRF.out, BEq.comm, hq]; rfl
          go_wp2_with fail
          refine (l6Take_any log (a + 4) _ (by omega) (by omega)).mono ?_
          rw [HT.out]
          rintro e' w1 ⟨rfl, hb⟩
          have HB1 := Lib.hid (HB.out.trans (hb.mono hz))
          have HO1 := Lib.hid (own_keep HO.out hb (Nat.le_refl _))
          clear hb
          obtain ⟨A, c, rfl, ho⟩ := OwnL.of_own rfl HO1.out
          have HOL := Lib.hid ho
          clear ho
          simp only [takeV]
          go_wp2_with fail
          refine wp_region_below (by kernel_rfl) (by kernel_rfl) ?_
          repeat (first | go_big_quiet_skip | (go_big_quiet_want; go_big_quiet_op; first | go_big_quiet_on | (apply Exists.intro; refine ⟨fun w1 hC => ?_, ?_⟩; (focus (first | rfl | (go_at_call 24; exact quiet_below hC ((HW _).out)) | (simp [(bcell hC).1, hai, hei, hae, hae', hen, heb, hne, hq]; done) | (simp [(bcell hC).1, hai, hei, hae, hae', hen, heb, hne, hq]; rfl))); go_big_quiet_on)))
          refine wpQuiet_nil ?_
          intro w2 hb2
          obtain ⟨hc2, hf2, hz2⟩ := bcell hb2
          have HOL2 := Lib.hid ((HOL.out.below hb2 (Nat.le_refl _)).wide (Nat.le_refl _) hb2.size)
          have HB2 := Lib.hid (HB1.out.trans (hb2.mono HB1.out.size))
          clear hb2
          go_wp2_with fail
          go_ret2
          rw [← HF.out]
          exact ⟨A, c, rfl, HOL2.out, HB2.out⟩
        · obtain ⟨f, rfl⟩ : ∃ g, f = g + 1 := ⟨f - 1, by omega⟩
          have HF : Hid (scanF log f e (acc ++ [s]) = scanS log) := by
            show _ = _
            rw [← HS.out]
            refine (scanF_some ?_).symm
            rw [HSTEP.out, HRF.out, BEq.comm, hq]; rfl
          go_wp2_with fail
          refine (l6Take_any log (a + 4) _ (by omega) (by omega)).mono ?_
          rw [HT.out]
          rintro e' w1 ⟨rfl, hb⟩
          have HB1 := Lib.hid (HB.out.trans (hb.mono hz))
          have HO1 := Lib.hid (own_keep HO.out hb (Nat.le_refl _))
          clear hb
          obtain ⟨A, c, rfl, ho⟩ := OwnL.of_own rfl HO1.out
          clear ho
          simp only [takeV]
          go_wp2_with fail
          refine wp_region_below (by kernel_rfl) (by kernel_rfl) ?_
          repeat (first | go_big_quiet_skip | (go_big_quiet_want; go_big_quiet_op; first | go_big_quiet_on | (apply Exists.intro; refine ⟨fun w1 hC => ?_, ?_⟩; (focus (first | rfl | (go_at_call 24; exact quiet_below hC ((HW _).out)) | (simp [(bcell hC).1, hai, hei, hae, hae', hen, heb, hne, hq]; done) | (simp [(bcell hC).1, hai, hei, hae, hae', hen, heb, hne, hq]; rfl))); go_big_quiet_on)))
          refine wpQuiet_nil ?_
          intro w2 hb2
          obtain ⟨hc2, hf2, hz2⟩ := bcell hb2
          have HB2 := Lib.hid (HB1.out.trans (hb2.mono HB1.out.size))
          have HO2 := Lib.hid (own_keep HO1.out hb2 (Nat.le_refl _))
          have hz2' : w.heap.size ≤ w2.heap.size := HB2.out.size
          clear hb2 hc2 hf2 hz2
          obtain ⟨j0, hj, hy0, hy1, hy2⟩ := info_parts infoStr
          go_wp2_with (at_builtin; go_must (refine wpList_append_own _ rfl _ _ 59 rfl w.heap.size 9 j0 (.string ⟨#[]⟩) 1 16 Try.underlying59 hj hy0 hy1 hy2 rfl (by decide) _ _ _ rfl (HO2.out.alloc _) ⟨_, 0, none⟩ 1 1 [.string s] rfl rfl (one_new _ _ _) (one_cell _ rfl) (by unfold maxLen; omega) (by omega) (by simp; omega) ?_))
          intro v' w3 hown' hgrow _
          have HB3 := Lib.hid ((HB2.out.alloc hz2' _).grown hgrow (by simp; omega) (fun g hg => (HO2.out.lt g hg).1))
          have HO3 := Lib.hid hown'
          clear hown' hgrow
          go_wp2_with fail
          go_roundw
          case rel => exact ⟨f, e, acc ++ [s], by go_num, by omega, by simp; omega, by omega, HF.out, by simpa [strC] using HO3.out, HB3.out⟩
          case measure => simp [intOf]; omega
      · have HR : Hid (walRecL s.data.toList = []) := by show _ = _; unfold walRecL; rw [if_neg (by simp; omega)]
        have HW : ∀ w, Hid (Calls Try.prog 24 #[.string s] w fun e w' => e = .returned (.string ⟨([] : List UInt8).toArray⟩) ∧ Below w.heap.size w w') := fun w => by have h := sWalRec_b s w (by omega); rw [HR.out] at h; exact h
        have HF : Hid ((acc, a) = scanS log) := by
          show _ = _
          rw [← HS.out]
          refine (scanF_none (by omega) ?_).symm
          rw [HSTEP.out]; unfold recFits; simp [h60]
        go_wp2_with fail
        refine (l6Take_any log (a + 4) _ (by omega) (by omega)).mono ?_
        rw [HT.out]
        rintro e' w1 ⟨rfl, hb⟩
        have HB1 := Lib.hid (HB.out.trans (hb.mono hz))
        have HO1 := Lib.hid (own_keep HO.out hb (Nat.le_refl _))
        clear hb
        obtain ⟨A, c, rfl, ho⟩ := OwnL.of_own rfl HO1.out
        have HOL := Lib.hid ho
        clear ho
        simp only [takeV]
        go_wp2_with fail
        refine wp_region_below (by kernel_rfl) (by kernel_rfl) ?_
        repeat (first | go_big_quiet_skip | (go_big_quiet_want; go_big_quiet_op; first | go_big_quiet_on | (apply Exists.intro; refine ⟨fun w1 hC => ?_, ?_⟩; (focus (first | rfl | (go_at_call 24; exact quiet_below hC ((HW _).out)) | (simp [(bcell hC).1, hai, hei, hae, hae', hen, heb]; done) | (simp [(bcell hC).1, hai, hei, hae, hae', hen, heb]; rfl))); go_big_quiet_on)))
        refine wpQuiet_nil ?_
        intro w2 hb2
        obtain ⟨hc2, hf2, hz2⟩ := bcell hb2
        have HOL2 := Lib.hid ((HOL.out.below hb2 (Nat.le_refl _)).wide (Nat.le_refl _) hb2.size)
        have HB2 := Lib.hid (HB1.out.trans (hb2.mono HB1.out.size))
        clear hb2
        go_wp2_with fail
        go_ret2
        rw [← HF.out]
        exact ⟨A, c, rfl, HOL2.out, HB2.out⟩
end Go.Proofs.Ytpfppkjikkihfaa
