/- SignerOk of the program and of the reference. -/
import Derived.Test.YteifmlmmfghjjaaFamVote
import Derived.Test.YteifmlmmfghjjaaB
import Derived.WalkKit
import Derived.WalkSpells
import Derived.WalkLawsBesides
import Derived.Lib.Hide
namespace Go.Proofs.Yteifmlmmfghjjaa
open Go.RowKit

structure SignS where
  val : Int
  dh : Int
  dr : Int
  ds : Int
  di : ByteArray
  mh : Int
  mr : Int
  ms : Int
  mi : ByteArray
  pend : Bool
def okVote (val : Int) (_ : Nat) (v : VoteD) : Bool := voteB v.h v.r v.st v.id v.v && (v.v == val)
def memZero (s : SignS) : Bool := s.mh == 0 && (s.mr == 0 && (s.ms == 0 && s.mi.toList.isEmpty))
def sameG (s : SignS) : Bool := s.dh == s.mh && (s.dr == s.mr && (s.ds == s.ms && (s.di.toList == s.mi.toList)))
def signB (s : SignS) (l : List VoteD) : Bool :=
  allTo (okVote s.val) l l.length && !((s.pend && memZero s) || (!s.pend && !(sameG s))) && (inB s.val 1 99 && guardB s.dh s.dr s.ds s.di && guardB s.mh s.mr s.ms s.mi && decide ((l.length : Int) ≤ 60))

set_option maxHeartbeats 2000000 in
theorem SignerOk_any (s : SignS) (A : Option Addr) (n c : Nat) (l : List VoteD) (w : World) (hl : RdL voteC 5 w w.heap.size A n c l) :
    Calls Try.prog 11 #[.agg #[.int .i64 s.val, .int .i64 s.dh, .int .i64 s.dr, .int .i64 s.ds, .string s.di, .int .i64 s.mh, .int .i64 s.mr, .int .i64 s.ms, .string s.mi, .bool s.pend, .slice A n c]] w fun e w' => e = .returned (.bool (signB s l)) ∧ Below w.heap.size w w' := by
  obtain ⟨val, dh, dr, ds, di, mh, mr, ms, mi, pend⟩ := s
  have hn := hl.le
  have HL := Lib.hid (hl.alloc (Nat.le_refl _) (Obj.cells #[.int .i64 val, .int .i64 dh, .int .i64 dr, .int .i64 ds, .string di, .int .i64 mh, .int .i64 mr, .int .i64 ms, .string mi, .bool pend, .slice A n c] 32))
  have H0 := Lib.hid hl.1
  clear hl
  go_enter Try.func11, Try.ntmps11
  go_wp2_with fail
  go_loopw [8] (fun i wr => ∃ k : Nat, k ≤ n ∧ i = .int .i64 k ∧ Below (w.heap.size + 1) (w.alloc (Obj.cells #[.int .i64 val, .int .i64 dh, .int .i64 dr, .int .i64 ds, .string di, .int .i64 mh, .int .i64 mr, .int .i64 ms, .string mi, .bool pend, .slice A n c] 32)) wr ∧ allTo (okVote val) l k = true) (fun i _ => n - (intOf i).toNat)
  case atStart => exact ⟨0, by omega, rfl, Below.refl _ _, allTo_zero _ _⟩
  case round =>
    obtain ⟨k, hk, rfl, hb, hno⟩ := hrel
    have HN := Lib.hid hno; clear hno
    have hz : w.heap.size < wr.heap.size := by have := hb.size; simp at this; omega
    have HB : Hid (Below w.heap.size w wr) := ((Below.refl _ _).alloc (Nat.le_refl _) _).trans (hb.mono (by omega))
    have t0 : wr.cell? ⟨w.heap.size, 0, none⟩ = some (.int .i64 val) := by rw [hb.cell (p := ⟨w.heap.size, 0, none⟩) (by show w.heap.size < w.heap.size + 1; omega)]; simp
    have t1 : wr.cell? ⟨w.heap.size, 1, none⟩ = some (.int .i64 dh) := by rw [hb.cell (p := ⟨w.heap.size, 1, none⟩) (by show w.heap.size < w.heap.size + 1; omega)]; simp
    have t2 : wr.cell? ⟨w.heap.size, 2, none⟩ = some (.int .i64 dr) := by rw [hb.cell (p := ⟨w.heap.size, 2, none⟩) (by show w.heap.size < w.heap.size + 1; omega)]; simp
    have t3 : wr.cell? ⟨w.heap.size, 3, none⟩ = some (.int .i64 ds) := by rw [hb.cell (p := ⟨w.heap.size, 3, none⟩) (by show w.heap.size < w.heap.size + 1; omega)]; simp
    have t4 : wr.cell? ⟨w.heap.size, 4, none⟩ = some (.string di) := by rw [hb.cell (p := ⟨w.heap.size, 4, none⟩) (by show w.heap.size < w.heap.size + 1; omega)]; simp
    have t5 : wr.cell? ⟨w.heap.size, 5, none⟩ = some (.int .i64 mh) := by rw [hb.cell (p := ⟨w.heap.size, 5, none⟩) (by show w.heap.size < w.heap.size + 1; omega)]; simp
    have t6 : wr.cell? ⟨w.heap.size, 6, none⟩ = some (.int .i64 mr) := by rw [hb.cell (p := ⟨w.heap.size, 6, none⟩) (by show w.heap.size < w.heap.size + 1; omega)]; simp
    have t7 : wr.cell? ⟨w.heap.size, 7, none⟩ = some (.int .i64 ms) := by rw [hb.cell (p := ⟨w.heap.size, 7, none⟩) (by show w.heap.size < w.heap.size + 1; omega)]; simp
    have t8 : wr.cell? ⟨w.heap.size, 8, none⟩ = some (.string mi) := by rw [hb.cell (p := ⟨w.heap.size, 8, none⟩) (by show w.heap.size < w.heap.size + 1; omega)]; simp
    have t9 : wr.cell? ⟨w.heap.size, 9, none⟩ = some (.bool pend) := by rw [hb.cell (p := ⟨w.heap.size, 9, none⟩) (by show w.heap.size < w.heap.size + 1; omega)]; simp
    have t10 : wr.cell? ⟨w.heap.size, 10, none⟩ = some (.slice A n c) := by rw [hb.cell (p := ⟨w.heap.size, 10, none⟩) (by show w.heap.size < w.heap.size + 1; omega)]; simp
    by_cases hkn : k < n
    · have HR := Lib.hid (HL.out.below hb (by omega))
      obtain ⟨b, off, p, rfl, hb1, hp, c0, c1, c2, c3, c4⟩ := vote_cells HR.out hkn
      have hb2 : b < wr.heap.size := by omega
      have HP := Lib.hid hp; clear hp
      cases g1 : voteB p.h p.r p.st p.id p.v
      · go_wp2_with (go_at_call 35; (with_reducible refine (VoteOk_any _ _ _ _ _ _).mono ?_); rintro e w1 ⟨rfl, hb3⟩; have HB3 := Lib.hid hb3; obtain ⟨hc, hf, hz1⟩ := bcell hb3; have hy : wr.heap.size < w1.heap.size := (by simp at hz1; omega))
        first
          | (go_ret
             exact ⟨by rw [show signB ⟨val, dh, dr, ds, di, mh, mr, ms, mi, pend⟩ l = false from by simp only [signB, allTo_no HP.out (show okVote val k p = false from by simp [okVote, *]), Bool.false_and]]; rfl, (HB.out.alloc (Nat.le_of_lt hz) _).trans (HB3.out.mono (by simp; omega))⟩)
          | (go_roundw
             case rel => exact ⟨k + 1, by omega, by go_num, (hb.alloc (by omega) _).trans (HB3.out.mono (by simp; omega)), by rw [allTo_succ HP.out, HN.out]; simp [okVote, *]⟩
             case measure => simp [intOf]; omega)
      · cases g2 : (p.v == val)
        · go_wp2_with (go_at_call 35; (with_reducible refine (VoteOk_any _ _ _ _ _ _).mono ?_); rintro e w1 ⟨rfl, hb3⟩; have HB3 := Lib.hid hb3; obtain ⟨hc, hf, hz1⟩ := bcell hb3; have hy : wr.heap.size < w1.heap.size := (by simp at hz1; omega))
          first
            | (go_ret
               exact ⟨by rw [show signB ⟨val, dh, dr, ds, di, mh, mr, ms, mi, pend⟩ l = false from by simp only [signB, allTo_no HP.out (show okVote val k p = false from by simp [okVote, *]), Bool.false_and]]; rfl, (HB.out.alloc (Nat.le_of_lt hz) _).trans (HB3.out.mono (by simp; omega))⟩)
            | (go_roundw
               case rel => exact ⟨k + 1, by omega, by go_num, (hb.alloc (by omega) _).trans (HB3.out.mono (by simp; omega)), by rw [allTo_succ HP.out, HN.out]; simp [okVote, *]⟩
               case measure => simp [intOf]; omega)
        · go_wp2_with (go_at_call 35; (with_reducible refine (VoteOk_any _ _ _ _ _ _).mono ?_); rintro e w1 ⟨rfl, hb3⟩; have HB3 := Lib.hid hb3; obtain ⟨hc, hf, hz1⟩ := bcell hb3; have hy : wr.heap.size < w1.heap.size := (by simp at hz1; omega))
          first
            | (go_ret
               exact ⟨by rw [show signB ⟨val, dh, dr, ds, di, mh, mr, ms, mi, pend⟩ l = false from by simp only [signB, allTo_no HP.out (show okVote val k p = false from by simp [okVote, *]), Bool.false_and]]; rfl, (HB.out.alloc (Nat.le_of_lt hz) _).trans (HB3.out.mono (by simp; omega))⟩)
            | (go_roundw
               case rel => exact ⟨k + 1, by omega, by go_num, (hb.alloc (by omega) _).trans (HB3.out.mono (by simp; omega)), by rw [allTo_succ HP.out, HN.out]; simp [okVote, *]⟩
               case measure => simp [intOf]; omega)
    · obtain rfl : k = n := by omega
      have hA : allTo (okVote val) l l.length = true := by rw [H0.out]; exact HN.out
      have hlen : (l.length : Int) = k := by rw [H0.out]
      have HLN := Lib.hid hlen
      clear hlen
      cases pend
      · cases g2 : (dh == mh && (dr == mr && (ds == ms && (di.toList == mi.toList))))
        · have HE : Hid (signB ⟨val, dh, dr, ds, di, mh, mr, ms, mi, false⟩ l = false) := by show _ = _; unfold signB sameG memZero; rw [hA]; simp only [g2]; simp
          clear hA
          go_wp2_with (first | (go_at_call 36; (with_reducible refine (isVal_any _ _).mono ?_); rintro e w' ⟨rfl, rfl⟩) | (go_at_call 37; (with_reducible refine (GuardOk_any _ _ _ _ _).mono ?_); rintro e w1 ⟨rfl, hb3⟩; obtain ⟨hc, hf, hz1⟩ := bcell hb3; have hy : w.heap.size < w1.heap.size := (by omega)))
          all_goals go_ret
          all_goals refine ⟨?_, HB.out.trans (Below.mono (B := wr.heap.size) (by repeat (first | exact Below.refl _ _ | assumption | refine Below.drew ?_ | refine belN ?_ _ | refine Below.alloc ?_ (by first | exact Nat.le_refl _ | (simp; done) | (simp; omega) | omega) _ | refine Below.setCell ?_ (by first | exact Nat.le_refl _ | (simp; done) | (simp; omega) | omega) _ | refine Below.trans ?_ (Below.mono (by assumption) (by first | exact Nat.le_refl _ | (simp; done) | (simp; omega) | omega)))) HB.out.size)⟩
          all_goals rw [HE.out]
          all_goals (try rw [HLN.out])
          all_goals (try simp_all)
          all_goals (try omega)
        · have HE : Hid (signB ⟨val, dh, dr, ds, di, mh, mr, ms, mi, false⟩ l = (inB val 1 99 && guardB dh dr ds di && guardB mh mr ms mi && decide ((l.length : Int) ≤ 60))) := by show _ = _; unfold signB sameG memZero; rw [hA]; simp only [g2]; simp
          clear hA
          go_wp2_with (first | (go_at_call 36; (with_reducible refine (isVal_any _ _).mono ?_); rintro e w' ⟨rfl, rfl⟩) | (go_at_call 37; (with_reducible refine (GuardOk_any _ _ _ _ _).mono ?_); rintro e w1 ⟨rfl, hb3⟩; obtain ⟨hc, hf, hz1⟩ := bcell hb3; have hy : w.heap.size < w1.heap.size := (by omega)))
          all_goals go_ret
          all_goals refine ⟨?_, HB.out.trans (Below.mono (B := wr.heap.size) (by repeat (first | exact Below.refl _ _ | assumption | refine Below.drew ?_ | refine belN ?_ _ | refine Below.alloc ?_ (by first | exact Nat.le_refl _ | (simp; done) | (simp; omega) | omega) _ | refine Below.setCell ?_ (by first | exact Nat.le_refl _ | (simp; done) | (simp; omega) | omega) _ | refine Below.trans ?_ (Below.mono (by assumption) (by first | exact Nat.le_refl _ | (simp; done) | (simp; omega) | omega)))) HB.out.size)⟩
          all_goals rw [HE.out]
          all_goals (try rw [HLN.out])
          all_goals (try simp_all)
          all_goals (try omega)
      · cases g2 : (mh == 0 && (mr == 0 && (ms == 0 && mi.toList.isEmpty)))
        · have HE : Hid (signB ⟨val, dh, dr, ds, di, mh, mr, ms, mi, true⟩ l = (inB val 1 99 && guardB dh dr ds di && guardB mh mr ms mi && decide ((l.length : Int) ≤ 60))) := by show _ = _; unfold signB sameG memZero; rw [hA]; simp only [g2]; simp
          clear hA
          go_wp2_with (first | (go_at_call 36; (with_reducible refine (isVal_any _ _).mono ?_); rintro e w' ⟨rfl, rfl⟩) | (go_at_call 37; (with_reducible refine (GuardOk_any _ _ _ _ _).mono ?_); rintro e w1 ⟨rfl, hb3⟩; obtain ⟨hc, hf, hz1⟩ := bcell hb3; have hy : w.heap.size < w1.heap.size := (by omega)))
          all_goals go_ret
          all_goals refine ⟨?_, HB.out.trans (Below.mono (B := wr.heap.size) (by repeat (first | exact Below.refl _ _ | assumption | refine Below.drew ?_ | refine belN ?_ _ | refine Below.alloc ?_ (by first | exact Nat.le_refl _ | (simp; done) | (simp; omega) | omega) _ | refine Below.setCell ?_ (by first | exact Nat.le_refl _ | (simp; done) | (simp; omega) | omega) _ | refine Below.trans ?_ (Below.mono (by assumption) (by first | exact Nat.le_refl _ | (simp; done) | (simp; omega) | omega)))) HB.out.size)⟩
          all_goals rw [HE.out]
          all_goals (try rw [HLN.out])
          all_goals (try simp_all)
          all_goals (try omega)
        · have HE : Hid (signB ⟨val, dh, dr, ds, di, mh, mr, ms, mi, true⟩ l = false) := by show _ = _; unfold signB sameG memZero; rw [hA]; simp only [g2]; simp
          clear hA
          go_wp2_with (first | (go_at_call 36; (with_reducible refine (isVal_any _ _).mono ?_); rintro e w' ⟨rfl, rfl⟩) | (go_at_call 37; (with_reducible refine (GuardOk_any _ _ _ _ _).mono ?_); rintro e w1 ⟨rfl, hb3⟩; obtain ⟨hc, hf, hz1⟩ := bcell hb3; have hy : w.heap.size < w1.heap.size := (by omega)))
          all_goals go_ret
          all_goals refine ⟨?_, HB.out.trans (Below.mono (B := wr.heap.size) (by repeat (first | exact Below.refl _ _ | assumption | refine Below.drew ?_ | refine belN ?_ _ | refine Below.alloc ?_ (by first | exact Nat.le_refl _ | (simp; done) | (simp; omega) | omega) _ | refine Below.setCell ?_ (by first | exact Nat.le_refl _ | (simp; done) | (simp; omega) | omega) _ | refine Below.trans ?_ (Below.mono (by assumption) (by first | exact Nat.le_refl _ | (simp; done) | (simp; omega) | omega)))) HB.out.size)⟩
          all_goals rw [HE.out]
          all_goals (try rw [HLN.out])
          all_goals (try simp_all)
          all_goals (try omega)
end Go.Proofs.Yteifmlmmfghjjaa
