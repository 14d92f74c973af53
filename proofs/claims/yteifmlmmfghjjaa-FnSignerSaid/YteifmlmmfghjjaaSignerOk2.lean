/- SignerOk of the reference. -/
import Derived.Test.YteifmlmmfghjjaaSignerOk
import Derived.WalkKit
import Derived.WalkSpells
import Derived.WalkLawsBesides
import Derived.Lib.Hide
namespace Go.Proofs.Yteifmlmmfghjjaa
open Go.RowKit

def headB (s : SignS) (l : List VoteD) : Bool :=
  !((s.pend && memZero s) || (!s.pend && !(sameG s))) && (inB s.val 1 99 && guardB s.dh s.dr s.ds s.di && guardB s.mh s.mr s.ms s.mi && decide ((l.length : Int) ≤ 60))
theorem signB_no {s : SignS} {l : List VoteD} (h : headB s l = false) : signB s l = false := by
  unfold signB; unfold headB at h; rw [Bool.and_assoc, h, Bool.and_false]
theorem signB_all {s : SignS} {l : List VoteD} (h : headB s l = true) : signB s l = allTo (okVote s.val) l l.length := by
  unfold signB; unfold headB at h; rw [Bool.and_assoc, h, Bool.and_true]

set_option maxHeartbeats 4000000 in
theorem sSignerOk_any (s : SignS) (A : Option Addr) (n c : Nat) (l : List VoteD) (w : World) (hl : RdL voteC 5 w w.heap.size A n c l) :
    Calls Try.prog 9 #[.agg #[.int .i64 s.val, .int .i64 s.dh, .int .i64 s.dr, .int .i64 s.ds, .string s.di, .int .i64 s.mh, .int .i64 s.mr, .int .i64 s.ms, .string s.mi, .bool s.pend, .slice A n c]] w fun e w' => e = .returned (.bool (signB s l)) ∧ Below w.heap.size w w' := by
  obtain ⟨val, dh, dr, ds, di, mh, mr, ms, mi, pend⟩ := s
  have hn := hl.le
  have HL := Lib.hid (hl.alloc (Nat.le_refl _) (Obj.cells #[.int .i64 val, .int .i64 dh, .int .i64 dr, .int .i64 ds, .string di, .int .i64 mh, .int .i64 mr, .int .i64 ms, .string mi, .bool pend, .slice A n c] 32))
  have H0 := Lib.hid hl.1
  clear hl
  cases h1 : inB val 1 99
  · have HE : Hid (signB ⟨val, dh, dr, ds, di, mh, mr, ms, mi, pend⟩ l = false) := signB_no (by simp [headB, h1])
    go_enter Try.func9, Try.ntmps9
    go_wp2_with (first | (go_at_call 30; (with_reducible refine (l1In_any _ _ _ _).mono ?_); rintro e w' ⟨rfl, rfl⟩) | (go_at_call 31; (with_reducible refine (sGuardOk_any _ _ _ _ _).mono ?_); rintro e w1 ⟨rfl, hb3⟩; obtain ⟨hc, hf, hz1⟩ := bcell hb3; have hy : w.heap.size < w1.heap.size := (by (try simp at hz1); omega)))
    go_ret
    exact ⟨by rw [HE.out]; rfl, (by repeat (first | exact Below.refl _ _ | assumption | refine Below.drew ?_ | refine belN ?_ _ | refine Below.alloc ?_ (by first | exact Nat.le_refl _ | (simp; done) | (simp; omega) | omega) _ | refine Below.setCell ?_ (by first | exact Nat.le_refl _ | (simp; done) | (simp; omega) | omega) _ | refine Below.trans ?_ (Below.mono (by assumption) (by first | exact Nat.le_refl _ | (simp; done) | (simp; omega) | omega))))⟩
  cases h2 : guardB dh dr ds di
  · have HE : Hid (signB ⟨val, dh, dr, ds, di, mh, mr, ms, mi, pend⟩ l = false) := signB_no (by simp [headB, h2])
    go_enter Try.func9, Try.ntmps9
    go_wp2_with (first | (go_at_call 30; (with_reducible refine (l1In_any _ _ _ _).mono ?_); rintro e w' ⟨rfl, rfl⟩) | (go_at_call 31; (with_reducible refine (sGuardOk_any _ _ _ _ _).mono ?_); rintro e w1 ⟨rfl, hb3⟩; obtain ⟨hc, hf, hz1⟩ := bcell hb3; have hy : w.heap.size < w1.heap.size := (by (try simp at hz1); omega)))
    go_ret
    exact ⟨by rw [HE.out]; rfl, (by repeat (first | exact Below.refl _ _ | assumption | refine Below.drew ?_ | refine belN ?_ _ | refine Below.alloc ?_ (by first | exact Nat.le_refl _ | (simp; done) | (simp; omega) | omega) _ | refine Below.setCell ?_ (by first | exact Nat.le_refl _ | (simp; done) | (simp; omega) | omega) _ | refine Below.trans ?_ (Below.mono (by assumption) (by first | exact Nat.le_refl _ | (simp; done) | (simp; omega) | omega))))⟩
  cases h3 : guardB mh mr ms mi
  · have HE : Hid (signB ⟨val, dh, dr, ds, di, mh, mr, ms, mi, pend⟩ l = false) := signB_no (by simp [headB, h3])
    go_enter Try.func9, Try.ntmps9
    go_wp2_with (first | (go_at_call 30; (with_reducible refine (l1In_any _ _ _ _).mono ?_); rintro e w' ⟨rfl, rfl⟩) | (go_at_call 31; (with_reducible refine (sGuardOk_any _ _ _ _ _).mono ?_); rintro e w1 ⟨rfl, hb3⟩; obtain ⟨hc, hf, hz1⟩ := bcell hb3; have hy : w.heap.size < w1.heap.size := (by (try simp at hz1); omega)))
    go_ret
    exact ⟨by rw [HE.out]; rfl, (by repeat (first | exact Below.refl _ _ | assumption | refine Below.drew ?_ | refine belN ?_ _ | refine Below.alloc ?_ (by first | exact Nat.le_refl _ | (simp; done) | (simp; omega) | omega) _ | refine Below.setCell ?_ (by first | exact Nat.le_refl _ | (simp; done) | (simp; omega) | omega) _ | refine Below.trans ?_ (Below.mono (by assumption) (by first | exact Nat.le_refl _ | (simp; done) | (simp; omega) | omega))))⟩
  have h5 : n ≤ 60 ∨ 60 < n := by omega
  cases pend
  · cases g2 : (dh == mh && (dr == mr && (ds == ms && (di.toList == mi.toList))))
    · have HE : Hid (signB ⟨val, dh, dr, ds, di, mh, mr, ms, mi, false⟩ l = false) := signB_no (by simp only [headB, sameG, memZero, g2]; rfl)
      go_enter Try.func9, Try.ntmps9
      go_wp2_with (first | (go_at_call 30; (with_reducible refine (l1In_any _ _ _ _).mono ?_); rintro e w' ⟨rfl, rfl⟩) | (go_at_call 31; (with_reducible refine (sGuardOk_any _ _ _ _ _).mono ?_); rintro e w1 ⟨rfl, hb3⟩; obtain ⟨hc, hf, hz1⟩ := bcell hb3; have hy : w.heap.size < w1.heap.size := (by (try simp at hz1); omega)))
      all_goals first
        | (go_ret; exact ⟨by rw [HE.out]; rfl, (by repeat (first | exact Below.refl _ _ | assumption | refine Below.drew ?_ | refine belN ?_ _ | refine Below.alloc ?_ (by first | exact Nat.le_refl _ | (simp; done) | (simp; omega) | omega) _ | refine Below.setCell ?_ (by first | exact Nat.le_refl _ | (simp; done) | (simp; omega) | omega) _ | refine Below.trans ?_ (Below.mono (by assumption) (by first | exact Nat.le_refl _ | (simp; done) | (simp; omega) | omega))))⟩)
        | (exfalso; simp_all; done)
    · rcases h5 with h5 | h5
      · have HE : Hid (signB ⟨val, dh, dr, ds, di, mh, mr, ms, mi, false⟩ l = allTo (okVote val) l l.length) := signB_all (by simp only [headB, sameG, memZero, g2, h1, h2, h3, H0.out]; simp; omega)
        have g3 := g2
        simp only [Bool.and_eq_true, beq_iff_eq] at g3
        obtain ⟨rfl, rfl, rfl, g4⟩ := g3
        go_enter Try.func9, Try.ntmps9
        go_wp2_with (first | (go_at_call 30; (with_reducible refine (l1In_any _ _ _ _).mono ?_); rintro e w' ⟨rfl, rfl⟩) | (go_at_call 31; (with_reducible refine (sGuardOk_any _ _ _ _ _).mono ?_); rintro e w1 ⟨rfl, hb3⟩; obtain ⟨hc, hf, hz1⟩ := bcell hb3; have hy : w.heap.size < w1.heap.size := (by (try simp at hz1); omega)))
        have HW : Hid (Below w.heap.size w w1) := (by repeat (first | exact Below.refl _ _ | assumption | refine Below.drew ?_ | refine belN ?_ _ | refine Below.alloc ?_ (by first | exact Nat.le_refl _ | (simp; done) | (simp; omega) | omega) _ | refine Below.setCell ?_ (by first | exact Nat.le_refl _ | (simp; done) | (simp; omega) | omega) _ | refine Below.trans ?_ (Below.mono (by assumption) (by first | exact Nat.le_refl _ | (simp; done) | (simp; omega) | omega))))
        have hz2 : w.heap.size < w1.heap.size := by omega
        have hs0 : w1.cell? ⟨w.heap.size, 0, none⟩ = some (.int .i64 val) := by go_simp
        have hs10 : w1.cell? ⟨w.heap.size, 10, none⟩ = some (.slice A n c) := by go_simp
        have HL1 : Hid (RdL voteC 5 w1 w.heap.size A n c l) := HL.out.keep (fun b o hb => by rw [HW.out.cell (p := ⟨b, o, none⟩) hb]; rw [World.cell?_alloc_lt w _ _ (by exact hb)])
        clear hc hf hb3
        go_loopw [3] (fun i wr => ∃ k : Nat, k ≤ n ∧ i = .int .i64 k ∧ Below w1.heap.size w1 wr ∧ allTo (okVote val) l k = true) (fun i _ => n - (intOf i).toNat)
        case atStart => exact ⟨0, by omega, rfl, Below.refl _ _, allTo_zero _ _⟩
        case round =>
          obtain ⟨k, hk, rfl, hb, hno⟩ := hrel
          have HN := Lib.hid hno; clear hno
          have hz : w.heap.size < wr.heap.size := by have := hb.size; omega
          have HB : Hid (Below w.heap.size w wr) := HW.out.trans (hb.mono (by omega))
          have t0 : wr.cell? ⟨w.heap.size, 0, none⟩ = some (.int .i64 val) := by rw [hb.cell (p := ⟨w.heap.size, 0, none⟩) hz2]; exact hs0
          have t10 : wr.cell? ⟨w.heap.size, 10, none⟩ = some (.slice A n c) := by rw [hb.cell (p := ⟨w.heap.size, 10, none⟩) hz2]; exact hs10
          by_cases hkn : k < n
          · have HR := Lib.hid (HL1.out.below hb (by omega))
            obtain ⟨b, off, p, rfl, hb1, hp, c0, c1, c2, c3, c4⟩ := vote_cells HR.out hkn
            have hbl : b < wr.heap.size := by omega
            have HP := Lib.hid hp; clear hp
            cases g1 : voteB p.h p.r p.st p.id p.v
            · have HF : Hid (allTo (okVote val) l l.length = false) := allTo_no HP.out (by simp [okVote, g1])
              go_wp2_with fail
              refine wp_region_below (by kernel_rfl) (by kernel_rfl) ?_
              repeat (first | go_big_quiet_skip | (go_big_quiet_want; go_big_quiet_op; first | go_big_quiet_on | (apply Exists.intro; refine ⟨fun w1 hC => ?_, ?_⟩; (focus (first | rfl | (go_at_call 32; exact quiet_below hC (sVoteOk_any _ _ _ _ _ _)) | (simp [(bcell hC).1, hbl, hz, t10, c0, c1, c2, c3, c4]; done) | (simp [(bcell hC).1, hbl, hz, t10, c0, c1, c2, c3, c4]; rfl))); go_big_quiet_on)))
              refine wpQuiet_nil ?_
              intro w2 hb2
              obtain ⟨hc2, hf2, hz2⟩ := bcell hb2
              go_wp2
              go_ret
              exact ⟨by rw [HE.out, HF.out]; rfl, HB.out.trans (hb2.mono (by omega))⟩
            · cases g2 : (p.v == val)
              · have HF : Hid (allTo (okVote val) l l.length = false) := allTo_no HP.out (by simp [okVote, g1, g2])
                go_wp2_with fail
                refine wp_region_below (by kernel_rfl) (by kernel_rfl) ?_
                repeat (first | go_big_quiet_skip | (go_big_quiet_want; go_big_quiet_op; first | go_big_quiet_on | (apply Exists.intro; refine ⟨fun w1 hC => ?_, ?_⟩; (focus (first | rfl | (go_at_call 32; exact quiet_below hC (sVoteOk_any _ _ _ _ _ _)) | (simp [(bcell hC).1, hbl, hz, t0, t10, c0, c1, c2, c3, c4]; done) | (simp [(bcell hC).1, hbl, hz, t0, t10, c0, c1, c2, c3, c4]; rfl))); go_big_quiet_on)))
                refine wpQuiet_nil ?_
                intro w2 hb2
                obtain ⟨hc2, hf2, hz2⟩ := bcell hb2
                go_wp2
                go_ret
                exact ⟨by rw [HE.out, HF.out]; rfl, HB.out.trans (hb2.mono (by omega))⟩
              · have HF : Hid (okVote val k p = true) := by show _ = _; simp [okVote, g1, g2]
                go_wp2_with fail
                refine wp_region_below (by kernel_rfl) (by kernel_rfl) ?_
                repeat (first | go_big_quiet_skip | (go_big_quiet_want; go_big_quiet_op; first | go_big_quiet_on | (apply Exists.intro; refine ⟨fun w1 hC => ?_, ?_⟩; (focus (first | rfl | (go_at_call 32; exact quiet_below hC (sVoteOk_any _ _ _ _ _ _)) | (simp [(bcell hC).1, hbl, hz, t0, t10, c0, c1, c2, c3, c4]; done) | (simp [(bcell hC).1, hbl, hz, t0, t10, c0, c1, c2, c3, c4]; rfl))); go_big_quiet_on)))
                refine wpQuiet_nil ?_
                intro w2 hb2
                obtain ⟨hc2, hf2, hz2⟩ := bcell hb2
                go_wp2
                go_roundw
                case rel => exact ⟨k + 1, by omega, by go_num, hb.trans (hb2.mono hb.size), by rw [allTo_succ HP.out, HN.out, HF.out]; rfl⟩
                case measure => simp [intOf]; omega
          · obtain rfl : k = n := by omega
            have HF : Hid (allTo (okVote val) l l.length = true) := by show _ = _; rw [H0.out]; exact HN.out
            go_wp2
            go_ret
            exact ⟨by rw [HE.out, HF.out]; rfl, HB.out⟩
      · have HE : Hid (signB ⟨val, dh, dr, ds, di, mh, mr, ms, mi, false⟩ l = false) := signB_no (by simp only [headB, sameG, memZero, g2, h1, h2, h3, H0.out]; simp; omega)
        have g3 := g2
        simp only [Bool.and_eq_true, beq_iff_eq] at g3
        obtain ⟨rfl, rfl, rfl, g4⟩ := g3
        go_enter Try.func9, Try.ntmps9
        go_wp2_with (first | (go_at_call 30; (with_reducible refine (l1In_any _ _ _ _).mono ?_); rintro e w' ⟨rfl, rfl⟩) | (go_at_call 31; (with_reducible refine (sGuardOk_any _ _ _ _ _).mono ?_); rintro e w1 ⟨rfl, hb3⟩; obtain ⟨hc, hf, hz1⟩ := bcell hb3; have hy : w.heap.size < w1.heap.size := (by (try simp at hz1); omega)))
        go_ret
        exact ⟨by rw [HE.out]; rfl, (by repeat (first | exact Below.refl _ _ | assumption | refine Below.drew ?_ | refine belN ?_ _ | refine Below.alloc ?_ (by first | exact Nat.le_refl _ | (simp; done) | (simp; omega) | omega) _ | refine Below.setCell ?_ (by first | exact Nat.le_refl _ | (simp; done) | (simp; omega) | omega) _ | refine Below.trans ?_ (Below.mono (by assumption) (by first | exact Nat.le_refl _ | (simp; done) | (simp; omega) | omega))))⟩
  · cases g2 : (mh == 0 && (mr == 0 && (ms == 0 && mi.toList.isEmpty)))
    · have g5 := g2
      simp only [Bool.and_eq_false_iff, beq_eq_false_iff_ne, ne_eq] at g5
      rcases h5 with h5 | h5
      · have HE : Hid (signB ⟨val, dh, dr, ds, di, mh, mr, ms, mi, true⟩ l = allTo (okVote val) l l.length) := signB_all (by simp only [headB, sameG, memZero, g2, h1, h2, h3, H0.out]; simp; omega)
        go_enter Try.func9, Try.ntmps9
        go_wp2_with (first | (go_at_call 30; (with_reducible refine (l1In_any _ _ _ _).mono ?_); rintro e w' ⟨rfl, rfl⟩) | (go_at_call 31; (with_reducible refine (sGuardOk_any _ _ _ _ _).mono ?_); rintro e w1 ⟨rfl, hb3⟩; obtain ⟨hc, hf, hz1⟩ := bcell hb3; have hy : w.heap.size < w1.heap.size := (by (try simp at hz1); omega)))
        all_goals first
          | (exfalso; simp_all; done)
          | skip
        all_goals
          have HW : Hid (Below w.heap.size w w1) := (by repeat (first | exact Below.refl _ _ | assumption | refine Below.drew ?_ | refine belN ?_ _ | refine Below.alloc ?_ (by first | exact Nat.le_refl _ | (simp; done) | (simp; omega) | omega) _ | refine Below.setCell ?_ (by first | exact Nat.le_refl _ | (simp; done) | (simp; omega) | omega) _ | refine Below.trans ?_ (Below.mono (by assumption) (by first | exact Nat.le_refl _ | (simp; done) | (simp; omega) | omega))))
          have hz2 : w.heap.size < w1.heap.size := by omega
          have hs0 : w1.cell? ⟨w.heap.size, 0, none⟩ = some (.int .i64 val) := by go_simp
          have hs10 : w1.cell? ⟨w.heap.size, 10, none⟩ = some (.slice A n c) := by go_simp
          have HL1 : Hid (RdL voteC 5 w1 w.heap.size A n c l) := HL.out.keep (fun b o hb => by rw [HW.out.cell (p := ⟨b, o, none⟩) hb]; rw [World.cell?_alloc_lt w _ _ (by exact hb)])
          clear hc hf hb3
          go_loopw [3] (fun i wr => ∃ k : Nat, k ≤ n ∧ i = .int .i64 k ∧ Below w1.heap.size w1 wr ∧ allTo (okVote val) l k = true) (fun i _ => n - (intOf i).toNat)
          case atStart => exact ⟨0, by omega, rfl, Below.refl _ _, allTo_zero _ _⟩
          case round =>
            obtain ⟨k, hk, rfl, hb, hno⟩ := hrel
            have HN := Lib.hid hno; clear hno
            have hz : w.heap.size < wr.heap.size := by have := hb.size; omega
            have HB : Hid (Below w.heap.size w wr) := HW.out.trans (hb.mono (by omega))
            have t0 : wr.cell? ⟨w.heap.size, 0, none⟩ = some (.int .i64 val) := by rw [hb.cell (p := ⟨w.heap.size, 0, none⟩) hz2]; exact hs0
            have t10 : wr.cell? ⟨w.heap.size, 10, none⟩ = some (.slice A n c) := by rw [hb.cell (p := ⟨w.heap.size, 10, none⟩) hz2]; exact hs10
            by_cases hkn : k < n
            · have HR := Lib.hid (HL1.out.below hb (by omega))
              obtain ⟨b, off, p, rfl, hb1, hp, c0, c1, c2, c3, c4⟩ := vote_cells HR.out hkn
              have hbl : b < wr.heap.size := by omega
              have HP := Lib.hid hp; clear hp
              cases g1 : voteB p.h p.r p.st p.id p.v
              · have HF : Hid (allTo (okVote val) l l.length = false) := allTo_no HP.out (by simp [okVote, g1])
                go_wp2_with fail
                refine wp_region_below (by kernel_rfl) (by kernel_rfl) ?_
                repeat (first | go_big_quiet_skip | (go_big_quiet_want; go_big_quiet_op; first | go_big_quiet_on | (apply Exists.intro; refine ⟨fun w1 hC => ?_, ?_⟩; (focus (first | rfl | (go_at_call 32; exact quiet_below hC (sVoteOk_any _ _ _ _ _ _)) | (simp [(bcell hC).1, hbl, hz, t10, c0, c1, c2, c3, c4]; done) | (simp [(bcell hC).1, hbl, hz, t10, c0, c1, c2, c3, c4]; rfl))); go_big_quiet_on)))
                refine wpQuiet_nil ?_
                intro w2 hb2
                obtain ⟨hc2, hf2, hz2⟩ := bcell hb2
                go_wp2
                go_ret
                exact ⟨by rw [HE.out, HF.out]; rfl, HB.out.trans (hb2.mono (by omega))⟩
              · cases g2 : (p.v == val)
                · have HF : Hid (allTo (okVote val) l l.length = false) := allTo_no HP.out (by simp [okVote, g1, g2])
                  go_wp2_with fail
                  refine wp_region_below (by kernel_rfl) (by kernel_rfl) ?_
                  repeat (first | go_big_quiet_skip | (go_big_quiet_want; go_big_quiet_op; first | go_big_quiet_on | (apply Exists.intro; refine ⟨fun w1 hC => ?_, ?_⟩; (focus (first | rfl | (go_at_call 32; exact quiet_below hC (sVoteOk_any _ _ _ _ _ _)) | (simp [(bcell hC).1, hbl, hz, t0, t10, c0, c1, c2, c3, c4]; done) | (simp [(bcell hC).1, hbl, hz, t0, t10, c0, c1, c2, c3, c4]; rfl))); go_big_quiet_on)))
                  refine wpQuiet_nil ?_
                  intro w2 hb2
                  obtain ⟨hc2, hf2, hz2⟩ := bcell hb2
                  go_wp2
                  go_ret
                  exact ⟨by rw [HE.out, HF.out]; rfl, HB.out.trans (hb2.mono (by omega))⟩
                · have HF : Hid (okVote val k p = true) := by show _ = _; simp [okVote, g1, g2]
                  go_wp2_with fail
                  refine wp_region_below (by kernel_rfl) (by kernel_rfl) ?_
                  repeat (first | go_big_quiet_skip | (go_big_quiet_want; go_big_quiet_op; first | go_big_quiet_on | (apply Exists.intro; refine ⟨fun w1 hC => ?_, ?_⟩; (focus (first | rfl | (go_at_call 32; exact quiet_below hC (sVoteOk_any _ _ _ _ _ _)) | (simp [(bcell hC).1, hbl, hz, t0, t10, c0, c1, c2, c3, c4]; done) | (simp [(bcell hC).1, hbl, hz, t0, t10, c0, c1, c2, c3, c4]; rfl))); go_big_quiet_on)))
                  refine wpQuiet_nil ?_
                  intro w2 hb2
                  obtain ⟨hc2, hf2, hz2⟩ := bcell hb2
                  go_wp2
                  go_roundw
                  case rel => exact ⟨k + 1, by omega, by go_num, hb.trans (hb2.mono hb.size), by rw [allTo_succ HP.out, HN.out, HF.out]; rfl⟩
                  case measure => simp [intOf]; omega
            · obtain rfl : k = n := by omega
              have HF : Hid (allTo (okVote val) l l.length = true) := by show _ = _; rw [H0.out]; exact HN.out
              go_wp2
              go_ret
              exact ⟨by rw [HE.out, HF.out]; rfl, HB.out⟩
      · have HE : Hid (signB ⟨val, dh, dr, ds, di, mh, mr, ms, mi, true⟩ l = false) := signB_no (by simp only [headB, sameG, memZero, g2, h1, h2, h3, H0.out]; simp; omega)
        go_enter Try.func9, Try.ntmps9
        go_wp2_with (first | (go_at_call 30; (with_reducible refine (l1In_any _ _ _ _).mono ?_); rintro e w' ⟨rfl, rfl⟩) | (go_at_call 31; (with_reducible refine (sGuardOk_any _ _ _ _ _).mono ?_); rintro e w1 ⟨rfl, hb3⟩; obtain ⟨hc, hf, hz1⟩ := bcell hb3; have hy : w.heap.size < w1.heap.size := (by (try simp at hz1); omega)))
        all_goals go_ret
        all_goals exact ⟨by rw [HE.out]; rfl, (by repeat (first | exact Below.refl _ _ | assumption | refine Below.drew ?_ | refine belN ?_ _ | refine Below.alloc ?_ (by first | exact Nat.le_refl _ | (simp; done) | (simp; omega) | omega) _ | refine Below.setCell ?_ (by first | exact Nat.le_refl _ | (simp; done) | (simp; omega) | omega) _ | refine Below.trans ?_ (Below.mono (by assumption) (by first | exact Nat.le_refl _ | (simp; done) | (simp; omega) | omega))))⟩
    · have HE : Hid (signB ⟨val, dh, dr, ds, di, mh, mr, ms, mi, true⟩ l = false) := signB_no (by simp only [headB, sameG, memZero, g2]; rfl)
      have g3 := g2
      simp only [Bool.and_eq_true, beq_iff_eq] at g3
      obtain ⟨rfl, rfl, rfl, g4⟩ := g3
      go_enter Try.func9, Try.ntmps9
      go_wp2_with (first | (go_at_call 30; (with_reducible refine (l1In_any _ _ _ _).mono ?_); rintro e w' ⟨rfl, rfl⟩) | (go_at_call 31; (with_reducible refine (sGuardOk_any _ _ _ _ _).mono ?_); rintro e w1 ⟨rfl, hb3⟩; obtain ⟨hc, hf, hz1⟩ := bcell hb3; have hy : w.heap.size < w1.heap.size := (by (try simp at hz1); omega)))
      go_ret
      exact ⟨by rw [HE.out]; rfl, (by repeat (first | exact Below.refl _ _ | assumption | refine Below.drew ?_ | refine belN ?_ _ | refine Below.alloc ?_ (by first | exact Nat.le_refl _ | (simp; done) | (simp; omega) | omega) _ | refine Below.setCell ?_ (by first | exact Nat.le_refl _ | (simp; done) | (simp; omega) | omega) _ | refine Below.trans ?_ (Below.mono (by assumption) (by first | exact Nat.le_refl _ | (simp; done) | (simp; omega) | omega))))⟩
end Go.Proofs.Yteifmlmmfghjjaa
