/- MaySign of the reference. -/
import Derived.Test.YteifmlmmfghjjaaMaySign
import Derived.Deep.QuietTactic
import Derived.BigQuiet
import Derived.WalkKit
import Derived.WalkSpells
import Derived.WalkLawsBesides
import Derived.Lib.Hide
namespace Go.Proofs.Yteifmlmmfghjjaa
open Go.RowKit

set_option maxHeartbeats 4000000 in
theorem sMaySign_any (gh gr gs : Int) (gi : ByteArray) (vh vr vs : Int) (vi : ByteArray) (vv : Int) (w : World) :
    Calls Try.prog 27 #[.agg #[.int .i64 gh, .int .i64 gr, .int .i64 gs, .string gi], .agg #[.int .i64 vh, .int .i64 vr, .int .i64 vs, .string vi, .int .i64 vv]] w fun e w' => e = .returned (.int .i64 (maySignN gh gr gs gi vh vr vs vi vv)) ∧ Below w.heap.size w w' := by
  cases h1 : guardB gh gr gs gi
  · have HE : Hid (maySignN gh gr gs gi vh vr vs vi vv = 2) := by show _ = _; simp [maySignN, h1]
    go_enter Try.func27, Try.ntmps27
    go_wp2_with (go_at_call 31; (with_reducible refine (sGuardOk_any _ _ _ _ _).mono ?_); rintro e w1 ⟨rfl, hb⟩; obtain ⟨hc, hf, hz⟩ := bcell hb; (try simp only [World.size_drew] at hz); (try simp only [World.size_alloc] at hz); have hy := nlt (by omega : w.heap.size + 2 ≤ w1.heap.size))
    go_ret; exact ⟨by rw [HE.out]; rfl, (by repeat (first | exact Below.refl _ _ | assumption | refine Below.drew ?_ | refine belN ?_ _ | refine Below.alloc ?_ (by first | exact Nat.le_refl _ | (simp; done) | (simp; omega) | omega) _ | refine Below.setCell ?_ (by first | exact Nat.le_refl _ | (simp; done) | (simp; omega) | omega) _ | refine Below.trans ?_ (Below.mono (by assumption) (by first | exact Nat.le_refl _ | (simp; done) | (simp; omega) | omega))))⟩
  cases h2 : voteB vh vr vs vi vv
  · have HE : Hid (maySignN gh gr gs gi vh vr vs vi vv = 2) := by show _ = _; simp [maySignN, h2]
    go_enter Try.func27, Try.ntmps27
    go_wp2_with (first | (go_at_call 31; (with_reducible refine (sGuardOk_any _ _ _ _ _).mono ?_); rintro e w1 ⟨rfl, hb⟩; obtain ⟨hc, hf, hz⟩ := bcell hb; (try simp only [World.size_drew] at hz); (try simp only [World.size_alloc] at hz); have hy := nlt (by omega : w.heap.size + 2 ≤ w1.heap.size)) | (go_at_call 32; (with_reducible refine (sVoteOk_any _ _ _ _ _ _).mono ?_); rintro e w1 ⟨rfl, hb⟩; obtain ⟨hc, hf, hz⟩ := bcell hb; (try simp only [World.size_drew] at hz); (try simp only [World.size_alloc] at hz); have hy := nlt (by omega : w.heap.size + 2 ≤ w1.heap.size)))
    go_ret; exact ⟨by rw [HE.out]; rfl, (by repeat (first | exact Below.refl _ _ | assumption | refine Below.drew ?_ | refine belN ?_ _ | refine Below.alloc ?_ (by first | exact Nat.le_refl _ | (simp; done) | (simp; omega) | omega) _ | refine Below.setCell ?_ (by first | exact Nat.le_refl _ | (simp; done) | (simp; omega) | omega) _ | refine Below.trans ?_ (Below.mono (by assumption) (by first | exact Nat.le_refl _ | (simp; done) | (simp; omega) | omega))))⟩
  go_enter Try.func27, Try.ntmps27
  go_wp2_with (first | (go_at_call 31; (with_reducible refine (sGuardOk_any _ _ _ _ _).mono ?_); rintro e w1 ⟨rfl, hb⟩; obtain ⟨hc, hf, hz⟩ := bcell hb; (try simp only [World.size_drew] at hz); (try simp only [World.size_alloc] at hz); have hy := nlt (by omega : w.heap.size + 2 ≤ w1.heap.size)) | (go_at_call 32; (with_reducible refine (sVoteOk_any _ _ _ _ _ _).mono ?_); rintro e w1 ⟨rfl, hb⟩; obtain ⟨hc, hf, hz⟩ := bcell hb; (try simp only [World.size_drew] at hz); (try simp only [World.size_alloc] at hz); have hy := nlt (by omega : w.heap.size + 2 ≤ w1.heap.size)))
  have HB0 : Hid (Below w.heap.size w w1) := (by repeat (first | exact Below.refl _ _ | assumption | refine Below.drew ?_ | refine belN ?_ _ | refine Below.alloc ?_ (by first | exact Nat.le_refl _ | (simp; done) | (simp; omega) | omega) _ | refine Below.setCell ?_ (by first | exact Nat.le_refl _ | (simp; done) | (simp; omega) | omega) _ | refine Below.trans ?_ (Below.mono (by assumption) (by first | exact Nat.le_refl _ | (simp; done) | (simp; omega) | omega))))
  have HB : Hid (Below w.heap.size w ((w1.alloc (Obj.cells #[.int .i64 vh, .int .i64 vr, .int .i64 vs] 3)).alloc (Obj.cells #[.int .i64 gh, .int .i64 gr, .int .i64 gs] 3))) := (HB0.out.alloc (by omega) _).alloc (by simp; omega) _
  go_loopw [7] (fun i wr => ∃ k : Nat, k ≤ 3 ∧ i = .int .i64 k ∧ (1 ≤ k → vh = gh) ∧ (2 ≤ k → vr = gr) ∧ (3 ≤ k → vs = gs) ∧ Below (w1.heap.size + 2) ((w1.alloc (Obj.cells #[.int .i64 vh, .int .i64 vr, .int .i64 vs] 3)).alloc (Obj.cells #[.int .i64 gh, .int .i64 gr, .int .i64 gs] 3)) wr) (fun i _ => 3 - (intOf i).toNat)
  case atStart => exact ⟨0, by omega, rfl, by omega, by omega, by omega, Below.refl _ _⟩
  case round =>
    obtain ⟨k, hk, rfl, e1, e2, e3, hb⟩ := hrel
    have E1 := Lib.hid e1; have E2 := Lib.hid e2; have E3 := Lib.hid e3
    clear e1 e2 e3
    have hww : w.heap.size ≤ w1.heap.size + 2 := by omega
    have t00 : wr.cell? ⟨w1.heap.size, 0, none⟩ = some (.int .i64 vh) := by rw [hb.cell (p := ⟨w1.heap.size, 0, none⟩) (by show w1.heap.size < w1.heap.size + 2; omega)]; simp
    have t01 : wr.cell? ⟨w1.heap.size, 1, none⟩ = some (.int .i64 vr) := by rw [hb.cell (p := ⟨w1.heap.size, 1, none⟩) (by show w1.heap.size < w1.heap.size + 2; omega)]; simp
    have t02 : wr.cell? ⟨w1.heap.size, 2, none⟩ = some (.int .i64 vs) := by rw [hb.cell (p := ⟨w1.heap.size, 2, none⟩) (by show w1.heap.size < w1.heap.size + 2; omega)]; simp
    have t10 : wr.cell? ⟨w1.heap.size + 1, 0, none⟩ = some (.int .i64 gh) := by rw [hb.cell (p := ⟨w1.heap.size + 1, 0, none⟩) (by show w1.heap.size + 1 < w1.heap.size + 2; omega)]; simp
    have t11 : wr.cell? ⟨w1.heap.size + 1, 1, none⟩ = some (.int .i64 gr) := by rw [hb.cell (p := ⟨w1.heap.size + 1, 1, none⟩) (by show w1.heap.size + 1 < w1.heap.size + 2; omega)]; simp
    have t12 : wr.cell? ⟨w1.heap.size + 1, 2, none⟩ = some (.int .i64 gs) := by rw [hb.cell (p := ⟨w1.heap.size + 1, 2, none⟩) (by show w1.heap.size + 1 < w1.heap.size + 2; omega)]; simp
    have HX : Hid (Below w.heap.size w wr) := HB.out.trans (hb.mono hww)
    have v3 : wr.cell? ⟨w.heap.size + 1, 3, none⟩ = some (.string vi) := by rw [hb.cell (p := ⟨w.heap.size + 1, 3, none⟩) (by show w.heap.size + 1 < w1.heap.size + 2; omega)]; go_simp
    have g3 : wr.cell? ⟨w.heap.size, 3, none⟩ = some (.string gi) := by rw [hb.cell (p := ⟨w.heap.size, 3, none⟩) (by show w.heap.size < w1.heap.size + 2; omega)]; go_simp
    rcases (by omega : k = 0 ∨ k = 1 ∨ k = 2 ∨ k = 3) with rfl | rfl | rfl | rfl
    · by_cases t1 : gh < vh
      · have HE : Hid (maySignN gh gr gs gi vh vr vs vi vv = 0) := by show _ = _; have e1 := E1.out; have e2 := E2.out; simp [maySignN, h1, h2]; omega
        have t2 : ¬ vh < gh := by omega
        go_wp2_with fail
        go_quiet (rfl)
        go_wp2_with fail
        go_ret
        exact ⟨by rw [HE.out]; rfl, by exact belN HX.out _⟩
      · by_cases t2 : vh < gh
        · have HE : Hid (maySignN gh gr gs gi vh vr vs vi vv = 2) := by show _ = _; have e1 := E1.out; have e2 := E2.out; simp [maySignN, h1, h2]; omega
          go_wp2_with fail
          go_quiet (rfl)
          go_wp2_with fail
          go_wp2_with fail
          go_quiet (rfl)
          go_wp2_with fail
          go_ret
          exact ⟨by rw [HE.out]; rfl, by first | exact belN HX.out _ | exact belN (belN HX.out _) _⟩
        · go_wp2_with fail
          go_quiet (rfl)
          go_wp2_with fail
          go_wp2_with fail
          go_quiet (rfl)
          go_wp2_with fail
          go_roundw
          case rel => exact ⟨0 + 1, by omega, by rfl, fun _ => by have e1 := E1.out; omega, fun _ => by have e2 := E2.out; omega, fun _ => by omega, by first | exact belN hb _ | exact belN (belN hb _) _⟩
          case measure => simp [intOf]
    · by_cases t1 : gr < vr
      · have HE : Hid (maySignN gh gr gs gi vh vr vs vi vv = 0) := by show _ = _; have e1 := E1.out; have e2 := E2.out; simp [maySignN, h1, h2]; omega
        have t2 : ¬ vr < gr := by omega
        go_wp2_with fail
        go_quiet (rfl)
        go_wp2_with fail
        go_ret
        exact ⟨by rw [HE.out]; rfl, by exact belN HX.out _⟩
      · by_cases t2 : vr < gr
        · have HE : Hid (maySignN gh gr gs gi vh vr vs vi vv = 2) := by show _ = _; have e1 := E1.out; have e2 := E2.out; simp [maySignN, h1, h2]; omega
          go_wp2_with fail
          go_quiet (rfl)
          go_wp2_with fail
          go_wp2_with fail
          go_quiet (rfl)
          go_wp2_with fail
          go_ret
          exact ⟨by rw [HE.out]; rfl, by first | exact belN HX.out _ | exact belN (belN HX.out _) _⟩
        · go_wp2_with fail
          go_quiet (rfl)
          go_wp2_with fail
          go_wp2_with fail
          go_quiet (rfl)
          go_wp2_with fail
          go_roundw
          case rel => exact ⟨1 + 1, by omega, by rfl, fun _ => by have e1 := E1.out; omega, fun _ => by have e2 := E2.out; omega, fun _ => by omega, by first | exact belN hb _ | exact belN (belN hb _) _⟩
          case measure => simp [intOf]
    · by_cases t1 : gs < vs
      · have HE : Hid (maySignN gh gr gs gi vh vr vs vi vv = 0) := by show _ = _; have e1 := E1.out; have e2 := E2.out; simp [maySignN, h1, h2]; omega
        have t2 : ¬ vs < gs := by omega
        go_wp2_with fail
        go_quiet (rfl)
        go_wp2_with fail
        go_ret
        exact ⟨by rw [HE.out]; rfl, by exact belN HX.out _⟩
      · by_cases t2 : vs < gs
        · have HE : Hid (maySignN gh gr gs gi vh vr vs vi vv = 2) := by show _ = _; have e1 := E1.out; have e2 := E2.out; simp [maySignN, h1, h2]; omega
          go_wp2_with fail
          go_quiet (rfl)
          go_wp2_with fail
          go_wp2_with fail
          go_quiet (rfl)
          go_wp2_with fail
          go_ret
          exact ⟨by rw [HE.out]; rfl, by first | exact belN HX.out _ | exact belN (belN HX.out _) _⟩
        · go_wp2_with fail
          go_quiet (rfl)
          go_wp2_with fail
          go_wp2_with fail
          go_quiet (rfl)
          go_wp2_with fail
          go_roundw
          case rel => exact ⟨2 + 1, by omega, by rfl, fun _ => by have e1 := E1.out; omega, fun _ => by have e2 := E2.out; omega, fun _ => by omega, by first | exact belN hb _ | exact belN (belN hb _) _⟩
          case measure => simp [intOf]
    · cases t1 : (vi.toList == gi.toList)
      · have HE : Hid (maySignN gh gr gs gi vh vr vs vi vv = 3) := by show _ = _; have e1 := E1.out; have e2 := E2.out; have e3 := E3.out; unfold maySignN; rw [h1, h2, t1]; simp; omega
        go_wp2
        go_ret
        exact ⟨by rw [HE.out]; rfl, HX.out⟩
      · have HE : Hid (maySignN gh gr gs gi vh vr vs vi vv = 1) := by show _ = _; have e1 := E1.out; have e2 := E2.out; have e3 := E3.out; unfold maySignN; rw [h1, h2, t1]; simp; omega
        go_wp2
        go_ret
        exact ⟨by rw [HE.out]; rfl, HX.out⟩
end Go.Proofs.Yteifmlmmfghjjaa
