/- MaySign of the program and of the reference. -/
import Derived.Test.YteifmlmmfghjjaaB
import Derived.RegionTactic
import Derived.BigRegion
import Derived.ChangeAlike
import Derived.WalkKit
import Derived.WalkSpells
import Derived.WalkLawsBesides
import Derived.Lib.Hide
namespace Go.Proofs.Yteifmlmmfghjjaa
open Go.RowKit

def maySignN (gh gr gs : Int) (gi : ByteArray) (vh vr vs : Int) (vi : ByteArray) (vv : Int) : Int :=
  if (guardB gh gr gs gi && voteB vh vr vs vi vv) = true then
    (if gh < vh then 0 else if vh < gh then 2 else if gr < vr then 0 else if vr < gr then 2 else if gs < vs then 0 else if vs < gs then 2 else if (vi.toList == gi.toList) = true then 1 else 3)
  else 2

set_option maxHeartbeats 4000000 in
theorem MaySign_any (gh gr gs : Int) (gi : ByteArray) (vh vr vs : Int) (vi : ByteArray) (vv : Int) (w : World) :
    Calls Try.prog 26 #[.agg #[.int .i64 gh, .int .i64 gr, .int .i64 gs, .string gi], .agg #[.int .i64 vh, .int .i64 vr, .int .i64 vs, .string vi, .int .i64 vv]] w fun e w' => e = .returned (.int .i64 (maySignN gh gr gs gi vh vr vs vi vv)) ∧ Below w.heap.size w w' := by
  cases h1 : guardB gh gr gs gi
  · have HE : Hid (maySignN gh gr gs gi vh vr vs vi vv = 2) := by show _ = _; simp [maySignN, h1]
    go_enter Try.func26, Try.ntmps26
    go_wp2_with (go_at_call 37; (with_reducible refine (GuardOk_any _ _ _ _ _).mono ?_); rintro e w1 ⟨rfl, hb⟩; obtain ⟨hc, hf, hz⟩ := bcell hb; (try simp only [World.size_drew] at hz); (try simp only [World.size_alloc] at hz); have hy := nlt (by omega : w.heap.size + 2 ≤ w1.heap.size))
    go_ret; exact ⟨by rw [HE.out]; rfl, (by repeat (first | exact Below.refl _ _ | assumption | refine Below.drew ?_ | refine belN ?_ _ | refine Below.alloc ?_ (by first | exact Nat.le_refl _ | (simp; done) | (simp; omega) | omega) _ | refine Below.setCell ?_ (by first | exact Nat.le_refl _ | (simp; done) | (simp; omega) | omega) _ | refine Below.trans ?_ (Below.mono (by assumption) (by first | exact Nat.le_refl _ | (simp; done) | (simp; omega) | omega))))⟩
  cases h2 : voteB vh vr vs vi vv
  · have HE : Hid (maySignN gh gr gs gi vh vr vs vi vv = 2) := by show _ = _; simp [maySignN, h2]
    go_enter Try.func26, Try.ntmps26
    go_wp2_with (first | (go_at_call 37; (with_reducible refine (GuardOk_any _ _ _ _ _).mono ?_); rintro e w1 ⟨rfl, hb⟩; obtain ⟨hc, hf, hz⟩ := bcell hb; (try simp only [World.size_drew] at hz); (try simp only [World.size_alloc] at hz); have hy := nlt (by omega : w.heap.size + 2 ≤ w1.heap.size)) | (go_at_call 35; (with_reducible refine (VoteOk_any _ _ _ _ _ _).mono ?_); rintro e w1 ⟨rfl, hb⟩; obtain ⟨hc, hf, hz⟩ := bcell hb; (try simp only [World.size_drew] at hz); (try simp only [World.size_alloc] at hz); have hy := nlt (by omega : w.heap.size + 2 ≤ w1.heap.size)))
    go_ret; exact ⟨by rw [HE.out]; rfl, (by repeat (first | exact Below.refl _ _ | assumption | refine Below.drew ?_ | refine belN ?_ _ | refine Below.alloc ?_ (by first | exact Nat.le_refl _ | (simp; done) | (simp; omega) | omega) _ | refine Below.setCell ?_ (by first | exact Nat.le_refl _ | (simp; done) | (simp; omega) | omega) _ | refine Below.trans ?_ (Below.mono (by assumption) (by first | exact Nat.le_refl _ | (simp; done) | (simp; omega) | omega))))⟩
  go_enter Try.func26, Try.ntmps26
  go_wp2_with (first | (go_at_call 37; (with_reducible refine (GuardOk_any _ _ _ _ _).mono ?_); rintro e w1 ⟨rfl, hb⟩; obtain ⟨hc, hf, hz⟩ := bcell hb; (try simp only [World.size_drew] at hz); (try simp only [World.size_alloc] at hz); have hy := nlt (by omega : w.heap.size + 2 ≤ w1.heap.size)) | (go_at_call 35; (with_reducible refine (VoteOk_any _ _ _ _ _ _).mono ?_); rintro e w1 ⟨rfl, hb⟩; obtain ⟨hc, hf, hz⟩ := bcell hb; (try simp only [World.size_drew] at hz); (try simp only [World.size_alloc] at hz); have hy := nlt (by omega : w.heap.size + 2 ≤ w1.heap.size)))
  have HB : Hid (Below w.heap.size w w1) := (by repeat (first | exact Below.refl _ _ | assumption | refine Below.drew ?_ | refine belN ?_ _ | refine Below.alloc ?_ (by first | exact Nat.le_refl _ | (simp; done) | (simp; omega) | omega) _ | refine Below.setCell ?_ (by first | exact Nat.le_refl _ | (simp; done) | (simp; omega) | omega) _ | refine Below.trans ?_ (Below.mono (by assumption) (by first | exact Nat.le_refl _ | (simp; done) | (simp; omega) | omega))))
  go_region
  all_goals go_wp2
  all_goals
    go_loop [33] (fun i => ∃ k : Nat, k ≤ 3 ∧ i = .int .i64 k ∧ (1 ≤ k → vh = gh) ∧ (2 ≤ k → vr = gr) ∧ (3 ≤ k → vs = gs)) (fun i => 3 - (intOf i).toNat)
    case atStart => exact ⟨0, by omega, rfl, by omega, by omega, by omega⟩
    case round =>
      obtain ⟨k, hk, rfl, e1, e2, e3⟩ := hrel
      have E1 := Lib.hid e1; have E2 := Lib.hid e2; have E3 := Lib.hid e3
      clear e1 e2 e3
      rcases (by omega : k = 0 ∨ k = 1 ∨ k = 2 ∨ k = 3) with rfl | rfl | rfl | rfl
      · by_cases t1 : gh < vh
        · have HE : Hid (maySignN gh gr gs gi vh vr vs vi vv = 0) := by show _ = _; have e1 := E1.out; have e2 := E2.out; simp [maySignN, h1, h2]; omega
          skip
          go_wp2
          go_ret
          exact ⟨by rw [HE.out]; rfl, ((HB.out.alloc (by omega) _).alloc (by simp; omega) _).drew⟩
        · by_cases t2 : vh < gh
          · have HE : Hid (maySignN gh gr gs gi vh vr vs vi vv = 2) := by show _ = _; have e1 := E1.out; have e2 := E2.out; simp [maySignN, h1, h2]; omega
            skip
            go_wp2
            skip
            go_wp2
            go_ret
            exact ⟨by rw [HE.out]; rfl, ((HB.out.alloc (by omega) _).alloc (by simp; omega) _).drew⟩
          · skip
            go_wp2
            skip
            go_wp2
            go_round
            case rel => exact ⟨0 + 1, by omega, by rfl, fun _ => by have e1 := E1.out; omega, fun _ => by have e2 := E2.out; omega, fun _ => by omega⟩
            case measure => simp [intOf]
      · by_cases t1 : gr < vr
        · have HE : Hid (maySignN gh gr gs gi vh vr vs vi vv = 0) := by show _ = _; have e1 := E1.out; have e2 := E2.out; simp [maySignN, h1, h2]; omega
          skip
          go_wp2
          go_ret
          exact ⟨by rw [HE.out]; rfl, ((HB.out.alloc (by omega) _).alloc (by simp; omega) _).drew⟩
        · by_cases t2 : vr < gr
          · have HE : Hid (maySignN gh gr gs gi vh vr vs vi vv = 2) := by show _ = _; have e1 := E1.out; have e2 := E2.out; simp [maySignN, h1, h2]; omega
            skip
            go_wp2
            skip
            go_wp2
            go_ret
            exact ⟨by rw [HE.out]; rfl, ((HB.out.alloc (by omega) _).alloc (by simp; omega) _).drew⟩
          · skip
            go_wp2
            skip
            go_wp2
            go_round
            case rel => exact ⟨1 + 1, by omega, by rfl, fun _ => by have e1 := E1.out; omega, fun _ => by have e2 := E2.out; omega, fun _ => by omega⟩
            case measure => simp [intOf]
      · by_cases t1 : gs < vs
        · have HE : Hid (maySignN gh gr gs gi vh vr vs vi vv = 0) := by show _ = _; have e1 := E1.out; have e2 := E2.out; simp [maySignN, h1, h2]; omega
          skip
          go_wp2
          go_ret
          exact ⟨by rw [HE.out]; rfl, ((HB.out.alloc (by omega) _).alloc (by simp; omega) _).drew⟩
        · by_cases t2 : vs < gs
          · have HE : Hid (maySignN gh gr gs gi vh vr vs vi vv = 2) := by show _ = _; have e1 := E1.out; have e2 := E2.out; simp [maySignN, h1, h2]; omega
            skip
            go_wp2
            skip
            go_wp2
            go_ret
            exact ⟨by rw [HE.out]; rfl, ((HB.out.alloc (by omega) _).alloc (by simp; omega) _).drew⟩
          · skip
            go_wp2
            skip
            go_wp2
            go_round
            case rel => exact ⟨2 + 1, by omega, by rfl, fun _ => by have e1 := E1.out; omega, fun _ => by have e2 := E2.out; omega, fun _ => by omega⟩
            case measure => simp [intOf]
      · cases t1 : (vi.toList == gi.toList)
        · have HE : Hid (maySignN gh gr gs gi vh vr vs vi vv = 3) := by show _ = _; have e1 := E1.out; have e2 := E2.out; have e3 := E3.out; unfold maySignN; rw [h1, h2, t1]; simp; omega
          go_wp2
          go_ret
          exact ⟨by rw [HE.out]; rfl, ((HB.out.alloc (by omega) _).alloc (by simp; omega) _).drew⟩
        · have HE : Hid (maySignN gh gr gs gi vh vr vs vi vv = 1) := by show _ = _; have e1 := E1.out; have e2 := E2.out; have e3 := E3.out; unfold maySignN; rw [h1, h2, t1]; simp; omega
          go_wp2
          go_ret
          exact ⟨by rw [HE.out]; rfl, ((HB.out.alloc (by omega) _).alloc (by simp; omega) _).drew⟩
end Go.Proofs.Yteifmlmmfghjjaa
