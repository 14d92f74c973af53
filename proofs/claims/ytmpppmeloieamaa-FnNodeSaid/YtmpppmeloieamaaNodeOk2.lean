/- NodeOk of the program. -/
import Derived.Test.YtmpppmeloieamaaNodeOk
import Derived.WalkKit
import Derived.WalkSpells
import Derived.WalkLawsBesides
import Derived.Lib.Hide
namespace Go.Proofs.Ytmpppmeloieamaa
open Go.RowKit

set_option maxHeartbeats 2000000 in
theorem NodeOk_any (s : NodeS) (A : Option Addr) (n c : Nat) (l : List NMsgD) (w : World) (hl : RdL msgC 5 w w.heap.size A n c l) :
    Calls Try.prog 35 #[.agg #[.int .i64 s.me, .int .i64 s.round, .int .i64 s.step, .int .i64 s.lv, .int .i64 s.lr, .int .i64 s.vv, .int .i64 s.vr, .int .i64 s.polka, .int .i64 s.dec, .slice A n c]] w fun e w' => e = .returned (.bool (nodeB s l)) ∧ Below w.heap.size w w' := by
  obtain ⟨me, round, step, lv, lr, vv, vr, polka, dec⟩ := s
  have HL := Lib.hid hl
  clear hl
  cases h1 : inB me 1 4
  · go_enter Try.func35, Try.ntmps35
    go_wp2_with (go_at_call 60; (with_reducible refine (within_any _ _ _ _).mono ?_); rintro e w' ⟨rfl, rfl⟩)
    go_ret
    exact ⟨by simp [nodeB, h1], (by repeat (first | exact Below.refl _ _ | assumption | refine Below.drew ?_ | refine belN ?_ _ | refine Below.alloc ?_ (by first | exact Nat.le_refl _ | (simp; done) | (simp; omega) | omega) _ | refine Below.setCell ?_ (by first | exact Nat.le_refl _ | (simp; done) | (simp; omega) | omega) _ | refine Below.trans ?_ (Below.mono (by assumption) (by first | exact Nat.le_refl _ | (simp; done) | (simp; omega) | omega))))⟩
  cases h2 : inB round (-1) 11
  · go_enter Try.func35, Try.ntmps35
    go_wp2_with (go_at_call 60; (with_reducible refine (within_any _ _ _ _).mono ?_); rintro e w' ⟨rfl, rfl⟩)
    go_ret
    exact ⟨by simp [nodeB, h2], (by repeat (first | exact Below.refl _ _ | assumption | refine Below.drew ?_ | refine belN ?_ _ | refine Below.alloc ?_ (by first | exact Nat.le_refl _ | (simp; done) | (simp; omega) | omega) _ | refine Below.setCell ?_ (by first | exact Nat.le_refl _ | (simp; done) | (simp; omega) | omega) _ | refine Below.trans ?_ (Below.mono (by assumption) (by first | exact Nat.le_refl _ | (simp; done) | (simp; omega) | omega))))⟩
  cases h3 : inB step 1 3
  · go_enter Try.func35, Try.ntmps35
    go_wp2_with (go_at_call 60; (with_reducible refine (within_any _ _ _ _).mono ?_); rintro e w' ⟨rfl, rfl⟩)
    go_ret
    exact ⟨by simp [nodeB, h3], (by repeat (first | exact Below.refl _ _ | assumption | refine Below.drew ?_ | refine belN ?_ _ | refine Below.alloc ?_ (by first | exact Nat.le_refl _ | (simp; done) | (simp; omega) | omega) _ | refine Below.setCell ?_ (by first | exact Nat.le_refl _ | (simp; done) | (simp; omega) | omega) _ | refine Below.trans ?_ (Below.mono (by assumption) (by first | exact Nat.le_refl _ | (simp; done) | (simp; omega) | omega))))⟩
  go_enter Try.func35, Try.ntmps35
  go_wp2_with (go_at_call 60; (with_reducible refine (within_any _ _ _ _).mono ?_); rintro e w' ⟨rfl, rfl⟩)
  go_loop [31] (fun i => ∃ k : Nat, k ≤ 3 ∧ i = .int .i64 k ∧ (1 ≤ k → inB lv 0 20 = true) ∧ (2 ≤ k → inB vv 0 20 = true) ∧ (3 ≤ k → inB dec 0 20 = true)) (fun i => 3 - (intOf i).toNat)
  case atStart => exact ⟨0, by omega, rfl, by omega, by omega, by omega⟩
  case round =>
    obtain ⟨k, hk, rfl, e1, e2, e3⟩ := hrel
    rcases (by omega : k = 0 ∨ k = 1 ∨ k = 2 ∨ k = 3) with rfl | rfl | rfl | rfl
    · clear e1 e2 e3
      cases h4 : inB lv 0 20
      · go_wp2_with (go_at_call 60; (with_reducible refine (within_any _ _ _ _).mono ?_); rintro e w' ⟨rfl, rfl⟩)
        go_ret
        exact ⟨by simp [nodeB, h4], (by repeat (first | exact Below.refl _ _ | assumption | refine Below.drew ?_ | refine belN ?_ _ | refine Below.alloc ?_ (by first | exact Nat.le_refl _ | (simp; done) | (simp; omega) | omega) _ | refine Below.setCell ?_ (by first | exact Nat.le_refl _ | (simp; done) | (simp; omega) | omega) _ | refine Below.trans ?_ (Below.mono (by assumption) (by first | exact Nat.le_refl _ | (simp; done) | (simp; omega) | omega))))⟩
      · go_wp2_with (go_at_call 60; (with_reducible refine (within_any _ _ _ _).mono ?_); rintro e w' ⟨rfl, rfl⟩)
        go_round
        case rel => exact ⟨1, by omega, rfl, fun _ => by first | exact h4 | trivial, fun h => by omega, fun h => by omega⟩
        case measure => simp [intOf]
    · have E1 := Lib.hid (e1 (by omega)); clear e1 e2 e3
      cases h4 : inB vv 0 20
      · go_wp2_with (go_at_call 60; (with_reducible refine (within_any _ _ _ _).mono ?_); rintro e w' ⟨rfl, rfl⟩)
        go_ret
        exact ⟨by simp [nodeB, h4], (by repeat (first | exact Below.refl _ _ | assumption | refine Below.drew ?_ | refine belN ?_ _ | refine Below.alloc ?_ (by first | exact Nat.le_refl _ | (simp; done) | (simp; omega) | omega) _ | refine Below.setCell ?_ (by first | exact Nat.le_refl _ | (simp; done) | (simp; omega) | omega) _ | refine Below.trans ?_ (Below.mono (by assumption) (by first | exact Nat.le_refl _ | (simp; done) | (simp; omega) | omega))))⟩
      · go_wp2_with (go_at_call 60; (with_reducible refine (within_any _ _ _ _).mono ?_); rintro e w' ⟨rfl, rfl⟩)
        go_round
        case rel => exact ⟨2, by omega, rfl, fun _ => by first | exact E1.out | trivial, fun h => by first | exact h4 | trivial, fun h => by omega⟩
        case measure => simp [intOf]
    · have E1 := Lib.hid (e1 (by omega)); have E2 := Lib.hid (e2 (by omega)); clear e1 e2 e3
      cases h4 : inB dec 0 20
      · go_wp2_with (go_at_call 60; (with_reducible refine (within_any _ _ _ _).mono ?_); rintro e w' ⟨rfl, rfl⟩)
        go_ret
        exact ⟨by simp [nodeB, h4], (by repeat (first | exact Below.refl _ _ | assumption | refine Below.drew ?_ | refine belN ?_ _ | refine Below.alloc ?_ (by first | exact Nat.le_refl _ | (simp; done) | (simp; omega) | omega) _ | refine Below.setCell ?_ (by first | exact Nat.le_refl _ | (simp; done) | (simp; omega) | omega) _ | refine Below.trans ?_ (Below.mono (by assumption) (by first | exact Nat.le_refl _ | (simp; done) | (simp; omega) | omega))))⟩
      · go_wp2_with (go_at_call 60; (with_reducible refine (within_any _ _ _ _).mono ?_); rintro e w' ⟨rfl, rfl⟩)
        go_round
        case rel => exact ⟨3, by omega, rfl, fun _ => by first | exact E1.out | trivial, fun h => by first | exact E2.out | trivial, fun h => by first | exact h4 | trivial⟩
        case measure => simp [intOf]
    · have E1 := Lib.hid (e1 (by omega)); have E2 := Lib.hid (e2 (by omega)); have E3 := Lib.hid (e3 (by omega)); clear e1 e2 e3
      go_wp2_with fail
      go_loop [47] (fun i => ∃ k : Nat, k ≤ 3 ∧ i = .int .i64 k ∧ (1 ≤ k → inB lr (-1) round = true) ∧ (2 ≤ k → inB vr (-1) round = true) ∧ (3 ≤ k → inB polka (-1) round = true)) (fun i => 3 - (intOf i).toNat)
      case atStart => exact ⟨0, by omega, rfl, by omega, by omega, by omega⟩
      case round =>
        obtain ⟨k, hk, rfl, e1, e2, e3⟩ := hrel
        rcases (by omega : k = 0 ∨ k = 1 ∨ k = 2 ∨ k = 3) with rfl | rfl | rfl | rfl
        · clear e1 e2 e3
          cases h4 : inB lr (-1) round
          · go_wp2_with (go_at_call 60; (with_reducible refine (within_any _ _ _ _).mono ?_); rintro e w' ⟨rfl, rfl⟩)
            go_ret
            exact ⟨by simp [nodeB, h4], (by repeat (first | exact Below.refl _ _ | assumption | refine Below.drew ?_ | refine belN ?_ _ | refine Below.alloc ?_ (by first | exact Nat.le_refl _ | (simp; done) | (simp; omega) | omega) _ | refine Below.setCell ?_ (by first | exact Nat.le_refl _ | (simp; done) | (simp; omega) | omega) _ | refine Below.trans ?_ (Below.mono (by assumption) (by first | exact Nat.le_refl _ | (simp; done) | (simp; omega) | omega))))⟩
          · go_wp2_with (go_at_call 60; (with_reducible refine (within_any _ _ _ _).mono ?_); rintro e w' ⟨rfl, rfl⟩)
            go_round
            case rel => exact ⟨1, by omega, rfl, fun _ => by first | exact h4 | trivial, fun h => by omega, fun h => by omega⟩
            case measure => simp [intOf]
        · have F1 := Lib.hid (e1 (by omega)); clear e1 e2 e3
          cases h4 : inB vr (-1) round
          · go_wp2_with (go_at_call 60; (with_reducible refine (within_any _ _ _ _).mono ?_); rintro e w' ⟨rfl, rfl⟩)
            go_ret
            exact ⟨by simp [nodeB, h4], (by repeat (first | exact Below.refl _ _ | assumption | refine Below.drew ?_ | refine belN ?_ _ | refine Below.alloc ?_ (by first | exact Nat.le_refl _ | (simp; done) | (simp; omega) | omega) _ | refine Below.setCell ?_ (by first | exact Nat.le_refl _ | (simp; done) | (simp; omega) | omega) _ | refine Below.trans ?_ (Below.mono (by assumption) (by first | exact Nat.le_refl _ | (simp; done) | (simp; omega) | omega))))⟩
          · go_wp2_with (go_at_call 60; (with_reducible refine (within_any _ _ _ _).mono ?_); rintro e w' ⟨rfl, rfl⟩)
            go_round
            case rel => exact ⟨2, by omega, rfl, fun _ => by first | exact F1.out | trivial, fun h => by first | exact h4 | trivial, fun h => by omega⟩
            case measure => simp [intOf]
        · have F1 := Lib.hid (e1 (by omega)); have F2 := Lib.hid (e2 (by omega)); clear e1 e2 e3
          cases h4 : inB polka (-1) round
          · go_wp2_with (go_at_call 60; (with_reducible refine (within_any _ _ _ _).mono ?_); rintro e w' ⟨rfl, rfl⟩)
            go_ret
            exact ⟨by simp [nodeB, h4], (by repeat (first | exact Below.refl _ _ | assumption | refine Below.drew ?_ | refine belN ?_ _ | refine Below.alloc ?_ (by first | exact Nat.le_refl _ | (simp; done) | (simp; omega) | omega) _ | refine Below.setCell ?_ (by first | exact Nat.le_refl _ | (simp; done) | (simp; omega) | omega) _ | refine Below.trans ?_ (Below.mono (by assumption) (by first | exact Nat.le_refl _ | (simp; done) | (simp; omega) | omega))))⟩
          · go_wp2_with (go_at_call 60; (with_reducible refine (within_any _ _ _ _).mono ?_); rintro e w' ⟨rfl, rfl⟩)
            go_round
            case rel => exact ⟨3, by omega, rfl, fun _ => by first | exact F1.out | trivial, fun h => by first | exact F2.out | trivial, fun h => by first | exact h4 | trivial⟩
            case measure => simp [intOf]
        · have F1 := Lib.hid (e1 (by omega)); have F2 := Lib.hid (e2 (by omega)); have F3 := Lib.hid (e3 (by omega)); clear e1 e2 e3
          have HE : Hid (nodeB ⟨me, round, step, lv, lr, vv, vr, polka, dec⟩ l = (((lv == 0) == (lr == -1)) && ((vv == 0) == (vr == -1)) && (msgsOk l && decide ((l.length : Int) ≤ 90)))) := by
            show _ = _
            simp only [nodeB, h1, h2, h3, E1.out, E2.out, E3.out, F1.out, F2.out, F3.out, Bool.true_and]
          go_wp2_with (go_at_call 61; (with_reducible refine (areMsgs_any _ _ _ _ l _ (by exact (((HL.out.alloc (Nat.le_refl _) _).alloc (by simp) _).alloc (by simp; omega) _).more (by simp; omega))).mono ?_); rintro e w1 ⟨rfl, hb⟩)
          all_goals go_ret
          all_goals refine ⟨?_, (by repeat (first | exact Below.refl _ _ | assumption | refine Below.drew ?_ | refine belN ?_ _ | refine Below.alloc ?_ (by first | exact Nat.le_refl _ | (simp; done) | (simp; omega) | omega) _ | refine Below.setCell ?_ (by first | exact Nat.le_refl _ | (simp; done) | (simp; omega) | omega) _ | refine Below.trans ?_ (Below.mono (by assumption) (by first | exact Nat.le_refl _ | (simp; done) | (simp; omega) | omega))))⟩
          all_goals rw [HE.out]
          all_goals simp [*]
end Go.Proofs.Ytmpppmeloieamaa
