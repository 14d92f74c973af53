/- Contracts of the predicates on messages of the nodes: MsgOk of the program and of the reference. -/
import Derived.Test.YtjgaelnonacdkaaA
import Derived.Deep.QuietTactic
import Derived.BigQuiet
import Derived.WalkKit
import Derived.WalkSpells
import Derived.WalkLawsBesides
import Derived.Lib.Hide
namespace Go.Proofs.Ytjgaelnonacdkaa
open Go.RowKit

def propOf (r : Int) : Int := 1 + r % 4
theorem proposerOf_any (r : Int) (w : World) (h0 : 0 ≤ r) (h1 : r ≤ 1000000) : Calls Try.prog 99 #[.int .i64 r] w fun e w' => e = .returned (.int .i64 (propOf r)) ∧ w = w' := by
  unfold propOf
  go_enter Try.func99, Try.ntmps99
  go_wp2
  go_ret
  exact ⟨rfl, rfl⟩
theorem l16Proposer_any (r : Int) (w : World) (h0 : 0 ≤ r) (h1 : r ≤ 1000000) : Calls Try.prog 93 #[.int .i64 r] w fun e w' => e = .returned (.int .i64 (propOf r)) ∧ w = w' := by
  unfold propOf
  go_enter Try.func93, Try.ntmps93
  go_wp2
  go_ret
  exact ⟨rfl, rfl⟩
theorem k1 : inB 1 1 3 = true := rfl
theorem k2 : inB 2 1 3 = true := rfl
theorem k3 : inB 3 1 3 = true := rfl
def msgB (k r v p f : Int) : Bool :=
  inB k 1 3 && inB r 0 11 && inB f 1 4 && (if k == 1 then f == propOf r && inB v 1 20 && inB p (-1) (r - 1) else inB v 0 20 && p == -1)

theorem sMsgOk_any (k r v p f : Int) (w : World) :
    Calls Try.prog 65 #[.agg #[.int .i64 k, .int .i64 r, .int .i64 v, .int .i64 p, .int .i64 f]] w fun e w' => e = .returned (.bool (msgB k r v p f)) ∧ Below w.heap.size w w' := by
  cases h1 : inB k 1 3
  · go_enter Try.func65, Try.ntmps65
    go_wp2_with (go_at_call 66; (with_reducible refine (l1In_any _ _ _ _).mono ?_); rintro e w' ⟨rfl, rfl⟩)
    go_ret; exact ⟨by simp [msgB, *], (by repeat (first | exact Below.refl _ _ | assumption | refine Below.drew ?_ | refine belN ?_ _ | refine Below.alloc ?_ (by first | exact Nat.le_refl _ | (simp; done) | (simp; omega) | omega) _ | refine Below.setCell ?_ (by first | exact Nat.le_refl _ | (simp; done) | (simp; omega) | omega) _ | refine Below.trans ?_ (Below.mono (by assumption) (by first | exact Nat.le_refl _ | (simp; done) | (simp; omega) | omega))))⟩
  · cases h2 : inB r 0 11
    · go_enter Try.func65, Try.ntmps65
      go_wp2_with (go_at_call 66; (with_reducible refine (l1In_any _ _ _ _).mono ?_); rintro e w' ⟨rfl, rfl⟩)
      go_ret; exact ⟨by simp [msgB, *], (by repeat (first | exact Below.refl _ _ | assumption | refine Below.drew ?_ | refine belN ?_ _ | refine Below.alloc ?_ (by first | exact Nat.le_refl _ | (simp; done) | (simp; omega) | omega) _ | refine Below.setCell ?_ (by first | exact Nat.le_refl _ | (simp; done) | (simp; omega) | omega) _ | refine Below.trans ?_ (Below.mono (by assumption) (by first | exact Nat.le_refl _ | (simp; done) | (simp; omega) | omega))))⟩
    · have b2 := inB_bd h2
      cases h3 : inB f 1 4
      · go_enter Try.func65, Try.ntmps65
        go_wp2_with (go_at_call 66; (with_reducible refine (l1In_any _ _ _ _).mono ?_); rintro e w' ⟨rfl, rfl⟩)
        go_ret; exact ⟨by simp [msgB, *], (by repeat (first | exact Below.refl _ _ | assumption | refine Below.drew ?_ | refine belN ?_ _ | refine Below.alloc ?_ (by first | exact Nat.le_refl _ | (simp; done) | (simp; omega) | omega) _ | refine Below.setCell ?_ (by first | exact Nat.le_refl _ | (simp; done) | (simp; omega) | omega) _ | refine Below.trans ?_ (Below.mono (by assumption) (by first | exact Nat.le_refl _ | (simp; done) | (simp; omega) | omega))))⟩
      · cases h4 : (k == 1)
        · cases h5 : inB v 0 20
          · go_enter Try.func65, Try.ntmps65
            go_wp2_with (go_at_call 66; (with_reducible refine (l1In_any _ _ _ _).mono ?_); rintro e w' ⟨rfl, rfl⟩)
            go_ret; exact ⟨by simp [msgB, *], (by repeat (first | exact Below.refl _ _ | assumption | refine Below.drew ?_ | refine belN ?_ _ | refine Below.alloc ?_ (by first | exact Nat.le_refl _ | (simp; done) | (simp; omega) | omega) _ | refine Below.setCell ?_ (by first | exact Nat.le_refl _ | (simp; done) | (simp; omega) | omega) _ | refine Below.trans ?_ (Below.mono (by assumption) (by first | exact Nat.le_refl _ | (simp; done) | (simp; omega) | omega))))⟩
          · cases h6 : (p == -1)
            · go_enter Try.func65, Try.ntmps65
              go_wp2_with (go_at_call 66; (with_reducible refine (l1In_any _ _ _ _).mono ?_); rintro e w' ⟨rfl, rfl⟩)
              go_ret; exact ⟨by simp [msgB, *], (by repeat (first | exact Below.refl _ _ | assumption | refine Below.drew ?_ | refine belN ?_ _ | refine Below.alloc ?_ (by first | exact Nat.le_refl _ | (simp; done) | (simp; omega) | omega) _ | refine Below.setCell ?_ (by first | exact Nat.le_refl _ | (simp; done) | (simp; omega) | omega) _ | refine Below.trans ?_ (Below.mono (by assumption) (by first | exact Nat.le_refl _ | (simp; done) | (simp; omega) | omega))))⟩
            · go_enter Try.func65, Try.ntmps65
              go_wp2_with (go_at_call 66; (with_reducible refine (l1In_any _ _ _ _).mono ?_); rintro e w' ⟨rfl, rfl⟩)
              go_ret; exact ⟨by simp [msgB, *], (by repeat (first | exact Below.refl _ _ | assumption | refine Below.drew ?_ | refine belN ?_ _ | refine Below.alloc ?_ (by first | exact Nat.le_refl _ | (simp; done) | (simp; omega) | omega) _ | refine Below.setCell ?_ (by first | exact Nat.le_refl _ | (simp; done) | (simp; omega) | omega) _ | refine Below.trans ?_ (Below.mono (by assumption) (by first | exact Nat.le_refl _ | (simp; done) | (simp; omega) | omega))))⟩
        · obtain rfl : k = 1 := by simpa using h4
          cases h5 : (f == propOf r)
          · go_enter Try.func65, Try.ntmps65
            go_wp2_with (go_at_call 66; (with_reducible refine (l1In_any _ _ _ _).mono ?_); rintro e w' ⟨rfl, rfl⟩)
            go_quiet (first | (go_at_call 66; exact quiet_sym (l1In_any _ _ _ _)) | (go_at_call 93; exact quiet_sym (l16Proposer_any _ _ b2.1 (by omega))))
            go_wp2
            go_ret; exact ⟨by simp [msgB, *], (by repeat (first | exact Below.refl _ _ | assumption | refine Below.drew ?_ | refine belN ?_ _ | refine Below.alloc ?_ (by first | exact Nat.le_refl _ | (simp; done) | (simp; omega) | omega) _ | refine Below.setCell ?_ (by first | exact Nat.le_refl _ | (simp; done) | (simp; omega) | omega) _ | refine Below.trans ?_ (Below.mono (by assumption) (by first | exact Nat.le_refl _ | (simp; done) | (simp; omega) | omega))))⟩
          · cases h6 : inB v 1 20
            · go_enter Try.func65, Try.ntmps65
              go_wp2_with (go_at_call 66; (with_reducible refine (l1In_any _ _ _ _).mono ?_); rintro e w' ⟨rfl, rfl⟩)
              go_quiet (first | (go_at_call 66; exact quiet_sym (l1In_any _ _ _ _)) | (go_at_call 93; exact quiet_sym (l16Proposer_any _ _ b2.1 (by omega))))
              go_wp2
              go_ret; exact ⟨by simp [msgB, *], (by repeat (first | exact Below.refl _ _ | assumption | refine Below.drew ?_ | refine belN ?_ _ | refine Below.alloc ?_ (by first | exact Nat.le_refl _ | (simp; done) | (simp; omega) | omega) _ | refine Below.setCell ?_ (by first | exact Nat.le_refl _ | (simp; done) | (simp; omega) | omega) _ | refine Below.trans ?_ (Below.mono (by assumption) (by first | exact Nat.le_refl _ | (simp; done) | (simp; omega) | omega))))⟩
            · go_enter Try.func65, Try.ntmps65
              go_wp2_with (go_at_call 66; (with_reducible refine (l1In_any _ _ _ _).mono ?_); rintro e w' ⟨rfl, rfl⟩)
              go_quiet (first | (go_at_call 66; exact quiet_sym (l1In_any _ _ _ _)) | (go_at_call 93; exact quiet_sym (l16Proposer_any _ _ b2.1 (by omega))))
              go_wp2
              go_ret; exact ⟨by simp [msgB, *], (by repeat (first | exact Below.refl _ _ | assumption | refine Below.drew ?_ | refine belN ?_ _ | refine Below.alloc ?_ (by first | exact Nat.le_refl _ | (simp; done) | (simp; omega) | omega) _ | refine Below.setCell ?_ (by first | exact Nat.le_refl _ | (simp; done) | (simp; omega) | omega) _ | refine Below.trans ?_ (Below.mono (by assumption) (by first | exact Nat.le_refl _ | (simp; done) | (simp; omega) | omega))))⟩
theorem MsgOk_any (k r v p f : Int) (w : World) :
    Calls Try.prog 73 #[.agg #[.int .i64 k, .int .i64 r, .int .i64 v, .int .i64 p, .int .i64 f]] w fun e w' => e = .returned (.bool (msgB k r v p f)) ∧ Below w.heap.size w w' := by
  cases h2 : inB r 0 11
  · go_enter Try.func73, Try.ntmps73
    go_wp2_with (go_at_call 75; (with_reducible refine (within_any _ _ _ _).mono ?_); rintro e w' ⟨rfl, rfl⟩)
    go_ret; exact ⟨by simp [msgB, *], (by repeat (first | exact Below.refl _ _ | assumption | refine Below.drew ?_ | refine belN ?_ _ | refine Below.alloc ?_ (by first | exact Nat.le_refl _ | (simp; done) | (simp; omega) | omega) _ | refine Below.setCell ?_ (by first | exact Nat.le_refl _ | (simp; done) | (simp; omega) | omega) _ | refine Below.trans ?_ (Below.mono (by assumption) (by first | exact Nat.le_refl _ | (simp; done) | (simp; omega) | omega))))⟩
  · have b2 := inB_bd h2
    cases h3 : inB f 1 4
    · go_enter Try.func73, Try.ntmps73
      go_wp2_with (go_at_call 75; (with_reducible refine (within_any _ _ _ _).mono ?_); rintro e w' ⟨rfl, rfl⟩)
      go_ret; exact ⟨by simp [msgB, *], (by repeat (first | exact Below.refl _ _ | assumption | refine Below.drew ?_ | refine belN ?_ _ | refine Below.alloc ?_ (by first | exact Nat.le_refl _ | (simp; done) | (simp; omega) | omega) _ | refine Below.setCell ?_ (by first | exact Nat.le_refl _ | (simp; done) | (simp; omega) | omega) _ | refine Below.trans ?_ (Below.mono (by assumption) (by first | exact Nat.le_refl _ | (simp; done) | (simp; omega) | omega))))⟩
    · by_cases h4 : k = 1
      · subst h4; have hk := k1
        cases h5 : (f == propOf r)
        · go_enter Try.func73, Try.ntmps73
          go_wp2_with (go_at_call 75; (with_reducible refine (within_any _ _ _ _).mono ?_); rintro e w' ⟨rfl, rfl⟩)
          go_quiet (first | (go_at_call 75; exact quiet_sym (within_any _ _ _ _)) | (go_at_call 99; exact quiet_sym (proposerOf_any _ _ b2.1 (by omega))))
          go_wp2
          go_ret; exact ⟨by simp [msgB, *], (by repeat (first | exact Below.refl _ _ | assumption | refine Below.drew ?_ | refine belN ?_ _ | refine Below.alloc ?_ (by first | exact Nat.le_refl _ | (simp; done) | (simp; omega) | omega) _ | refine Below.setCell ?_ (by first | exact Nat.le_refl _ | (simp; done) | (simp; omega) | omega) _ | refine Below.trans ?_ (Below.mono (by assumption) (by first | exact Nat.le_refl _ | (simp; done) | (simp; omega) | omega))))⟩
        · cases h6 : inB v 1 20
          · go_enter Try.func73, Try.ntmps73
            go_wp2_with (go_at_call 75; (with_reducible refine (within_any _ _ _ _).mono ?_); rintro e w' ⟨rfl, rfl⟩)
            go_quiet (first | (go_at_call 75; exact quiet_sym (within_any _ _ _ _)) | (go_at_call 99; exact quiet_sym (proposerOf_any _ _ b2.1 (by omega))))
            go_wp2
            go_ret; exact ⟨by simp [msgB, *], (by repeat (first | exact Below.refl _ _ | assumption | refine Below.drew ?_ | refine belN ?_ _ | refine Below.alloc ?_ (by first | exact Nat.le_refl _ | (simp; done) | (simp; omega) | omega) _ | refine Below.setCell ?_ (by first | exact Nat.le_refl _ | (simp; done) | (simp; omega) | omega) _ | refine Below.trans ?_ (Below.mono (by assumption) (by first | exact Nat.le_refl _ | (simp; done) | (simp; omega) | omega))))⟩
          · go_enter Try.func73, Try.ntmps73
            go_wp2_with (go_at_call 75; (with_reducible refine (within_any _ _ _ _).mono ?_); rintro e w' ⟨rfl, rfl⟩)
            go_quiet (first | (go_at_call 75; exact quiet_sym (within_any _ _ _ _)) | (go_at_call 99; exact quiet_sym (proposerOf_any _ _ b2.1 (by omega))))
            go_wp2
            go_ret; exact ⟨by simp [msgB, *], (by repeat (first | exact Below.refl _ _ | assumption | refine Below.drew ?_ | refine belN ?_ _ | refine Below.alloc ?_ (by first | exact Nat.le_refl _ | (simp; done) | (simp; omega) | omega) _ | refine Below.setCell ?_ (by first | exact Nat.le_refl _ | (simp; done) | (simp; omega) | omega) _ | refine Below.trans ?_ (Below.mono (by assumption) (by first | exact Nat.le_refl _ | (simp; done) | (simp; omega) | omega))))⟩
      · by_cases h7 : k = 2
        · subst h7; have hk := k2
          cases h5 : inB v 0 20
          · go_enter Try.func73, Try.ntmps73
            go_wp2_with (go_at_call 75; (with_reducible refine (within_any _ _ _ _).mono ?_); rintro e w' ⟨rfl, rfl⟩)
            go_ret; exact ⟨by simp [msgB, *], (by repeat (first | exact Below.refl _ _ | assumption | refine Below.drew ?_ | refine belN ?_ _ | refine Below.alloc ?_ (by first | exact Nat.le_refl _ | (simp; done) | (simp; omega) | omega) _ | refine Below.setCell ?_ (by first | exact Nat.le_refl _ | (simp; done) | (simp; omega) | omega) _ | refine Below.trans ?_ (Below.mono (by assumption) (by first | exact Nat.le_refl _ | (simp; done) | (simp; omega) | omega))))⟩
          · cases h6 : (p == -1)
            · go_enter Try.func73, Try.ntmps73
              go_wp2_with (go_at_call 75; (with_reducible refine (within_any _ _ _ _).mono ?_); rintro e w' ⟨rfl, rfl⟩)
              go_ret; exact ⟨by simp [msgB, *], (by repeat (first | exact Below.refl _ _ | assumption | refine Below.drew ?_ | refine belN ?_ _ | refine Below.alloc ?_ (by first | exact Nat.le_refl _ | (simp; done) | (simp; omega) | omega) _ | refine Below.setCell ?_ (by first | exact Nat.le_refl _ | (simp; done) | (simp; omega) | omega) _ | refine Below.trans ?_ (Below.mono (by assumption) (by first | exact Nat.le_refl _ | (simp; done) | (simp; omega) | omega))))⟩
            · go_enter Try.func73, Try.ntmps73
              go_wp2_with (go_at_call 75; (with_reducible refine (within_any _ _ _ _).mono ?_); rintro e w' ⟨rfl, rfl⟩)
              go_ret; exact ⟨by simp [msgB, *], (by repeat (first | exact Below.refl _ _ | assumption | refine Below.drew ?_ | refine belN ?_ _ | refine Below.alloc ?_ (by first | exact Nat.le_refl _ | (simp; done) | (simp; omega) | omega) _ | refine Below.setCell ?_ (by first | exact Nat.le_refl _ | (simp; done) | (simp; omega) | omega) _ | refine Below.trans ?_ (Below.mono (by assumption) (by first | exact Nat.le_refl _ | (simp; done) | (simp; omega) | omega))))⟩
        · by_cases h8 : k = 3
          · subst h8; have hk := k3
            cases h5 : inB v 0 20
            · go_enter Try.func73, Try.ntmps73
              go_wp2_with (go_at_call 75; (with_reducible refine (within_any _ _ _ _).mono ?_); rintro e w' ⟨rfl, rfl⟩)
              go_ret; exact ⟨by simp [msgB, *], (by repeat (first | exact Below.refl _ _ | assumption | refine Below.drew ?_ | refine belN ?_ _ | refine Below.alloc ?_ (by first | exact Nat.le_refl _ | (simp; done) | (simp; omega) | omega) _ | refine Below.setCell ?_ (by first | exact Nat.le_refl _ | (simp; done) | (simp; omega) | omega) _ | refine Below.trans ?_ (Below.mono (by assumption) (by first | exact Nat.le_refl _ | (simp; done) | (simp; omega) | omega))))⟩
            · cases h6 : (p == -1)
              · go_enter Try.func73, Try.ntmps73
                go_wp2_with (go_at_call 75; (with_reducible refine (within_any _ _ _ _).mono ?_); rintro e w' ⟨rfl, rfl⟩)
                go_ret; exact ⟨by simp [msgB, *], (by repeat (first | exact Below.refl _ _ | assumption | refine Below.drew ?_ | refine belN ?_ _ | refine Below.alloc ?_ (by first | exact Nat.le_refl _ | (simp; done) | (simp; omega) | omega) _ | refine Below.setCell ?_ (by first | exact Nat.le_refl _ | (simp; done) | (simp; omega) | omega) _ | refine Below.trans ?_ (Below.mono (by assumption) (by first | exact Nat.le_refl _ | (simp; done) | (simp; omega) | omega))))⟩
              · go_enter Try.func73, Try.ntmps73
                go_wp2_with (go_at_call 75; (with_reducible refine (within_any _ _ _ _).mono ?_); rintro e w' ⟨rfl, rfl⟩)
                go_ret; exact ⟨by simp [msgB, *], (by repeat (first | exact Below.refl _ _ | assumption | refine Below.drew ?_ | refine belN ?_ _ | refine Below.alloc ?_ (by first | exact Nat.le_refl _ | (simp; done) | (simp; omega) | omega) _ | refine Below.setCell ?_ (by first | exact Nat.le_refl _ | (simp; done) | (simp; omega) | omega) _ | refine Below.trans ?_ (Below.mono (by assumption) (by first | exact Nat.le_refl _ | (simp; done) | (simp; omega) | omega))))⟩
          · have h9 : inB k 1 3 = false := by simp [inB]; omega
            go_enter Try.func73, Try.ntmps73
            go_wp2_with (go_at_call 75; (with_reducible refine (within_any _ _ _ _).mono ?_); rintro e w' ⟨rfl, rfl⟩)
            go_ret; exact ⟨by simp [msgB, *], (by repeat (first | exact Below.refl _ _ | assumption | refine Below.drew ?_ | refine belN ?_ _ | refine Below.alloc ?_ (by first | exact Nat.le_refl _ | (simp; done) | (simp; omega) | omega) _ | refine Below.setCell ?_ (by first | exact Nat.le_refl _ | (simp; done) | (simp; omega) | omega) _ | refine Below.trans ?_ (Below.mono (by assumption) (by first | exact Nat.le_refl _ | (simp; done) | (simp; omega) | omega))))⟩
theorem toNMsg_any (k r v p f : Int) (w : World) :
    Calls Try.prog 48 #[.agg #[.int .i64 k, .int .i64 r, .int .i64 v, .int .i64 p, .int .i64 f]] w fun e w' => e = .returned (.agg #[.int .i64 k, .int .i64 r, .int .i64 v, .int .i64 p, .int .i64 f]) ∧ Below w.heap.size w w' := by
  go_enter Try.func48, Try.ntmps48
  go_wp2
  exact bodyPost_ret (v := .agg #[.int .i64 k, .int .i64 r, .int .i64 v, .int .i64 p, .int .i64 f]) (by simp [results, Try.results48, go_sem]) rfl ⟨rfl, (by repeat (first | exact Below.refl _ _ | assumption | refine Below.drew ?_ | refine belN ?_ _ | refine Below.alloc ?_ (by first | exact Nat.le_refl _ | (simp; done) | (simp; omega) | omega) _ | refine Below.setCell ?_ (by first | exact Nat.le_refl _ | (simp; done) | (simp; omega) | omega) _ | refine Below.trans ?_ (Below.mono (by assumption) (by first | exact Nat.le_refl _ | (simp; done) | (simp; omega) | omega))))⟩
end Go.Proofs.Ytjgaelnonacdkaa
