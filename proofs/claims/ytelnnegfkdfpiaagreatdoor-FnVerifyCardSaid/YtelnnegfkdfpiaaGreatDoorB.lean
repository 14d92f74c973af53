/- Contracts of the predicates on votes, guards and messages: isId, VoteOk, GuardOk, MsgOk, of the program and of the reference. -/
import Derived.Test.YtelnnegfkdfpiaaGreatDoorA
import Derived.Deep.QuietTactic
import Derived.BigQuiet
import Derived.WalkKit
import Derived.WalkSpells
import Derived.WalkLawsBesides
import Derived.Lib.Hide
namespace Go.Proofs.YtelnnegfkdfpiaaGreatDoor
open Go.RowKit

def idB (s : ByteArray) : Bool := s.toList.isEmpty || ((s.size : Int) == 8)
theorem isId_any (s : ByteArray) (w : World) :
    Calls Tryz.prog 122 #[.string s] w fun e w' => e = .returned (.bool (idB s)) ∧ w = w' := by
  cases h : ((s.size : Int) == 8)
  all_goals
    go_enter Tryz.func122, Tryz.ntmps122
    go_wp2
    go_ret
    exact ⟨by unfold idB; rw [h]; simp, rfl⟩
def voteB (h r st : Int) (id : ByteArray) (v : Int) : Bool := inB h 1 1000000 && inB r 0 1000 && inB st 1 2 && idB id && inB v 1 99
theorem sVoteOk_any (h r st : Int) (id : ByteArray) (v : Int) (w : World) :
    Calls Tryz.prog 81 #[.agg #[.int .i64 h, .int .i64 r, .int .i64 st, .string id, .int .i64 v]] w fun e w' => e = .returned (.bool (voteB h r st id v)) ∧ Below w.heap.size w w' := by
  cases h1 : inB h 1 1000000
  · go_enter Tryz.func81, Tryz.ntmps81
    go_wp2_with ((go_at_call 75; (with_reducible refine (l1In_any _ _ _ _).mono ?_); rintro e w' ⟨rfl, rfl⟩))
    all_goals (go_ret; refine ⟨?_, (by repeat (first | exact Below.refl _ _ | assumption | refine Below.drew ?_ | refine belN ?_ _ | refine Below.alloc ?_ (by first | exact Nat.le_refl _ | (simp; done) | (simp; omega) | omega) _ | refine Below.setCell ?_ (by first | exact Nat.le_refl _ | (simp; done) | (simp; omega) | omega) _ | refine Below.trans ?_ (Below.mono (by assumption) (by first | exact Nat.le_refl _ | (simp; done) | (simp; omega) | omega))))⟩)
    all_goals simp [voteB, idB, *]
  · cases h2 : inB r 0 1000
    · go_enter Tryz.func81, Tryz.ntmps81
      go_wp2_with ((go_at_call 75; (with_reducible refine (l1In_any _ _ _ _).mono ?_); rintro e w' ⟨rfl, rfl⟩))
      all_goals (go_ret; refine ⟨?_, (by repeat (first | exact Below.refl _ _ | assumption | refine Below.drew ?_ | refine belN ?_ _ | refine Below.alloc ?_ (by first | exact Nat.le_refl _ | (simp; done) | (simp; omega) | omega) _ | refine Below.setCell ?_ (by first | exact Nat.le_refl _ | (simp; done) | (simp; omega) | omega) _ | refine Below.trans ?_ (Below.mono (by assumption) (by first | exact Nat.le_refl _ | (simp; done) | (simp; omega) | omega))))⟩)
      all_goals simp [voteB, idB, *]
    · cases h3 : inB st 1 2
      · go_enter Tryz.func81, Tryz.ntmps81
        go_wp2_with ((go_at_call 75; (with_reducible refine (l1In_any _ _ _ _).mono ?_); rintro e w' ⟨rfl, rfl⟩))
        all_goals (go_ret; refine ⟨?_, (by repeat (first | exact Below.refl _ _ | assumption | refine Below.drew ?_ | refine belN ?_ _ | refine Below.alloc ?_ (by first | exact Nat.le_refl _ | (simp; done) | (simp; omega) | omega) _ | refine Below.setCell ?_ (by first | exact Nat.le_refl _ | (simp; done) | (simp; omega) | omega) _ | refine Below.trans ?_ (Below.mono (by assumption) (by first | exact Nat.le_refl _ | (simp; done) | (simp; omega) | omega))))⟩)
        all_goals simp [voteB, idB, *]
      · go_enter Tryz.func81, Tryz.ntmps81
        go_wp2_with ((go_at_call 75; (with_reducible refine (l1In_any _ _ _ _).mono ?_); rintro e w' ⟨rfl, rfl⟩))
        all_goals (go_ret; refine ⟨?_, (by repeat (first | exact Below.refl _ _ | assumption | refine Below.drew ?_ | refine belN ?_ _ | refine Below.alloc ?_ (by first | exact Nat.le_refl _ | (simp; done) | (simp; omega) | omega) _ | refine Below.setCell ?_ (by first | exact Nat.le_refl _ | (simp; done) | (simp; omega) | omega) _ | refine Below.trans ?_ (Below.mono (by assumption) (by first | exact Nat.le_refl _ | (simp; done) | (simp; omega) | omega))))⟩)
        all_goals simp [voteB, idB, *]
theorem VoteOk_any (h r st : Int) (id : ByteArray) (v : Int) (w : World) :
    Calls Tryz.prog 115 #[.agg #[.int .i64 h, .int .i64 r, .int .i64 st, .string id, .int .i64 v]] w fun e w' => e = .returned (.bool (voteB h r st id v)) ∧ Below w.heap.size w w' := by
  cases h1 : inB h 1 1000000
  · go_enter Tryz.func115, Tryz.ntmps115
    go_wp2_with (first | (go_at_call 88; (with_reducible refine (within_any _ _ _ _).mono ?_); rintro e w' ⟨rfl, rfl⟩) | (go_at_call 89; (with_reducible refine (isHeight_any _ _).mono ?_); rintro e w' ⟨rfl, rfl⟩) | (go_at_call 122; (with_reducible refine (isId_any _ _).mono ?_); rintro e w' ⟨rfl, rfl⟩) | (go_at_call 123; (with_reducible refine (isVal_any _ _).mono ?_); rintro e w' ⟨rfl, rfl⟩))
    go_ret
    exact ⟨by simp [voteB, *], (by repeat (first | exact Below.refl _ _ | assumption | refine Below.drew ?_ | refine belN ?_ _ | refine Below.alloc ?_ (by first | exact Nat.le_refl _ | (simp; done) | (simp; omega) | omega) _ | refine Below.setCell ?_ (by first | exact Nat.le_refl _ | (simp; done) | (simp; omega) | omega) _ | refine Below.trans ?_ (Below.mono (by assumption) (by first | exact Nat.le_refl _ | (simp; done) | (simp; omega) | omega))))⟩
  · cases h2 : inB r 0 1000
    · go_enter Tryz.func115, Tryz.ntmps115
      go_wp2_with (first | (go_at_call 88; (with_reducible refine (within_any _ _ _ _).mono ?_); rintro e w' ⟨rfl, rfl⟩) | (go_at_call 89; (with_reducible refine (isHeight_any _ _).mono ?_); rintro e w' ⟨rfl, rfl⟩) | (go_at_call 122; (with_reducible refine (isId_any _ _).mono ?_); rintro e w' ⟨rfl, rfl⟩) | (go_at_call 123; (with_reducible refine (isVal_any _ _).mono ?_); rintro e w' ⟨rfl, rfl⟩))
      go_ret
      exact ⟨by simp [voteB, *], (by repeat (first | exact Below.refl _ _ | assumption | refine Below.drew ?_ | refine belN ?_ _ | refine Below.alloc ?_ (by first | exact Nat.le_refl _ | (simp; done) | (simp; omega) | omega) _ | refine Below.setCell ?_ (by first | exact Nat.le_refl _ | (simp; done) | (simp; omega) | omega) _ | refine Below.trans ?_ (Below.mono (by assumption) (by first | exact Nat.le_refl _ | (simp; done) | (simp; omega) | omega))))⟩
    · cases h3 : inB st 1 2
      · go_enter Tryz.func115, Tryz.ntmps115
        go_wp2_with (first | (go_at_call 88; (with_reducible refine (within_any _ _ _ _).mono ?_); rintro e w' ⟨rfl, rfl⟩) | (go_at_call 89; (with_reducible refine (isHeight_any _ _).mono ?_); rintro e w' ⟨rfl, rfl⟩) | (go_at_call 122; (with_reducible refine (isId_any _ _).mono ?_); rintro e w' ⟨rfl, rfl⟩) | (go_at_call 123; (with_reducible refine (isVal_any _ _).mono ?_); rintro e w' ⟨rfl, rfl⟩))
        go_ret
        exact ⟨by simp [voteB, *], (by repeat (first | exact Below.refl _ _ | assumption | refine Below.drew ?_ | refine belN ?_ _ | refine Below.alloc ?_ (by first | exact Nat.le_refl _ | (simp; done) | (simp; omega) | omega) _ | refine Below.setCell ?_ (by first | exact Nat.le_refl _ | (simp; done) | (simp; omega) | omega) _ | refine Below.trans ?_ (Below.mono (by assumption) (by first | exact Nat.le_refl _ | (simp; done) | (simp; omega) | omega))))⟩
      · cases h4 : idB id
        · go_enter Tryz.func115, Tryz.ntmps115
          go_wp2_with (first | (go_at_call 88; (with_reducible refine (within_any _ _ _ _).mono ?_); rintro e w' ⟨rfl, rfl⟩) | (go_at_call 89; (with_reducible refine (isHeight_any _ _).mono ?_); rintro e w' ⟨rfl, rfl⟩) | (go_at_call 122; (with_reducible refine (isId_any _ _).mono ?_); rintro e w' ⟨rfl, rfl⟩) | (go_at_call 123; (with_reducible refine (isVal_any _ _).mono ?_); rintro e w' ⟨rfl, rfl⟩))
          go_ret
          exact ⟨by simp [voteB, *], (by repeat (first | exact Below.refl _ _ | assumption | refine Below.drew ?_ | refine belN ?_ _ | refine Below.alloc ?_ (by first | exact Nat.le_refl _ | (simp; done) | (simp; omega) | omega) _ | refine Below.setCell ?_ (by first | exact Nat.le_refl _ | (simp; done) | (simp; omega) | omega) _ | refine Below.trans ?_ (Below.mono (by assumption) (by first | exact Nat.le_refl _ | (simp; done) | (simp; omega) | omega))))⟩
        · go_enter Tryz.func115, Tryz.ntmps115
          go_wp2_with (first | (go_at_call 88; (with_reducible refine (within_any _ _ _ _).mono ?_); rintro e w' ⟨rfl, rfl⟩) | (go_at_call 89; (with_reducible refine (isHeight_any _ _).mono ?_); rintro e w' ⟨rfl, rfl⟩) | (go_at_call 122; (with_reducible refine (isId_any _ _).mono ?_); rintro e w' ⟨rfl, rfl⟩) | (go_at_call 123; (with_reducible refine (isVal_any _ _).mono ?_); rintro e w' ⟨rfl, rfl⟩))
          go_ret
          exact ⟨by simp [voteB, *], (by repeat (first | exact Below.refl _ _ | assumption | refine Below.drew ?_ | refine belN ?_ _ | refine Below.alloc ?_ (by first | exact Nat.le_refl _ | (simp; done) | (simp; omega) | omega) _ | refine Below.setCell ?_ (by first | exact Nat.le_refl _ | (simp; done) | (simp; omega) | omega) _ | refine Below.trans ?_ (Below.mono (by assumption) (by first | exact Nat.le_refl _ | (simp; done) | (simp; omega) | omega))))⟩
def guardB (h r st : Int) (id : ByteArray) : Bool := (h == 0 && (r == 0 && (st == 0 && id.toList.isEmpty))) || (inB h 1 1000000 && inB r 0 1000 && inB st 1 2 && idB id)
theorem guardB_no (h r st : Int) (id : ByteArray) (h0 : (h == 0 && (r == 0 && (st == 0 && id.toList.isEmpty))) = false) : guardB h r st id = voteB h r st id 1 := by
  simp [guardB, voteB, h0, inB]

end Go.Proofs.YtelnnegfkdfpiaaGreatDoor
