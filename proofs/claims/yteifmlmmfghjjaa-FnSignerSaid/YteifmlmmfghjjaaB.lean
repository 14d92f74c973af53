/- Contracts of the predicates on votes, guards and messages: isId, VoteOk, GuardOk, MsgOk, of the program and of the reference. -/
import Derived.Test.YteifmlmmfghjjaaA
import Derived.Deep.QuietTactic
import Derived.BigQuiet
import Derived.WalkKit
import Derived.WalkSpells
import Derived.WalkLawsBesides
import Derived.Lib.Hide
namespace Go.Proofs.Yteifmlmmfghjjaa
open Go.RowKit

def idB (s : ByteArray) : Bool := s.toList.isEmpty || ((s.size : Int) == 8)
theorem isId_any (s : ByteArray) (w : World) :
    Calls Try.prog 53 #[.string s] w fun e w' => e = .returned (.bool (idB s)) ∧ w = w' := by
  cases h : ((s.size : Int) == 8)
  all_goals
    go_enter Try.func53, Try.ntmps53
    go_wp2
    go_ret
    exact ⟨by unfold idB; rw [h]; simp, rfl⟩
def voteB (h r st : Int) (id : ByteArray) (v : Int) : Bool := inB h 1 1000000 && inB r 0 1000 && inB st 1 2 && idB id && inB v 1 99
theorem sVoteOk_any (h r st : Int) (id : ByteArray) (v : Int) (w : World) :
    Calls Try.prog 32 #[.agg #[.int .i64 h, .int .i64 r, .int .i64 st, .string id, .int .i64 v]] w fun e w' => e = .returned (.bool (voteB h r st id v)) ∧ Below w.heap.size w w' := by
  cases h1 : inB h 1 1000000
  · go_enter Try.func32, Try.ntmps32
    go_wp2_with ((go_at_call 30; (with_reducible refine (l1In_any _ _ _ _).mono ?_); rintro e w' ⟨rfl, rfl⟩))
    all_goals (go_ret; refine ⟨?_, (by repeat (first | exact Below.refl _ _ | assumption | refine Below.drew ?_ | refine belN ?_ _ | refine Below.alloc ?_ (by first | exact Nat.le_refl _ | (simp; done) | (simp; omega) | omega) _ | refine Below.setCell ?_ (by first | exact Nat.le_refl _ | (simp; done) | (simp; omega) | omega) _ | refine Below.trans ?_ (Below.mono (by assumption) (by first | exact Nat.le_refl _ | (simp; done) | (simp; omega) | omega))))⟩)
    all_goals simp [voteB, idB, *]
  · cases h2 : inB r 0 1000
    · go_enter Try.func32, Try.ntmps32
      go_wp2_with ((go_at_call 30; (with_reducible refine (l1In_any _ _ _ _).mono ?_); rintro e w' ⟨rfl, rfl⟩))
      all_goals (go_ret; refine ⟨?_, (by repeat (first | exact Below.refl _ _ | assumption | refine Below.drew ?_ | refine belN ?_ _ | refine Below.alloc ?_ (by first | exact Nat.le_refl _ | (simp; done) | (simp; omega) | omega) _ | refine Below.setCell ?_ (by first | exact Nat.le_refl _ | (simp; done) | (simp; omega) | omega) _ | refine Below.trans ?_ (Below.mono (by assumption) (by first | exact Nat.le_refl _ | (simp; done) | (simp; omega) | omega))))⟩)
      all_goals simp [voteB, idB, *]
    · cases h3 : inB st 1 2
      · go_enter Try.func32, Try.ntmps32
        go_wp2_with ((go_at_call 30; (with_reducible refine (l1In_any _ _ _ _).mono ?_); rintro e w' ⟨rfl, rfl⟩))
        all_goals (go_ret; refine ⟨?_, (by repeat (first | exact Below.refl _ _ | assumption | refine Below.drew ?_ | refine belN ?_ _ | refine Below.alloc ?_ (by first | exact Nat.le_refl _ | (simp; done) | (simp; omega) | omega) _ | refine Below.setCell ?_ (by first | exact Nat.le_refl _ | (simp; done) | (simp; omega) | omega) _ | refine Below.trans ?_ (Below.mono (by assumption) (by first | exact Nat.le_refl _ | (simp; done) | (simp; omega) | omega))))⟩)
        all_goals simp [voteB, idB, *]
      · go_enter Try.func32, Try.ntmps32
        go_wp2_with ((go_at_call 30; (with_reducible refine (l1In_any _ _ _ _).mono ?_); rintro e w' ⟨rfl, rfl⟩))
        all_goals (go_ret; refine ⟨?_, (by repeat (first | exact Below.refl _ _ | assumption | refine Below.drew ?_ | refine belN ?_ _ | refine Below.alloc ?_ (by first | exact Nat.le_refl _ | (simp; done) | (simp; omega) | omega) _ | refine Below.setCell ?_ (by first | exact Nat.le_refl _ | (simp; done) | (simp; omega) | omega) _ | refine Below.trans ?_ (Below.mono (by assumption) (by first | exact Nat.le_refl _ | (simp; done) | (simp; omega) | omega))))⟩)
        all_goals simp [voteB, idB, *]
theorem VoteOk_any (h r st : Int) (id : ByteArray) (v : Int) (w : World) :
    Calls Try.prog 35 #[.agg #[.int .i64 h, .int .i64 r, .int .i64 st, .string id, .int .i64 v]] w fun e w' => e = .returned (.bool (voteB h r st id v)) ∧ Below w.heap.size w w' := by
  cases h1 : inB h 1 1000000
  · go_enter Try.func35, Try.ntmps35
    go_wp2_with (first | (go_at_call 52; (with_reducible refine (within_any _ _ _ _).mono ?_); rintro e w' ⟨rfl, rfl⟩) | (go_at_call 51; (with_reducible refine (isHeight_any _ _).mono ?_); rintro e w' ⟨rfl, rfl⟩) | (go_at_call 53; (with_reducible refine (isId_any _ _).mono ?_); rintro e w' ⟨rfl, rfl⟩) | (go_at_call 36; (with_reducible refine (isVal_any _ _).mono ?_); rintro e w' ⟨rfl, rfl⟩))
    go_ret
    exact ⟨by simp [voteB, *], (by repeat (first | exact Below.refl _ _ | assumption | refine Below.drew ?_ | refine belN ?_ _ | refine Below.alloc ?_ (by first | exact Nat.le_refl _ | (simp; done) | (simp; omega) | omega) _ | refine Below.setCell ?_ (by first | exact Nat.le_refl _ | (simp; done) | (simp; omega) | omega) _ | refine Below.trans ?_ (Below.mono (by assumption) (by first | exact Nat.le_refl _ | (simp; done) | (simp; omega) | omega))))⟩
  · cases h2 : inB r 0 1000
    · go_enter Try.func35, Try.ntmps35
      go_wp2_with (first | (go_at_call 52; (with_reducible refine (within_any _ _ _ _).mono ?_); rintro e w' ⟨rfl, rfl⟩) | (go_at_call 51; (with_reducible refine (isHeight_any _ _).mono ?_); rintro e w' ⟨rfl, rfl⟩) | (go_at_call 53; (with_reducible refine (isId_any _ _).mono ?_); rintro e w' ⟨rfl, rfl⟩) | (go_at_call 36; (with_reducible refine (isVal_any _ _).mono ?_); rintro e w' ⟨rfl, rfl⟩))
      go_ret
      exact ⟨by simp [voteB, *], (by repeat (first | exact Below.refl _ _ | assumption | refine Below.drew ?_ | refine belN ?_ _ | refine Below.alloc ?_ (by first | exact Nat.le_refl _ | (simp; done) | (simp; omega) | omega) _ | refine Below.setCell ?_ (by first | exact Nat.le_refl _ | (simp; done) | (simp; omega) | omega) _ | refine Below.trans ?_ (Below.mono (by assumption) (by first | exact Nat.le_refl _ | (simp; done) | (simp; omega) | omega))))⟩
    · cases h3 : inB st 1 2
      · go_enter Try.func35, Try.ntmps35
        go_wp2_with (first | (go_at_call 52; (with_reducible refine (within_any _ _ _ _).mono ?_); rintro e w' ⟨rfl, rfl⟩) | (go_at_call 51; (with_reducible refine (isHeight_any _ _).mono ?_); rintro e w' ⟨rfl, rfl⟩) | (go_at_call 53; (with_reducible refine (isId_any _ _).mono ?_); rintro e w' ⟨rfl, rfl⟩) | (go_at_call 36; (with_reducible refine (isVal_any _ _).mono ?_); rintro e w' ⟨rfl, rfl⟩))
        go_ret
        exact ⟨by simp [voteB, *], (by repeat (first | exact Below.refl _ _ | assumption | refine Below.drew ?_ | refine belN ?_ _ | refine Below.alloc ?_ (by first | exact Nat.le_refl _ | (simp; done) | (simp; omega) | omega) _ | refine Below.setCell ?_ (by first | exact Nat.le_refl _ | (simp; done) | (simp; omega) | omega) _ | refine Below.trans ?_ (Below.mono (by assumption) (by first | exact Nat.le_refl _ | (simp; done) | (simp; omega) | omega))))⟩
      · cases h4 : idB id
        · go_enter Try.func35, Try.ntmps35
          go_wp2_with (first | (go_at_call 52; (with_reducible refine (within_any _ _ _ _).mono ?_); rintro e w' ⟨rfl, rfl⟩) | (go_at_call 51; (with_reducible refine (isHeight_any _ _).mono ?_); rintro e w' ⟨rfl, rfl⟩) | (go_at_call 53; (with_reducible refine (isId_any _ _).mono ?_); rintro e w' ⟨rfl, rfl⟩) | (go_at_call 36; (with_reducible refine (isVal_any _ _).mono ?_); rintro e w' ⟨rfl, rfl⟩))
          go_ret
          exact ⟨by simp [voteB, *], (by repeat (first | exact Below.refl _ _ | assumption | refine Below.drew ?_ | refine belN ?_ _ | refine Below.alloc ?_ (by first | exact Nat.le_refl _ | (simp; done) | (simp; omega) | omega) _ | refine Below.setCell ?_ (by first | exact Nat.le_refl _ | (simp; done) | (simp; omega) | omega) _ | refine Below.trans ?_ (Below.mono (by assumption) (by first | exact Nat.le_refl _ | (simp; done) | (simp; omega) | omega))))⟩
        · go_enter Try.func35, Try.ntmps35
          go_wp2_with (first | (go_at_call 52; (with_reducible refine (within_any _ _ _ _).mono ?_); rintro e w' ⟨rfl, rfl⟩) | (go_at_call 51; (with_reducible refine (isHeight_any _ _).mono ?_); rintro e w' ⟨rfl, rfl⟩) | (go_at_call 53; (with_reducible refine (isId_any _ _).mono ?_); rintro e w' ⟨rfl, rfl⟩) | (go_at_call 36; (with_reducible refine (isVal_any _ _).mono ?_); rintro e w' ⟨rfl, rfl⟩))
          go_ret
          exact ⟨by simp [voteB, *], (by repeat (first | exact Below.refl _ _ | assumption | refine Below.drew ?_ | refine belN ?_ _ | refine Below.alloc ?_ (by first | exact Nat.le_refl _ | (simp; done) | (simp; omega) | omega) _ | refine Below.setCell ?_ (by first | exact Nat.le_refl _ | (simp; done) | (simp; omega) | omega) _ | refine Below.trans ?_ (Below.mono (by assumption) (by first | exact Nat.le_refl _ | (simp; done) | (simp; omega) | omega))))⟩
theorem toVote_any (h r st : Int) (id : ByteArray) (v : Int) (w : World) :
    Calls Try.prog 21 #[.agg #[.int .i64 h, .int .i64 r, .int .i64 st, .string id, .int .i64 v]] w fun e w' => e = .returned (.agg #[.int .i64 h, .int .i64 r, .int .i64 st, .string id, .int .i64 v]) ∧ Below w.heap.size w w' := by
  go_enter Try.func21, Try.ntmps21
  go_wp2
  exact bodyPost_ret (v := .agg #[.int .i64 h, .int .i64 r, .int .i64 st, .string id, .int .i64 v]) (by simp [results, Try.results21, go_sem]) rfl ⟨rfl, (by repeat (first | exact Below.refl _ _ | assumption | refine Below.drew ?_ | refine belN ?_ _ | refine Below.alloc ?_ (by first | exact Nat.le_refl _ | (simp; done) | (simp; omega) | omega) _ | refine Below.setCell ?_ (by first | exact Nat.le_refl _ | (simp; done) | (simp; omega) | omega) _ | refine Below.trans ?_ (Below.mono (by assumption) (by first | exact Nat.le_refl _ | (simp; done) | (simp; omega) | omega))))⟩
theorem szVote_any (h r st : Int) (id : ByteArray) (v : Int) (left : Int) (w : World) (hl : 0 ≤ left) (hm : left ≤ 1048576) (hs : id.size ≤ maxLen) :
    Calls Try.prog 19 #[.agg #[.int .i64 h, .int .i64 r, .int .i64 st, .string id, .int .i64 v], .int .i64 left] w fun e w' => e = .returned (.int .i64 (if left < id.size then -1 else left - id.size)) ∧ Below w.heap.size w w' := by
  unfold maxLen at hs
  by_cases hc : left < id.size
  · go_enter Try.func19, Try.ntmps19
    go_wp2
    go_ret
    exact ⟨rfl, (by repeat (first | exact Below.refl _ _ | assumption | refine Below.drew ?_ | refine belN ?_ _ | refine Below.alloc ?_ (by first | exact Nat.le_refl _ | (simp; done) | (simp; omega) | omega) _ | refine Below.setCell ?_ (by first | exact Nat.le_refl _ | (simp; done) | (simp; omega) | omega) _ | refine Below.trans ?_ (Below.mono (by assumption) (by first | exact Nat.le_refl _ | (simp; done) | (simp; omega) | omega))))⟩
  · go_enter Try.func19, Try.ntmps19
    go_wp2
    go_ret
    exact ⟨rfl, (by repeat (first | exact Below.refl _ _ | assumption | refine Below.drew ?_ | refine belN ?_ _ | refine Below.alloc ?_ (by first | exact Nat.le_refl _ | (simp; done) | (simp; omega) | omega) _ | refine Below.setCell ?_ (by first | exact Nat.le_refl _ | (simp; done) | (simp; omega) | omega) _ | refine Below.trans ?_ (Below.mono (by assumption) (by first | exact Nat.le_refl _ | (simp; done) | (simp; omega) | omega))))⟩
def guardB (h r st : Int) (id : ByteArray) : Bool := (h == 0 && (r == 0 && (st == 0 && id.toList.isEmpty))) || (inB h 1 1000000 && inB r 0 1000 && inB st 1 2 && idB id)
theorem GuardOk_any (h r st : Int) (id : ByteArray) (w : World) :
    Calls Try.prog 37 #[.agg #[.int .i64 h, .int .i64 r, .int .i64 st, .string id]] w fun e w' => e = .returned (.bool (guardB h r st id)) ∧ Below w.heap.size w w' := by
  cases h0 : (h == 0 && (r == 0 && (st == 0 && id.toList.isEmpty)))
  · cases h1 : inB h 1 1000000
    · go_enter Try.func37, Try.ntmps37
      go_wp2_with (first | (go_at_call 52; (with_reducible refine (within_any _ _ _ _).mono ?_); rintro e w' ⟨rfl, rfl⟩) | (go_at_call 51; (with_reducible refine (isHeight_any _ _).mono ?_); rintro e w' ⟨rfl, rfl⟩) | (go_at_call 53; (with_reducible refine (isId_any _ _).mono ?_); rintro e w' ⟨rfl, rfl⟩))
      all_goals (go_ret; exact ⟨by simp [guardB, *], (by repeat (first | exact Below.refl _ _ | assumption | refine Below.drew ?_ | refine belN ?_ _ | refine Below.alloc ?_ (by first | exact Nat.le_refl _ | (simp; done) | (simp; omega) | omega) _ | refine Below.setCell ?_ (by first | exact Nat.le_refl _ | (simp; done) | (simp; omega) | omega) _ | refine Below.trans ?_ (Below.mono (by assumption) (by first | exact Nat.le_refl _ | (simp; done) | (simp; omega) | omega))))⟩)
    · cases h2 : inB r 0 1000
      · go_enter Try.func37, Try.ntmps37
        go_wp2_with (first | (go_at_call 52; (with_reducible refine (within_any _ _ _ _).mono ?_); rintro e w' ⟨rfl, rfl⟩) | (go_at_call 51; (with_reducible refine (isHeight_any _ _).mono ?_); rintro e w' ⟨rfl, rfl⟩) | (go_at_call 53; (with_reducible refine (isId_any _ _).mono ?_); rintro e w' ⟨rfl, rfl⟩))
        all_goals (go_ret; exact ⟨by simp [guardB, *], (by repeat (first | exact Below.refl _ _ | assumption | refine Below.drew ?_ | refine belN ?_ _ | refine Below.alloc ?_ (by first | exact Nat.le_refl _ | (simp; done) | (simp; omega) | omega) _ | refine Below.setCell ?_ (by first | exact Nat.le_refl _ | (simp; done) | (simp; omega) | omega) _ | refine Below.trans ?_ (Below.mono (by assumption) (by first | exact Nat.le_refl _ | (simp; done) | (simp; omega) | omega))))⟩)
      · cases h3 : inB st 1 2
        · go_enter Try.func37, Try.ntmps37
          go_wp2_with (first | (go_at_call 52; (with_reducible refine (within_any _ _ _ _).mono ?_); rintro e w' ⟨rfl, rfl⟩) | (go_at_call 51; (with_reducible refine (isHeight_any _ _).mono ?_); rintro e w' ⟨rfl, rfl⟩) | (go_at_call 53; (with_reducible refine (isId_any _ _).mono ?_); rintro e w' ⟨rfl, rfl⟩))
          all_goals (go_ret; exact ⟨by simp [guardB, *], (by repeat (first | exact Below.refl _ _ | assumption | refine Below.drew ?_ | refine belN ?_ _ | refine Below.alloc ?_ (by first | exact Nat.le_refl _ | (simp; done) | (simp; omega) | omega) _ | refine Below.setCell ?_ (by first | exact Nat.le_refl _ | (simp; done) | (simp; omega) | omega) _ | refine Below.trans ?_ (Below.mono (by assumption) (by first | exact Nat.le_refl _ | (simp; done) | (simp; omega) | omega))))⟩)
        · go_enter Try.func37, Try.ntmps37
          go_wp2_with (first | (go_at_call 52; (with_reducible refine (within_any _ _ _ _).mono ?_); rintro e w' ⟨rfl, rfl⟩) | (go_at_call 51; (with_reducible refine (isHeight_any _ _).mono ?_); rintro e w' ⟨rfl, rfl⟩) | (go_at_call 53; (with_reducible refine (isId_any _ _).mono ?_); rintro e w' ⟨rfl, rfl⟩))
          all_goals (go_ret; exact ⟨by simp [guardB, *], (by repeat (first | exact Below.refl _ _ | assumption | refine Below.drew ?_ | refine belN ?_ _ | refine Below.alloc ?_ (by first | exact Nat.le_refl _ | (simp; done) | (simp; omega) | omega) _ | refine Below.setCell ?_ (by first | exact Nat.le_refl _ | (simp; done) | (simp; omega) | omega) _ | refine Below.trans ?_ (Below.mono (by assumption) (by first | exact Nat.le_refl _ | (simp; done) | (simp; omega) | omega))))⟩)
  · simp only [Bool.and_eq_true, beq_iff_eq, List.isEmpty_iff] at h0
    obtain ⟨rfl, rfl, rfl, h4⟩ := h0
    go_enter Try.func37, Try.ntmps37
    go_wp2
    go_ret
    exact ⟨by simp [guardB, h4], (by repeat (first | exact Below.refl _ _ | assumption | refine Below.drew ?_ | refine belN ?_ _ | refine Below.alloc ?_ (by first | exact Nat.le_refl _ | (simp; done) | (simp; omega) | omega) _ | refine Below.setCell ?_ (by first | exact Nat.le_refl _ | (simp; done) | (simp; omega) | omega) _ | refine Below.trans ?_ (Below.mono (by assumption) (by first | exact Nat.le_refl _ | (simp; done) | (simp; omega) | omega))))⟩
theorem l14Vote_any (h r st : Int) (id : ByteArray) (v : Int) (w : World) :
    Calls Try.prog 44 #[.agg #[.int .i64 h, .int .i64 r, .int .i64 st, .string id], .int .i64 v] w fun e w' => e = .returned (.agg #[.int .i64 h, .int .i64 r, .int .i64 st, .string id, .int .i64 v]) ∧ Below w.heap.size w w' := by
  go_enter Try.func44, Try.ntmps44
  go_wp2
  exact bodyPost_ret (v := .agg #[.int .i64 h, .int .i64 r, .int .i64 st, .string id, .int .i64 v]) (by simp [results, Try.results44, go_sem]) rfl ⟨rfl, (by repeat (first | exact Below.refl _ _ | assumption | refine Below.drew ?_ | refine belN ?_ _ | refine Below.alloc ?_ (by first | exact Nat.le_refl _ | (simp; done) | (simp; omega) | omega) _ | refine Below.setCell ?_ (by first | exact Nat.le_refl _ | (simp; done) | (simp; omega) | omega) _ | refine Below.trans ?_ (Below.mono (by assumption) (by first | exact Nat.le_refl _ | (simp; done) | (simp; omega) | omega))))⟩
theorem guardB_no (h r st : Int) (id : ByteArray) (h0 : (h == 0 && (r == 0 && (st == 0 && id.toList.isEmpty))) = false) : guardB h r st id = voteB h r st id 1 := by
  simp [guardB, voteB, h0, inB]
theorem sGuardOk_any (h r st : Int) (id : ByteArray) (w : World) :
    Calls Try.prog 31 #[.agg #[.int .i64 h, .int .i64 r, .int .i64 st, .string id]] w fun e w' => e = .returned (.bool (guardB h r st id)) ∧ Below w.heap.size w w' := by
  cases h0 : (h == 0 && (r == 0 && (st == 0 && id.toList.isEmpty)))
  · rw [guardB_no h r st id h0]
    go_enter Try.func31, Try.ntmps31
    go_wp2_with (first | (go_at_call 44; (with_reducible refine (l14Vote_any _ _ _ _ _ _).mono ?_); rintro e w1 ⟨rfl, hb⟩; obtain ⟨hc, hf, hz⟩ := bcell hb; (try simp only [World.size_drew] at hz); (try simp only [World.size_alloc] at hz); have hy := nlt (by omega : w.heap.size + 1 ≤ w1.heap.size)) | (go_at_call 32; (with_reducible refine (sVoteOk_any _ _ _ _ _ _).mono ?_); rintro e w1 ⟨rfl, hb⟩; obtain ⟨hc, hf, hz⟩ := bcell hb; (try simp only [World.size_drew] at hz); (try simp only [World.size_alloc] at hz); have hy := nlt (by omega : w.heap.size + 1 ≤ w1.heap.size)))
    all_goals (go_ret; refine ⟨?_, (by repeat (first | exact Below.refl _ _ | assumption | refine Below.drew ?_ | refine belN ?_ _ | refine Below.alloc ?_ (by first | exact Nat.le_refl _ | (simp; done) | (simp; omega) | omega) _ | refine Below.setCell ?_ (by first | exact Nat.le_refl _ | (simp; done) | (simp; omega) | omega) _ | refine Below.trans ?_ (Below.mono (by assumption) (by first | exact Nat.le_refl _ | (simp; done) | (simp; omega) | omega))))⟩)
    all_goals first | rfl | simp_all
  · simp only [Bool.and_eq_true, beq_iff_eq, List.isEmpty_iff] at h0
    obtain ⟨rfl, rfl, rfl, h4⟩ := h0
    go_enter Try.func31, Try.ntmps31
    go_wp2
    go_ret
    exact ⟨by simp [guardB, h4], (by repeat (first | exact Below.refl _ _ | assumption | refine Below.drew ?_ | refine belN ?_ _ | refine Below.alloc ?_ (by first | exact Nat.le_refl _ | (simp; done) | (simp; omega) | omega) _ | refine Below.setCell ?_ (by first | exact Nat.le_refl _ | (simp; done) | (simp; omega) | omega) _ | refine Below.trans ?_ (Below.mono (by assumption) (by first | exact Nat.le_refl _ | (simp; done) | (simp; omega) | omega))))⟩
theorem toGuard_any (h r st : Int) (id : ByteArray) (w : World) :
    Calls Try.prog 33 #[.agg #[.int .i64 h, .int .i64 r, .int .i64 st, .string id]] w fun e w' => e = .returned (.agg #[.int .i64 h, .int .i64 r, .int .i64 st, .string id]) ∧ Below w.heap.size w w' := by
  go_enter Try.func33, Try.ntmps33
  go_wp2
  exact bodyPost_ret (v := .agg #[.int .i64 h, .int .i64 r, .int .i64 st, .string id]) (by simp [results, Try.results33, go_sem]) rfl ⟨rfl, (by repeat (first | exact Below.refl _ _ | assumption | refine Below.drew ?_ | refine belN ?_ _ | refine Below.alloc ?_ (by first | exact Nat.le_refl _ | (simp; done) | (simp; omega) | omega) _ | refine Below.setCell ?_ (by first | exact Nat.le_refl _ | (simp; done) | (simp; omega) | omega) _ | refine Below.trans ?_ (Below.mono (by assumption) (by first | exact Nat.le_refl _ | (simp; done) | (simp; omega) | omega))))⟩
theorem szGuard_any (h r st : Int) (id : ByteArray) (left : Int) (w : World) (hl : 0 ≤ left) (hm : left ≤ 1048576) (hs : id.size ≤ maxLen) :
    Calls Try.prog 28 #[.agg #[.int .i64 h, .int .i64 r, .int .i64 st, .string id], .int .i64 left] w fun e w' => e = .returned (.int .i64 (if left < id.size then -1 else left - id.size)) ∧ Below w.heap.size w w' := by
  unfold maxLen at hs
  by_cases hc : left < id.size
  · go_enter Try.func28, Try.ntmps28
    go_wp2
    go_ret
    exact ⟨rfl, (by repeat (first | exact Below.refl _ _ | assumption | refine Below.drew ?_ | refine belN ?_ _ | refine Below.alloc ?_ (by first | exact Nat.le_refl _ | (simp; done) | (simp; omega) | omega) _ | refine Below.setCell ?_ (by first | exact Nat.le_refl _ | (simp; done) | (simp; omega) | omega) _ | refine Below.trans ?_ (Below.mono (by assumption) (by first | exact Nat.le_refl _ | (simp; done) | (simp; omega) | omega))))⟩
  · go_enter Try.func28, Try.ntmps28
    go_wp2
    go_ret
    exact ⟨rfl, (by repeat (first | exact Below.refl _ _ | assumption | refine Below.drew ?_ | refine belN ?_ _ | refine Below.alloc ?_ (by first | exact Nat.le_refl _ | (simp; done) | (simp; omega) | omega) _ | refine Below.setCell ?_ (by first | exact Nat.le_refl _ | (simp; done) | (simp; omega) | omega) _ | refine Below.trans ?_ (Below.mono (by assumption) (by first | exact Nat.le_refl _ | (simp; done) | (simp; omega) | omega))))⟩

end Go.Proofs.Yteifmlmmfghjjaa
