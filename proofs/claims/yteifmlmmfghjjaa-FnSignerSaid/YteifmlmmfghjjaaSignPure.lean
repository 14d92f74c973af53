/- What a signer keeps, in plain Lean: SignAsk and SignSync keep a right signer right. -/
import Derived.Test.YteifmlmmfghjjaaSignAsk
import Derived.Test.YteifmlmmfghjjaaSignSync
import Derived.WalkKit
import Derived.WalkSpells
import Derived.WalkLawsBesides
import Derived.Lib.Hide
namespace Go.Proofs.Yteifmlmmfghjjaa
open Go.RowKit

theorem signB_iff {s : SignS} {l : List VoteD} : signB s l = true ↔ allTo (okVote s.val) l l.length = true ∧ ((s.pend = true → memZero s = false) ∧ (s.pend = false → sameG s = true)) ∧ inB s.val 1 99 = true ∧ guardB s.dh s.dr s.ds s.di = true ∧ guardB s.mh s.mr s.ms s.mi = true ∧ l.length ≤ 60 := by
  unfold signB
  simp only [Bool.and_eq_true, decide_eq_true_eq]
  constructor
  · rintro ⟨⟨h1, h2⟩, ⟨⟨h3, h4⟩, h5⟩, h6⟩
    refine ⟨h1, ⟨fun hp => ?_, fun hp => ?_⟩, h3, h4, h5, by omega⟩
    · rw [hp] at h2; simpa using h2
    · rw [hp] at h2; simpa using h2
  · rintro ⟨h1, ⟨h2, h2'⟩, h3, h4, h5, h6⟩
    refine ⟨⟨h1, ?_⟩, ⟨⟨h3, h4⟩, h5⟩, by omega⟩
    cases hp : s.pend
    · simp [h2' hp]
    · simp [h2 hp]
theorem allTo_one {val : Int} {l : List VoteD} {v : VoteD} (h : allTo (okVote val) l l.length = true) (hv : okVote val 0 v = true) : allTo (okVote val) (l ++ [v]) (l ++ [v]).length = true := by
  have key : ∀ k, k ≤ l.length → allTo (okVote val) (l ++ [v]) k = allTo (okVote val) l k := by
    intro k
    induction k with
    | zero => intro _; rw [allTo_zero, allTo_zero]
    | succ k ih =>
      intro hk
      have e1 : l[k]? = some (l[k]'(by omega)) := List.getElem?_eq_getElem (by omega)
      have e2 : (l ++ [v])[k]? = some (l[k]'(by omega)) := by rw [List.getElem?_append_left (by omega)]; exact e1
      rw [allTo_succ e2, allTo_succ e1, ih (by omega)]
  rw [List.length_append, List.length_singleton, allTo_succ (x := v) (by simp), key _ (Nat.le_refl _), h]
  exact hv
theorem maySign_ok {gh gr gs : Int} {gi : ByteArray} {vh vr vs : Int} {vi : ByteArray} {vv : Int} (h : maySignN gh gr gs gi vh vr vs vi vv = 0 ∨ maySignN gh gr gs gi vh vr vs vi vv = 1) : voteB vh vr vs vi vv = true := by
  unfold maySignN at h
  split at h
  · rename_i h2
    simp only [Bool.and_eq_true] at h2
    exact h2.2
  · omega
/-- what SignAsk hands back of a right signer -/
theorem ask_cases {s : SignS} {l : List VoteD} (v : VoteD) (h : signB s l = true) :
    (askK s l v = 0 ∧ askS s l v = ⟨s.val, s.dh, s.dr, s.ds, s.di, v.h, v.r, v.st, v.id, true⟩ ∧ signB (askS s l v) (askL s l v) = true) ∨ (askK s l v ≠ 0 ∧ askS s l v = s ∧ signB s (askL s l v) = true) := by
  have h0 := signB_iff.1 h
  obtain ⟨g1, ⟨g2, g2'⟩, g3, g4, g5, g6⟩ := h0
  unfold askK askS askL
  simp only [h, if_true, true_and]
  by_cases hr : askReady s l v = true
  · have hr' := hr
    unfold askReady at hr'
    simp only [Bool.and_eq_true, decide_eq_true_eq, Bool.not_eq_true', beq_iff_eq] at hr'
    obtain ⟨⟨hp, hvv⟩, hlen⟩ := hr'
    simp only [hr, if_true, true_and]
    by_cases h00 : maySignN s.mh s.mr s.ms s.mi v.h v.r v.st v.id v.v = 0
    · refine .inl ⟨h00, by rw [if_pos h00], ?_⟩
      have hv := maySign_ok (.inl h00)
      rw [if_pos h00, if_neg (by omega), signB_iff]
      unfold voteB at hv
      simp only [Bool.and_eq_true] at hv
      obtain ⟨⟨⟨⟨v1, v2⟩, v3⟩, v4⟩, v5⟩ := hv
      have v1' := (inB_iff _ _ _).1 v1
      refine ⟨g1, ⟨fun _ => ?_, fun e => (by cases e)⟩, g3, g4, ?_, g6⟩
      · unfold memZero
        have : (v.h == 0) = false := by simp; omega
        simp [this]
      · unfold guardB
        simp [v1, v2, v3, v4]
    · refine .inr ⟨h00, by rw [if_neg h00], ?_⟩
      by_cases h01 : maySignN s.mh s.mr s.ms s.mi v.h v.r v.st v.id v.v = 1
      · rw [if_pos h01, signB_iff]
        have hv := maySign_ok (.inr h01)
        refine ⟨allTo_one g1 ?_, ⟨g2, g2'⟩, g3, g4, g5, by simp; omega⟩
        unfold okVote
        rw [hv]
        simp [hvv]
      · rw [if_neg h01]; exact h
  · have hr2 : askReady s l v = false := by simpa using hr
    refine .inr ⟨by rw [if_neg (by simp [hr2])]; decide, by rw [if_neg (by simp [hr2])], ?_⟩
    rw [if_neg (by simp [hr2])]
    exact h
theorem sync_ok {s : SignS} {l : List VoteD} (h : signB s l = true) : signB (syncS s l) (syncL s l) = true ∧ syncK s l = s.pend := by
  have h0 := signB_iff.1 h
  obtain ⟨g1, ⟨g2, g2'⟩, g3, g4, g5, g6⟩ := h0
  unfold syncS syncL syncK
  simp only [h, if_true, Bool.true_and, and_true]
  cases hp : s.pend
  · simp [h]
  · have hz := g2 hp
    have hvote : okVote s.val 0 ⟨s.mh, s.mr, s.ms, s.mi, s.val⟩ = true := by
      unfold okVote voteB
      unfold guardB at g5
      unfold memZero at hz
      rw [hz, Bool.false_or] at g5
      simp only [Bool.and_eq_true] at g5
      obtain ⟨⟨⟨a1, a2⟩, a3⟩, a4⟩ := g5
      simp [a1, a2, a3, a4, g3]
    have hsame : sameG ⟨s.val, s.mh, s.mr, s.ms, s.mi, s.mh, s.mr, s.ms, s.mi, false⟩ = true := by unfold sameG; simp
    simp only [if_true, true_and]
    by_cases hl : l.length < 60
    · rw [if_pos hl, signB_iff]
      exact ⟨allTo_one g1 hvote, ⟨fun e => (by cases e), fun _ => hsame⟩, g3, g5, g5, by simp; omega⟩
    · rw [if_neg hl, signB_iff]
      exact ⟨g1, ⟨fun e => (by cases e), fun _ => hsame⟩, g3, g5, g5, g6⟩
theorem ask_no {s : SignS} {l : List VoteD} {v : VoteD} (h : signB s l = false) : (askS s l v).val = 0 := by
  unfold askS
  rw [if_neg (by simp [h])]
  rfl
end Go.Proofs.Yteifmlmmfghjjaa
