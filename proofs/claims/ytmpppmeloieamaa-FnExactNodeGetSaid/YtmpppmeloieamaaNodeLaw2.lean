/- How long the rows of NodeTime are. -/
import Derived.Test.YtmpppmeloieamaaNodeLaw
import Derived.WalkKit
import Derived.WalkSpells
import Derived.WalkLawsBesides
import Derived.Lib.Hide
namespace Go.Proofs.Ytmpppmeloieamaa
open Go.RowKit
theorem timeN_len (s : NodeS) (l : List NMsgD) (k : Int) : (timeN s l k).1.l.length ≤ 2000 ∧ (timeN s l k).1.o.length ≤ 2000 := by
  unfold timeN
  split
  · rename_i h
    have hp := (nodeB_iff s l).1 h
    split
    · have := hp.len
      exact ⟨by show l.length ≤ 2000; omega, by simp⟩
    · rename_i hb
      obtain ⟨h1, h2, h3, h4⟩ := time_ok hp (by simpa using hb)
      have hs := hp.step
      have hr := hp.round
      have main : NodeP (timeR ⟨s, l, []⟩ k).s (timeR ⟨s, l, []⟩ k).l ∧ (timeR ⟨s, l, []⟩ k).o.length ≤ 1 := by
        unfold timeR
        split
        · exact ⟨prevote_ok (x := ⟨s, l, []⟩) (v := 0) hp h2 (by decide), by simp [prevoteR, setStep, sendR]⟩
        · rename_i e1
          split
          · exact ⟨precommit_ok (x := ⟨s, l, []⟩) (v := 0) hp h2 (by decide), by simp [precommitR, setStep, sendR]⟩
          · rename_i e2
            rw [beq_iff_eq] at e1 e2
            refine ⟨start_ok (x := ⟨s, l, []⟩) hp (by show s.round < s.round + 1; omega) (by show s.round + 1 ≤ 11; have := h4 (by omega); omega), ?_⟩
            have := startR_o ⟨s, l, []⟩ (s.round + 1)
            simpa using this
      obtain ⟨a, b⟩ := rest_ok main.1
      have h2' := a.len
      have h3' := main.2
      exact ⟨by show (restR _).l.length ≤ 2000; omega, by show (restR _).o.length ≤ 2000; omega⟩
  · simp
end Go.Proofs.Ytmpppmeloieamaa
