/- Evidence that came in. -/
import Derived.Test.YteaggbbimhpolaaDoorEv
import Derived.Test.YteaggbbimhpolaaDoorElVote
namespace Go.Proofs.YteaggbbimhpolaaDoor
open Go.ChangeShapes Go.WideShapes Go.ChangeAt Go.RowKit Go.Joins

theorem cellsVote : Tryd.prog.cellsOf 23 = 5 := by kernel_rfl
theorem cellsSVote : Tryd.prog.cellsOf 25 = 6 := by kernel_rfl
def svC (p : VoteD) (sg : ByteArray) : List Value := [.int .i64 p.h, .int .i64 p.r, .int .i64 p.st, .string p.id, .int .i64 p.v, .string sg]
set_option maxRecDepth 100000 in
theorem svote_el {H : Type} {enc : TypeId × Value → H} {w : World} {n : Nat} {cs : List Value} {y : DataW H × List MemPlace} (h : DataW.trod enc Tryd.prog w 0 (fun _ => true) true n 25 cs = some y) : ∃ p sg, cs = svC p sg ∧ p.id.size ≤ maxLen ∧ sg.size ≤ maxLen := by
  obtain ⟨hlen, m, hf⟩ := trod_fields Tryd.underlying25 h
  obtain ⟨y0, h0⟩ := hf 0 _ rfl
  obtain ⟨y1, h1⟩ := hf 1 _ rfl
  match cs, hlen.trans cellsSVote with
  | [c0, c1, c2, c3, c4, c5], _ =>
    obtain ⟨x, hx, hs⟩ := vote_el h0
    obtain ⟨sg, hsg, hs2⟩ := field_string Tryd.underlying9 h1
    have e0 : List.take (Tryd.prog.cellsOf 23) (List.drop 0 [c0, c1, c2, c3, c4, c5]) = [c0, c1, c2, c3, c4] := by rw [cellsVote]; rfl
    have hx' : [c0, c1, c2, c3, c4] = voteC x := e0.symm.trans hx
    simp only [voteC, List.cons.injEq, and_true] at hx'
    obtain ⟨rfl, rfl, rfl, rfl, rfl⟩ := hx'
    subst hsg
    exact ⟨x, sg, rfl, hs, hs2⟩
set_option maxRecDepth 100000 in
theorem evid_el {H : Type} {enc : TypeId × Value → H} {w : World} {n : Nat} {cs : List Value} {y : DataW H × List MemPlace} (h : DataW.trod enc Tryd.prog w 0 (fun _ => true) true n 27 cs = some y) :
    ∃ e : EvD, cs = svC e.a e.sa ++ svC e.b e.sb ∧ e.a.id.size ≤ maxLen ∧ e.sa.size ≤ maxLen ∧ e.b.id.size ≤ maxLen ∧ e.sb.size ≤ maxLen := by
  obtain ⟨hlen, m, hf⟩ := trod_fields Tryd.underlying27 h
  obtain ⟨y0, h0⟩ := hf 0 _ rfl
  obtain ⟨y1, h1⟩ := hf 1 _ rfl
  obtain ⟨p, sa, hp, q1, q2⟩ := svote_el h0
  obtain ⟨r, sb, hr, q3, q4⟩ := svote_el h1
  have e0 : List.take 6 cs = svC p sa := by
    have h6 := cellsSVote
    have : List.take (Tryd.prog.cellsOf 25) cs = svC p sa := hp
    rw [h6] at this; exact this
  have e1 : List.take 6 (List.drop 6 cs) = svC r sb := by
    have h6 := cellsSVote
    have : List.take (Tryd.prog.cellsOf 25) (List.drop 6 cs) = svC r sb := hr
    rw [h6] at this; exact this
  refine ⟨⟨p, sa, r, sb⟩, ?_, q1, q2, q3, q4⟩
  have hl : cs.length = 12 := hlen.trans (by kernel_rfl)
  rw [← e0, ← e1, List.take_of_length_le (l := List.drop 6 cs) (by rw [List.length_drop]; omega), List.take_append_drop]
end Go.Proofs.YteaggbbimhpolaaDoor
