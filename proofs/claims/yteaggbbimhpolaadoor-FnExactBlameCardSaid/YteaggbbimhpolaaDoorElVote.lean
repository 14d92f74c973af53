/- Elements of type Vote that came in (written by wip/fam.py). -/
import Derived.Test.YteaggbbimhpolaaDoorFamVote
import Derived.Test.YteaggbbimhpolaaDoorL
namespace Go.Proofs.YteaggbbimhpolaaDoor
open Go.ChangeShapes Go.WideShapes Go.ChangeAt Go.RowKit Go.Joins

set_option maxRecDepth 100000 in
theorem vote_el {H : Type} {enc : TypeId × Value → H} {w : World} {n : Nat} {cs : List Value} {y : DataW H × List MemPlace} (h : DataW.trod enc Tryd.prog w 0 (fun _ => true) true n 23 cs = some y) : ∃ x, cs = voteC x ∧ x.id.size ≤ maxLen := by
  obtain ⟨hlen, m, hf⟩ := trod_fields Tryd.underlying23 h
  obtain ⟨y0, h0⟩ := hf 0 _ rfl
  obtain ⟨y1, h1⟩ := hf 1 _ rfl
  obtain ⟨y2, h2⟩ := hf 2 _ rfl
  obtain ⟨y3, h3⟩ := hf 3 _ rfl
  obtain ⟨y4, h4⟩ := hf 4 _ rfl
  match cs, hlen.trans (by kernel_rfl : Tryd.prog.cellsOf 23 = 5) with
  | [c0, c1, c2, c3, c4], _ =>
    obtain ⟨a0, rfl, _, _⟩ := field_int Tryd.underlying3 h0
    obtain ⟨a1, rfl, _, _⟩ := field_int Tryd.underlying3 h1
    obtain ⟨a2, rfl, _, _⟩ := field_int Tryd.underlying3 h2
    obtain ⟨a3, rfl, hs3⟩ := field_string Tryd.underlying9 h3
    obtain ⟨a4, rfl, _, _⟩ := field_int Tryd.underlying3 h4
    exact ⟨⟨a0, a1, a2, a3, a4⟩, rfl, hs3⟩
end Go.Proofs.YteaggbbimhpolaaDoor
