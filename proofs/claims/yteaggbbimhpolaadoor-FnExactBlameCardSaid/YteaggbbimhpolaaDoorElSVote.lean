/- Votes with signatures that came in. -/
import Derived.Test.YteaggbbimhpolaaDoorFamSVote
import Derived.Test.YteaggbbimhpolaaDoorElEvid
namespace Go.Proofs.YteaggbbimhpolaaDoor
open Go.ChangeShapes Go.WideShapes Go.ChangeAt Go.RowKit Go.Joins

theorem svt_el {H : Type} {enc : TypeId × Value → H} {w : World} {n : Nat} {cs : List Value} {y : DataW H × List MemPlace} (h : DataW.trod enc Tryd.prog w 0 (fun _ => true) true n 25 cs = some y) : ∃ x, cs = svtC x ∧ (x.id.size ≤ maxLen ∧ x.sig.size ≤ maxLen) := by
  obtain ⟨p, sg, hp, h1, h2⟩ := svote_el h
  exact ⟨⟨p.h, p.r, p.st, p.id, p.v, sg⟩, hp, h1, h2⟩
end Go.Proofs.YteaggbbimhpolaaDoor
