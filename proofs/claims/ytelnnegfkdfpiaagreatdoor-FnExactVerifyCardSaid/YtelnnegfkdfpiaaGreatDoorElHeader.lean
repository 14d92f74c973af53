/- Elements of type Header that came in (written by wip/fam.py). -/
import Derived.Test.YtelnnegfkdfpiaaGreatDoorFamHeader
import Derived.Test.YtelnnegfkdfpiaaGreatDoorL
namespace Go.Proofs.YtelnnegfkdfpiaaGreatDoor
open Go.ChangeShapes Go.WideShapes Go.ChangeAt Go.RowKit Go.Joins

set_option maxRecDepth 100000 in
theorem head_el {H : Type} {enc : TypeId × Value → H} {w : World} {n : Nat} {cs : List Value} {y : DataW H × List MemPlace} (h : DataW.trod enc Tryz.prog w 0 (fun _ => true) true n 45 cs = some y) : ∃ x, cs = headC x ∧ x.last.size ≤ maxLen ∧ x.vals.size ≤ maxLen ∧ x.next.size ≤ maxLen ∧ x.data.size ≤ maxLen := by
  obtain ⟨hlen, m, hf⟩ := trod_fields Tryz.underlying45 h
  obtain ⟨y0, h0⟩ := hf 0 _ rfl
  obtain ⟨y1, h1⟩ := hf 1 _ rfl
  obtain ⟨y2, h2⟩ := hf 2 _ rfl
  obtain ⟨y3, h3⟩ := hf 3 _ rfl
  obtain ⟨y4, h4⟩ := hf 4 _ rfl
  obtain ⟨y5, h5⟩ := hf 5 _ rfl
  match cs, hlen.trans (by kernel_rfl : Tryz.prog.cellsOf 45 = 6) with
  | [c0, c1, c2, c3, c4, c5], _ =>
    obtain ⟨a0, rfl, _, _⟩ := field_int Tryz.underlying3 h0
    obtain ⟨a1, rfl, _, _⟩ := field_int Tryz.underlying3 h1
    obtain ⟨a2, rfl, hs2⟩ := field_string Tryz.underlying9 h2
    obtain ⟨a3, rfl, hs3⟩ := field_string Tryz.underlying9 h3
    obtain ⟨a4, rfl, hs4⟩ := field_string Tryz.underlying9 h4
    obtain ⟨a5, rfl, hs5⟩ := field_string Tryz.underlying9 h5
    exact ⟨⟨a0, a1, a2, a3, a4, a5⟩, rfl, hs2, hs3, hs4, hs5⟩
end Go.Proofs.YtelnnegfkdfpiaaGreatDoor
