/- Elements of type NMsg that came in (written by wip/fam.py). -/
import Derived.Test.YtjgaelnonacdkaaFamNMsg
import Derived.Test.YtjgaelnonacdkaaL
namespace Go.Proofs.Ytjgaelnonacdkaa
open Go.ChangeShapes Go.WideShapes Go.ChangeAt Go.RowKit Go.Joins

set_option maxRecDepth 100000 in
theorem msg_el {H : Type} {enc : TypeId × Value → H} {w : World} {n : Nat} {cs : List Value} {y : DataW H × List MemPlace} (h : DataW.trod enc Try.prog w 0 (fun _ => true) true n 42 cs = some y) : ∃ x, cs = msgC x := by
  obtain ⟨hlen, m, hf⟩ := trod_fields Try.underlying42 h
  obtain ⟨y0, h0⟩ := hf 0 _ rfl
  obtain ⟨y1, h1⟩ := hf 1 _ rfl
  obtain ⟨y2, h2⟩ := hf 2 _ rfl
  obtain ⟨y3, h3⟩ := hf 3 _ rfl
  obtain ⟨y4, h4⟩ := hf 4 _ rfl
  match cs, hlen.trans (by kernel_rfl : Try.prog.cellsOf 42 = 5) with
  | [c0, c1, c2, c3, c4], _ =>
    obtain ⟨a0, rfl, _, _⟩ := field_int Try.underlying3 h0
    obtain ⟨a1, rfl, _, _⟩ := field_int Try.underlying3 h1
    obtain ⟨a2, rfl, _, _⟩ := field_int Try.underlying3 h2
    obtain ⟨a3, rfl, _, _⟩ := field_int Try.underlying3 h3
    obtain ⟨a4, rfl, _, _⟩ := field_int Try.underlying3 h4
    exact ⟨⟨a0, a1, a2, a3, a4⟩, rfl⟩
end Go.Proofs.Ytjgaelnonacdkaa
