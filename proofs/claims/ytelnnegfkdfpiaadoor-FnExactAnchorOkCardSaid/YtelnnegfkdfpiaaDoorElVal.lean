/- Elements of type Val that came in (written by wip/fam.py). -/
import Derived.Test.YtelnnegfkdfpiaaDoorFamVal
import Derived.Test.YtelnnegfkdfpiaaDoorL
namespace Go.Proofs.YtelnnegfkdfpiaaDoor
open Go.ChangeShapes Go.WideShapes Go.ChangeAt Go.RowKit Go.Joins

set_option maxRecDepth 100000 in
theorem val_el {H : Type} {enc : TypeId × Value → H} {w : World} {n : Nat} {cs : List Value} {y : DataW H × List MemPlace} (h : DataW.trod enc Tryd.prog w 0 (fun _ => true) true n 50 cs = some y) : ∃ x, cs = valC x := by
  obtain ⟨hlen, m, hf⟩ := trod_fields Tryd.underlying50 h
  obtain ⟨y0, h0⟩ := hf 0 _ rfl
  obtain ⟨y1, h1⟩ := hf 1 _ rfl
  match cs, hlen.trans (by kernel_rfl : Tryd.prog.cellsOf 50 = 2) with
  | [c0, c1], _ =>
    obtain ⟨a0, rfl, _, _⟩ := field_int Tryd.underlying3 h0
    obtain ⟨a1, rfl, _, _⟩ := field_int Tryd.underlying3 h1
    exact ⟨⟨a0, a1⟩, rfl⟩
end Go.Proofs.YtelnnegfkdfpiaaDoor
