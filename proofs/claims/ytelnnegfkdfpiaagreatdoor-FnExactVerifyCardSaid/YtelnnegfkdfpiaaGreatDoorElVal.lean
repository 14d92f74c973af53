/- Elements of type Val that came in (written by wip/fam.py). -/
import Derived.Test.YtelnnegfkdfpiaaGreatDoorFamVal
import Derived.Test.YtelnnegfkdfpiaaGreatDoorL
namespace Go.Proofs.YtelnnegfkdfpiaaGreatDoor
open Go.ChangeShapes Go.WideShapes Go.ChangeAt Go.RowKit Go.Joins

set_option maxRecDepth 100000 in
theorem val_el {H : Type} {enc : TypeId × Value → H} {w : World} {n : Nat} {cs : List Value} {y : DataW H × List MemPlace} (h : DataW.trod enc Tryz.prog w 0 (fun _ => true) true n 98 cs = some y) : ∃ x, cs = valC x := by
  obtain ⟨hlen, m, hf⟩ := trod_fields Tryz.underlying98 h
  obtain ⟨y0, h0⟩ := hf 0 _ rfl
  obtain ⟨y1, h1⟩ := hf 1 _ rfl
  match cs, hlen.trans (by kernel_rfl : Tryz.prog.cellsOf 98 = 2) with
  | [c0, c1], _ =>
    obtain ⟨a0, rfl, _, _⟩ := field_int Tryz.underlying3 h0
    obtain ⟨a1, rfl, _, _⟩ := field_int Tryz.underlying3 h1
    exact ⟨⟨a0, a1⟩, rfl⟩
end Go.Proofs.YtelnnegfkdfpiaaGreatDoor
