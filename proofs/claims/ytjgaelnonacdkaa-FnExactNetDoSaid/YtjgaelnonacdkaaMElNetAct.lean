/- Acts that came in (written by wip/mkna.py). -/
import Derived.Test.YtjgaelnonacdkaaG48
import Derived.Test.YtjgaelnonacdkaaElNMsg
namespace Go.Proofs.Ytjgaelnonacdkaa
open Go.ChangeShapes Go.WideShapes Go.ChangeAt Go.RowKit Go.Joins

theorem cellsNMsgA : Try.prog.cellsOf 42 = 5 := by kernel_rfl
theorem cellsNetAct : Try.prog.cellsOf 44 = 8 := by kernel_rfl
set_option maxRecDepth 100000 in
theorem na_el {H : Type} {enc : TypeId × Value → H} {w : World} {n : Nat} {cs : List Value} {y : DataW H × List MemPlace} (h : DataW.trod enc Try.prog w 0 (fun _ => true) true n 44 cs = some y) : ∃ x, cs = naC x := by
  obtain ⟨hlen, m, hf⟩ := trod_fields Try.underlying44 h
  obtain ⟨y0, h0⟩ := hf 0 _ rfl
  obtain ⟨y1, h1⟩ := hf 1 _ rfl
  obtain ⟨y2, h2⟩ := hf 2 _ rfl
  obtain ⟨y3, h3⟩ := hf 3 _ rfl
  match cs, hlen.trans cellsNetAct with
  | [c0, c1, c2, c3, c4, c5, c6, c7], _ =>
    obtain ⟨a0, rfl, _, _⟩ := field_int Try.underlying3 h0
    obtain ⟨a1, rfl, _, _⟩ := field_int Try.underlying3 h1
    obtain ⟨a2, rfl, _, _⟩ := field_int Try.underlying3 h2
    obtain ⟨x, hx⟩ := msg_el h3
    have e0 : List.take (Try.prog.cellsOf 42) (List.drop 3 [Value.int .i64 a0, Value.int .i64 a1, Value.int .i64 a2, c3, c4, c5, c6, c7]) = [c3, c4, c5, c6, c7] := by rw [cellsNMsgA]; rfl
    have hx' : [c3, c4, c5, c6, c7] = msgC x := e0.symm.trans hx
    simp only [msgC, List.cons.injEq, and_true] at hx'
    obtain ⟨rfl, rfl, rfl, rfl, rfl⟩ := hx'
    exact ⟨⟨a0, a1, a2, x⟩, rfl⟩
end Go.Proofs.Ytjgaelnonacdkaa
