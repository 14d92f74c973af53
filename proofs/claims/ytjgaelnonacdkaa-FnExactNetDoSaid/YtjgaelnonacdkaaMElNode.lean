/- Nets that came in: their nodes, each with its messages, and their pool. -/
import Derived.Test.YtjgaelnonacdkaaMNetFam
import Derived.Test.YtjgaelnonacdkaaElNMsg
namespace Go.Proofs.Ytjgaelnonacdkaa
open Go.ChangeShapes Go.WideShapes Go.ChangeAt Go.RowKit Go.Joins

set_option maxRecDepth 100000 in
theorem node_el {H : Type} {enc : TypeId × Value → H} {w : World} {n : Nat} {cs : List Value} {y : DataW H × List MemPlace} (h : DataW.trod enc Try.prog w 0 (fun _ => true) true n 103 cs = some y) :
    ∃ x : NodeV, cs = nodeC x ∧ ∃ l, RdL msgC 5 w w.heap.size x.A x.n x.c l := by
  obtain ⟨hlen, m, hf⟩ := trod_fields Try.underlying103 h
  obtain ⟨y0, g0⟩ := hf 0 _ rfl
  obtain ⟨y1, g1⟩ := hf 1 _ rfl
  obtain ⟨y2, g2⟩ := hf 2 _ rfl
  obtain ⟨y3, g3⟩ := hf 3 _ rfl
  obtain ⟨y4, g4⟩ := hf 4 _ rfl
  obtain ⟨y5, g5⟩ := hf 5 _ rfl
  obtain ⟨y6, g6⟩ := hf 6 _ rfl
  obtain ⟨y7, g7⟩ := hf 7 _ rfl
  obtain ⟨y8, g8⟩ := hf 8 _ rfl
  obtain ⟨y9, g9⟩ := hf 9 _ rfl
  obtain ⟨c0, c1, c2, c3, c4, c5, c6, c7, c8, c9, rfl⟩ := list10 (hlen.trans (by kernel_rfl : Try.prog.cellsOf 103 = 10))
  obtain ⟨a0, rfl, _, _⟩ := field_int Try.underlying3 g0
  obtain ⟨a1, rfl, _, _⟩ := field_int Try.underlying3 g1
  obtain ⟨a2, rfl, _, _⟩ := field_int Try.underlying3 g2
  obtain ⟨a3, rfl, _, _⟩ := field_int Try.underlying3 g3
  obtain ⟨a4, rfl, _, _⟩ := field_int Try.underlying3 g4
  obtain ⟨a5, rfl, _, _⟩ := field_int Try.underlying3 g5
  obtain ⟨a6, rfl, _, _⟩ := field_int Try.underlying3 g6
  obtain ⟨a7, rfl, _, _⟩ := field_int Try.underlying3 g7
  obtain ⟨a8, rfl, _, _⟩ := field_int Try.underlying3 g8
  obtain ⟨A, n', c, rfl, l, hl⟩ := open_list Try.underlying38 (by kernel_rfl) (by decide) msgC_len (fun cs y n h => msg_el h) g9
  exact ⟨⟨⟨a0, a1, a2, a3, a4, a5, a6, a7, a8⟩, A, n', c⟩, rfl, l, hl⟩

/-- a row of nodes, out of a row of their values -/
theorem nodes_of {w : World} {B : Nat} {A : Option Addr} {n c : Nat} {lv : List NodeV} (h : RdL nodeC 10 w B A n c lv) (hm : ∀ x ∈ lv, ∃ l, RdL msgC 5 w B x.A x.n x.c l) : ∃ ln, NodesRd w B A n c ln := by
  have pick : ∀ (lv : List NodeV), (∀ x ∈ lv, ∃ l, RdL msgC 5 w B x.A x.n x.c l) → ∃ ln : List NodeD, ln.length = lv.length ∧ ∀ (i : Nat) (v : NodeV), lv[i]? = some v → ∃ x : NodeD, ln[i]? = some x ∧ v.s = x.s ∧ RdL msgC 5 w B v.A v.n v.c x.l := by
    intro lv
    induction lv with
    | nil => exact fun _ => ⟨[], rfl, fun i v hv => by simp at hv⟩
    | cons y lv ih =>
      intro hm
      obtain ⟨l, hl⟩ := hm y (by simp)
      obtain ⟨ln, h1, h2⟩ := ih (fun x hx => hm x (by simp [hx]))
      refine ⟨⟨y.s, l⟩ :: ln, by simp [h1], fun i v hv => ?_⟩
      cases i with
      | zero =>
        simp only [List.getElem?_cons_zero, Option.some.injEq] at hv
        subst hv
        exact ⟨⟨y.s, l⟩, rfl, rfl, hl⟩
      | succ i => exact h2 i v (by simpa using hv)
  obtain ⟨ln, h1, h2⟩ := pick lv hm
  exact ⟨ln, lv, h, h1.trans h.1, h2⟩

set_option maxRecDepth 100000 in
theorem open_net {H : Type} {enc : TypeId × Value → H} {w : World} {r : Reach} {b0 : Nat} {v : Value} {d : DataW H} {p : List MemPlace} (hv : Value.okWide Try.prog w r b0 40 v) (h : DataW.Trod enc Try.prog w 0 (fun _ => true) true 40 v d p) :
    ∃ A c P q ln lp, v = .agg #[.slice A ln.length c, .slice P lp.length q] ∧ NodesRd w w.heap.size A ln.length c ln ∧ RdL msgC 5 w w.heap.size P lp.length q lp := by
  obtain ⟨cs, rfl, hlen, m, hf⟩ := agg_fields Try.underlying40 hv h
  obtain ⟨y0, g0⟩ := hf 0 _ rfl
  obtain ⟨y1, g1⟩ := hf 1 _ rfl
  obtain ⟨c0, c1, rfl⟩ := list2 (hlen.trans (by kernel_rfl : Try.prog.cellsOf 40 = 2))
  obtain ⟨A, n, c, rfl, lv, hl, hs⟩ := open_listP (Pr := fun x : NodeV => ∃ l, RdL msgC 5 w w.heap.size x.A x.n x.c l) Try.underlying37 (by kernel_rfl) (by decide) nodeC_len (fun cs y n h => node_el h) g0
  obtain ⟨ln, hln⟩ := nodes_of hl hs
  obtain rfl : ln.length = n := by obtain ⟨_, _, h, _⟩ := hln; exact h
  obtain ⟨P, n', q, rfl, lp, hlp⟩ := open_list Try.underlying38 (by kernel_rfl) (by decide) msgC_len (fun cs y n h => msg_el h) g1
  obtain rfl : lp.length = n' := hlp.1
  exact ⟨A, c, P, q, ln, lp, rfl, hln, hlp⟩
end Go.Proofs.Ytjgaelnonacdkaa
