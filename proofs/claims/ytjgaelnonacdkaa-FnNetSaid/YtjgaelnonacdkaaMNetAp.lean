/- A net of one's own whose nodes and pool lie in stretches of their own; what a region of a law tells of nets. -/
import Derived.WalkKit
import Derived.WalkSpells
import Derived.WalkLawsBesides
import Derived.Lib.Hide
import Derived.Test.YtjgaelnonacdkaaMNetMark
import Derived.Test.YtjgaelnonacdkaaMNetSmall
import Derived.Test.YtjgaelnonacdkaaG26
namespace Go.Proofs.Ytjgaelnonacdkaa
open Go.RowKit

structure NetAp (w : World) (lo hi : Nat) (A : Option Addr) (c : Nat) (P : Option Addr) (d : Nat) (ln : List NodeD) (lp : List NMsgD) : Prop where
  ex : ∃ a b p1 p2, NodesOwn w a b A ln.length c ln ∧ OwnL msgC 5 49 w p1 p2 P lp.length d lp ∧ (p2 ≤ a ∨ b ≤ p1) ∧ lo ≤ a ∧ lo ≤ p1 ∧ b ≤ hi ∧ p2 ≤ hi
  hl : lo ≤ hi
  hh : hi ≤ w.heap.size
theorem NodesOwn.turn {w w' : World} {lo hi n c : Nat} {A : Option Addr} {ln : List NodeD} (h : NodesOwn w lo hi A n c ln) (hE : BoxTurn 27 w w') : NodesOwn w' lo hi A n c ln := by
  obtain ⟨lv, a, b, d, e⟩ := h
  refine ⟨lv, OwnL.turn hE (by decide) a, b, fun i v hv => ?_, e⟩
  obtain ⟨x, p, q, r⟩ := d i v hv
  exact ⟨x, p, q, OwnL.turn hE (by decide) r⟩
section
variable {w w' : World} {lo hi a b c d : Nat} {A P : Option Addr} {ln : List NodeD} {lp : List NMsgD}
theorem NetAp.chg (h : NetAp w lo hi A c P d ln lp) (hc : Chg a b w w') (hab : hi ≤ a ∨ b ≤ lo) : NetAp w' lo hi A c P d ln lp := by
  obtain ⟨⟨x, y, p1, p2, h1, h2, h3, h4, h5, h6, h7⟩, hl, hh⟩ := h
  exact ⟨⟨x, y, p1, p2, h1.chg hc (by omega), h2.chg hc (by omega), h3, h4, h5, h6, h7⟩, hl, Nat.le_trans hh hc.size⟩
theorem NetAp.below (h : NetAp w lo hi A c P d ln lp) (hb : Below w.heap.size w w') : NetAp w' lo hi A c P d ln lp := h.chg (Chg.of_below (lo := 0) (hi := 0) hb) (.inr (Nat.zero_le _))
theorem NetAp.turn (h : NetAp w lo hi A c P d ln lp) (hE : BoxTurn 27 w w') : NetAp w' lo hi A c P d ln lp := by
  obtain ⟨⟨x, y, p1, p2, h1, h2, h3, h4, h5, h6, h7⟩, hl, hh⟩ := h
  exact ⟨⟨x, y, p1, p2, h1.turn hE, OwnL.turn hE (by decide) h2, h3, h4, h5, h6, h7⟩, hl, Nat.le_trans hh hE.size⟩
theorem NetAp.rdn (h : NetAp w lo hi A c P d ln lp) : NodesRd w w.heap.size A ln.length c ln := by
  obtain ⟨⟨x, y, p1, p2, h1, h2, h3, h4, h5, h6, h7⟩, hl, hh⟩ := h
  exact h1.rd.more (by omega)
theorem NetAp.rdp (h : NetAp w lo hi A c P d ln lp) : RdL msgC 5 w w.heap.size P lp.length d lp := by
  obtain ⟨⟨x, y, p1, p2, h1, h2, h3, h4, h5, h6, h7⟩, hl, hh⟩ := h
  exact (h2.rd msgC_len).more (by omega)
theorem NetAp.of_in {m1 m2 : Nat} (h : NetIn w lo m1 m2 A c P d ln lp) : NetAp w lo w.heap.size A c P d ln lp := by
  have h1 := h.h1
  have h2 := h.h2
  have h3 := h.h3
  refine ⟨?_, by omega, Nat.le_refl _⟩
  rcases h.pool with k | k
  · exact ⟨m1, m2, lo, m1, h.nodes, k, .inl (Nat.le_refl _), by omega, by omega, by omega, by omega⟩
  · exact ⟨m1, m2, m2, w.heap.size, h.nodes, k, .inr (Nat.le_refl _), by omega, by omega, by omega, by omega⟩
end
/-- a net as a value -/
def NetVv (lo0 : Nat) (ln : List NodeD) (lp : List NMsgD) (v : Value) (w : World) : Prop :=
  ∃ A c P d lo hi, v = .agg #[.slice A ln.length c, .slice P lp.length d] ∧ lo0 ≤ lo ∧ NetAp w lo hi A c P d ln lp
/-- a net and a bool -/
def NetG (r : List NodeD × List NMsgD × Bool) (lo0 : Nat) (v : Value) (w : World) : Prop :=
  ∃ A c P d lo hi, v = .tuple #[.agg #[.slice A r.1.length c, .slice P r.2.1.length d], .bool r.2.2] ∧ lo0 ≤ lo ∧ NetAp w lo hi A c P d r.1 r.2.1
section
variable {r : List NodeD × List NMsgD × Bool} {lo0 : Nat} {v v' : Value} {w w' : World} {ln : List NodeD} {lp : List NMsgD}
theorem NetG.below (h : NetG r lo0 v w) (hb : Below w.heap.size w w') : NetG r lo0 v w' := by
  obtain ⟨A, c, P, d, lo, hi, e, h1, h2⟩ := h
  exact ⟨A, c, P, d, lo, hi, e, h1, h2.below hb⟩
theorem NetG.turn (h : NetG r lo0 v w) (hb : BoxTurn 27 w w') : NetG r lo0 v w' := by
  obtain ⟨A, c, P, d, lo, hi, e, h1, h2⟩ := h
  exact ⟨A, c, P, d, lo, hi, e, h1, h2.turn hb⟩
theorem NetG.slot (h : NetG r lo0 v w) (e : v' = v) : NetG r lo0 v' w := e ▸ h
theorem NetVv.below (h : NetVv lo0 ln lp v w) (hb : Below w.heap.size w w') : NetVv lo0 ln lp v w' := by
  obtain ⟨A, c, P, d, lo, hi, e, h1, h2⟩ := h
  exact ⟨A, c, P, d, lo, hi, e, h1, h2.below hb⟩
theorem NetVv.turn (h : NetVv lo0 ln lp v w) (hb : BoxTurn 27 w w') : NetVv lo0 ln lp v w' := by
  obtain ⟨A, c, P, d, lo, hi, e, h1, h2⟩ := h
  exact ⟨A, c, P, d, lo, hi, e, h1, h2.turn hb⟩
theorem NetVv.slot (h : NetVv lo0 ln lp v w) (e : v' = v) : NetVv lo0 ln lp v' w := e ▸ h
theorem NetOut2.ap (h : NetOut2 ln lp w (.returned v) w') : (∃ A c P d, v = .agg #[.slice A ln.length c, .slice P lp.length d] ∧ NetAp w' w.heap.size w'.heap.size A c P d ln lp) ∧ Below w.heap.size w w' := by
  obtain ⟨A, c, P, d, mid, e, h1, h2, h3, h4, h5⟩ := h
  simp only [Ending.returned.injEq] at e
  subst e
  exact ⟨⟨A, c, P, d, rfl, ⟨_, _, _, _, h3, h4, .inr (Nat.le_refl _), Nat.le_refl _, h1, h2, Nat.le_refl _⟩, h5.size, Nat.le_refl _⟩, h5⟩
theorem NetDid.ap (h : NetDid r w (.returned v) w') : NetG r w.heap.size v w' ∧ Below w.heap.size w w' := by
  obtain ⟨A, c, P, d, m1, m2, e, h1, h2⟩ := h
  simp only [Ending.returned.injEq] at e
  subst e
  exact ⟨⟨A, c, P, d, _, _, rfl, Nat.le_refl _, NetAp.of_in h1⟩, h2⟩
theorem NetSDid.f (h : NetSDid r w (.returned v) w') : NetF r w.heap.size v w' ∧ Below w.heap.size w w' := by
  obtain ⟨A, c, P, d, lo, hi, e, h1, h2, h3⟩ := h
  simp only [Ending.returned.injEq] at e
  subst e
  exact ⟨⟨A, c, P, d, lo, hi, rfl, h1, h2⟩, h3⟩
end
end Go.Proofs.Ytjgaelnonacdkaa
