/- Regions that draw their order and hold a call on a node: what stays of what was told. -/
import Derived.Test.YtmpppmeloieamaaReg
import Derived.Test.YtmpppmeloieamaaNodeLaw2
import Derived.WalkKit
import Derived.WalkSpells
import Derived.WalkLawsBesides
import Derived.Lib.Hide
namespace Go.Proofs.Ytmpppmeloieamaa
open Go.RowKit

theorem getk' {b : Act} {dd : Option Nat} {v : Value} {s : Nat} {X : Value} (h : b.tmps.getD s undef = X) (hd : dd ≠ some s) : (b.put dd v).tmps.getD s undef = X := by
  cases dd with
  | none => exact h
  | some d => exact (put_getD_ne b d s v (fun e => hd (by rw [e]))).trans h
theorem Rows.turn' {P : Nat → Prop} {w w' : World} {A B : Option Addr} {c d : Nat} {x : RunS} (h : Rows w P A c B d x) (hE : BoxTurn 28 w w') : Rows w' P A c B d x :=
  ⟨hE.row (by decide) h.la, hE.row (by decide) h.ob, h.sep, h.pa, h.pb, fun q hp => Nat.lt_of_lt_of_le (h.lt q hp) hE.size⟩
theorem Rows.chg {P : Nat → Prop} {w w' : World} {A B : Option Addr} {c d lo hi : Nat} {x : RunS} (h : Rows w P A c B d x) (hc : Chg lo hi w w') (hp : ∀ q, lo ≤ q → q < hi → P q) : Rows w' P A c B d x := by
  have key : ∀ (C : Option Addr) (n e : Nat) (l : List NMsgD), (∀ q a, P q → C = some a → a.block ≠ q) → OwnL msgC 5 40 w 0 w.heap.size C n e l → OwnL msgC 5 40 w' 0 w'.heap.size C n e l := by
    intro C n e l hC ho
    refine OwnL.wide (ho.keep fun g _ hlt eg => hc.block g hlt ?_) (Nat.le_refl _) hc.size
    cases C with
    | none => cases eg
    | some a =>
      simp only [Value.ownBlock, Option.some.injEq] at eg
      by_cases h1 : lo ≤ g
      · by_cases h2 : g < hi
        · exact absurd eg (hC g a (hp g h1 h2) rfl)
        · exact .inr (by omega)
      · exact .inl (by omega)
  exact ⟨key _ _ _ _ h.pa h.la, key _ _ _ _ h.pb h.ob, h.sep, h.pa, h.pb, fun q hq => Nat.lt_of_lt_of_le (h.lt q hq) hc.size⟩
/-- the rows of a call lie behind what was kept -/
theorem Rows.msgs {w : World} {B0 : Nat} {A B : Option Addr} {c d : Nat} {x : RunS} (h : Rows w (fun q => q < B0) A c B d x) (hB : B0 ≤ w.heap.size) : OwnL msgC 5 40 w B0 w.heap.size A x.l.length c x.l := by
  obtain ⟨a1, b1, a2, b2, o1, _, p1, _, p3, _⟩ := h.split hB
  exact o1.wide p1 p3
theorem Rows.sent {w : World} {B0 : Nat} {A B : Option Addr} {c d : Nat} {x : RunS} (h : Rows w (fun q => q < B0) A c B d x) (hB : B0 ≤ w.heap.size) : OwnL msgC 5 40 w B0 w.heap.size B x.o.length d x.o := by
  obtain ⟨a1, b1, a2, b2, _, o2, _, _, _, p4, _, p6, _⟩ := h.split hB
  exact o2.wide p4 p6
end Go.Proofs.Ytmpppmeloieamaa
