/- A drawn node's box, beside the cursor and the result's box; its messages in a row of its own behind it. -/
import Derived.WalkKit
import Derived.WalkSpells
import Derived.WalkLawsBesides
import Derived.Lib.Hide
import Derived.Test.YtjgaelnonacdkaaG05
import Derived.Test.YtjgaelnonacdkaaG14
namespace Go.Proofs.Ytjgaelnonacdkaa
open Go.RowKit

def SizeOut (m : Int) (w : World) (e : Ending) (w' : World) : Prop := ∃ x : Int, e = .returned (.int .i64 x) ∧ 0 ≤ x ∧ x ≤ m ∧ w = w'
set_option maxHeartbeats 1000000 in
theorem l1Size_any (A : Option Addr) (n c : Nat) (m : Int) (w : World) (hn : n ≤ 1048576) (h0 : 0 ≤ m) :
    Calls Try.prog 52 #[.slice A n c, .int .i64 m] w (SizeOut m w) := by
  by_cases h : m < 2 + (n : Int) / 20
  · go_enter Try.func52, Try.ntmps52
    go_wp2
    go_ret
    exact ⟨m, rfl, h0, Int.le_refl _, rfl⟩
  · go_enter Try.func52, Try.ntmps52
    go_wp2
    go_ret
    exact ⟨2 + (n : Int) / 20, rfl, by omega, by omega, rfl⟩

def nodeA (s : NodeS) (B : Option Addr) (m d : Nat) : Array Value := #[.int .i64 s.me, .int .i64 s.round, .int .i64 s.step, .int .i64 s.lv, .int .i64 s.lr, .int .i64 s.vv, .int .i64 s.vr, .int .i64 s.polka, .int .i64 s.dec, .slice B m d]
def zeroA : Array Value := #[.int .i64 0, .int .i64 0, .int .i64 0, .int .i64 0, .int .i64 0, .int .i64 0, .int .i64 0, .int .i64 0, .int .i64 0, .slice none 0 0]
structure NodeIn (w0 : World) (cb : Nat) (A : Option Addr) (n c R T : Nat) (wx : World) (s : NodeS) (l : List NMsgD) (B : Option Addr) (d : Nat) : Prop where
  box : Blk wx T 79 (nodeA s B l.length d)
  res : Blk wx R 79 zeroA
  cur : Cur wx cb A n c
  chg : Chg cb (cb + 1) w0 wx
  own : OwnL msgC 5 49 wx (T + 1) wx.heap.size B l.length d l
  len : l.length ≤ 3000
section
variable {w0 wx wy : World} {cb n c R T d d' : Nat} {A B B' : Option Addr} {s s' : NodeS} {l l' : List NMsgD}
theorem NodeIn.call (h : NodeIn w0 cb A n c R T wx s l B d) (hg : Chg cb (cb + 1) wx wy) (hu : Cur wy cb A n c) (hR : cb < R) (hT : cb < T) : NodeIn w0 cb A n c R T wy s l B d :=
  ⟨(hg.block T h.box.lt (.inr (by omega))).trans h.box, (hg.block R h.res.lt (.inr (by omega))).trans h.res, hu, h.chg.trans hg, (h.own.chg hg (.inr (by omega))).wide (Nat.le_refl _) hg.size, h.len⟩
theorem NodeIn.below (h : NodeIn w0 cb A n c R T wx s l B d) (hb : Below wx.heap.size wx wy) : NodeIn w0 cb A n c R T wy s l B d :=
  ⟨h.box.below hb h.box.lt, h.res.below hb h.res.lt, h.cur.below hb h.cur.lt (Nat.le_refl _), h.chg.below_trans hb, (h.own.below hb (Nat.le_refl _)).wide (Nat.le_refl _) hb.size, h.len⟩
theorem NodeIn.alloc (h : NodeIn w0 cb A n c R T wx s l B d) (o : Obj) : NodeIn w0 cb A n c R T (wx.alloc o) s l B d := h.below ((Below.refl _ _).alloc (Nat.le_refl _) o)
/-- the box's cells turned, to those of another node whose messages lie behind it -/
theorem NodeIn.put (h : NodeIn w0 cb A n c R T wx s l B d) (hRT : T ≠ R) (hcT : cb < T) (h0 : w0.heap.size ≤ T) (hch : Chg T (T + 1) wx wy) (hb : Blk wy T 79 (nodeA s' B' l'.length d')) (ho : OwnL msgC 5 49 wx (T + 1) wx.heap.size B' l'.length d' l') (hl : l'.length ≤ 3000) : NodeIn w0 cb A n c R T wy s' l' B' d' :=
  ⟨hb, (hch.block R h.res.lt (by omega)).trans h.res, h.cur.chg hch hcT, h.chg.trans_top' h0 hch, (ho.chg hch (.inr (Nat.le_refl _))).wide (Nat.le_refl _) hch.size, hl⟩
theorem NodeIn.set (h : NodeIn w0 cb A n c R T wx s l B d) (hRT : T ≠ R) (hcT : cb < T) (h0 : w0.heap.size ≤ T) (j : Nat) (hj : j < 9) (x : Int) : ∃ s', NodeIn w0 cb A n c R T (wx.setCell ⟨T, j, none⟩ (.int .i64 x)) s' l B d := by
  have hch : Chg T (T + 1) wx (wx.setCell ⟨T, j, none⟩ (.int .i64 x)) := (Chg.refl _ _ _).setCell (by simp) (by simp) _
  have hb := h.box.set_ j (.int .i64 x)
  have key : ∀ s', (nodeA s B l.length d).setIfInBounds j (.int .i64 x) = nodeA s' B l.length d → ∃ s', NodeIn w0 cb A n c R T (wx.setCell ⟨T, j, none⟩ (.int .i64 x)) s' l B d := fun s' e => by
    rw [e] at hb
    exact ⟨s', h.put hRT hcT h0 hch hb h.own h.len⟩
  obtain ⟨a0, a1, a2, a3, a4, a5, a6, a7, a8⟩ := s
  rcases (by omega : j = 0 ∨ j = 1 ∨ j = 2 ∨ j = 3 ∨ j = 4 ∨ j = 5 ∨ j = 6 ∨ j = 7 ∨ j = 8) with rfl | rfl | rfl | rfl | rfl | rfl | rfl | rfl | rfl
  · exact key ⟨x, a1, a2, a3, a4, a5, a6, a7, a8⟩ (by simp [nodeA])
  · exact key ⟨a0, x, a2, a3, a4, a5, a6, a7, a8⟩ (by simp [nodeA])
  · exact key ⟨a0, a1, x, a3, a4, a5, a6, a7, a8⟩ (by simp [nodeA])
  · exact key ⟨a0, a1, a2, x, a4, a5, a6, a7, a8⟩ (by simp [nodeA])
  · exact key ⟨a0, a1, a2, a3, x, a5, a6, a7, a8⟩ (by simp [nodeA])
  · exact key ⟨a0, a1, a2, a3, a4, x, a6, a7, a8⟩ (by simp [nodeA])
  · exact key ⟨a0, a1, a2, a3, a4, a5, x, a7, a8⟩ (by simp [nodeA])
  · exact key ⟨a0, a1, a2, a3, a4, a5, a6, x, a8⟩ (by simp [nodeA])
  · exact key ⟨a0, a1, a2, a3, a4, a5, a6, a7, x⟩ (by simp [nodeA])
/-- all ten cells turned -/
theorem NodeIn.fill (h : NodeIn w0 cb A n c R T wx s l B d) (hRT : T ≠ R) (hcT : cb < T) (h0 : w0.heap.size ≤ T) (s' : NodeS) (ho : OwnL msgC 5 49 wx (T + 1) wx.heap.size B' l'.length d' l') (hl : l'.length ≤ 3000) :
    NodeIn w0 cb A n c R T ((((((((((wx.setCell ⟨T, 0, none⟩ (.int .i64 s'.me)).setCell ⟨T, 1, none⟩ (.int .i64 s'.round)).setCell ⟨T, 2, none⟩ (.int .i64 s'.step)).setCell ⟨T, 3, none⟩ (.int .i64 s'.lv)).setCell ⟨T, 4, none⟩ (.int .i64 s'.lr)).setCell ⟨T, 5, none⟩ (.int .i64 s'.vv)).setCell ⟨T, 6, none⟩ (.int .i64 s'.vr)).setCell ⟨T, 7, none⟩ (.int .i64 s'.polka)).setCell ⟨T, 8, none⟩ (.int .i64 s'.dec)).setCell ⟨T, 9, none⟩ (.slice B' l'.length d')) s' l' B' d' := by
  refine h.put hRT hcT h0 (by (repeat (first | with_reducible refine Chg.setCell ?_ (by first | exact Nat.le_refl _ | (simp; done) | (simp; omega)) (by first | (simp; done) | (simp; omega)) _ | with_reducible refine Chg.alloc ?_ _ | with_reducible refine Chg.drew ?_)); (with_reducible exact Chg.refl _ _ _)) ?_ ho hl
  have hb := (((((((((h.box.set_ 0 (.int .i64 s'.me)).set_ 1 (.int .i64 s'.round)).set_ 2 (.int .i64 s'.step)).set_ 3 (.int .i64 s'.lv)).set_ 4 (.int .i64 s'.lr)).set_ 5 (.int .i64 s'.vv)).set_ 6 (.int .i64 s'.vr)).set_ 7 (.int .i64 s'.polka)).set_ 8 (.int .i64 s'.dec)).set_ 9 (.slice B' l'.length d')
  simp only [nodeA, List.setIfInBounds_toArray, List.set_cons_zero, List.set_cons_succ] at hb
  exact hb
end
end Go.Proofs.Ytjgaelnonacdkaa
