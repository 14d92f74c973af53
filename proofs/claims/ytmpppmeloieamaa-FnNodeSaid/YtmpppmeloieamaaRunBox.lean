/- A run in a box: what stores and loads of whole runs do. -/
import Derived.Test.YtmpppmeloieamaaRunSend
import Derived.Test.YtmpppmeloieamaaStillMore
import Derived.WalkKit
import Derived.WalkSpells
import Derived.WalkLawsBesides
import Derived.Lib.Hide
namespace Go.Proofs.Ytmpppmeloieamaa
open Go.RowKit

structure RunAt (w : World) (P : Nat → Prop) (g : Nat) (A : Option Addr) (c : Nat) (B : Option Addr) (d : Nat) (x : RunS) : Prop where
  blk : Blk w g 58 (actC x A c B d)
  np : ¬ P g
  rows : Rows w (fun q => P q ∨ q = g) A c B d x
section
variable {P Q : Nat → Prop} {w w' : World} {g : Nat} {A B : Option Addr} {c d : Nat} {x : RunS}
theorem RunAt.cells (h : RunAt w P g A c B d x) : ∀ i, w.cell? ⟨g, i, none⟩ = #[.int .i64 x.s.me, .int .i64 x.s.round, .int .i64 x.s.step, .int .i64 x.s.lv, .int .i64 x.s.lr, .int .i64 x.s.vv, .int .i64 x.s.vr, .int .i64 x.s.polka, .int .i64 x.s.dec, .slice A x.l.length c, .slice B x.o.length d][i]? := h.blk.cell
theorem RunAt.free (h : RunAt w P g A c B d x) : ∀ i, w.frozen? ⟨g, i, none⟩ = false := h.blk.frozen
theorem RunAt.lt (h : RunAt w P g A c B d x) : g < w.heap.size := h.blk.lt
theorem RunAt.ltP (h : RunAt w P g A c B d x) : ∀ q, P q → q < w.heap.size := fun q hq => h.rows.lt q (.inl hq)
theorem RunAt.below (h : RunAt w P g A c B d x) (hb : Below w.heap.size w w') : RunAt w' P g A c B d x := ⟨h.blk.below hb h.lt, h.np, h.rows.below hb⟩
theorem RunAt.keep (h : RunAt w P g A c B d x) (hb : Below w.heap.size w w') : Keep P w w' := Keep.of_below hb h.ltP
theorem RunAt.alloc (h : RunAt w P g A c B d x) (o : Obj) : RunAt (w.alloc o) P g A c B d x := h.below ((Below.refl _ _).alloc (Nat.le_refl _) o)
theorem RunAt.drew (h : RunAt w P g A c B d x) : RunAt w.drew P g A c B d x := ⟨h.blk.drew, h.np, h.rows.drew⟩
theorem RunAt.drewN (h : RunAt w P g A c B d x) (n : Nat) : RunAt (w.drewN n) P g A c B d x := ⟨h.blk.drewN n, h.np, h.rows.drewN n⟩
theorem RunAt.mono (h : RunAt w P g A c B d x) (hq : ∀ q, Q q → P q) : RunAt w Q g A c B d x := ⟨h.blk, fun e => h.np (hq g e), h.rows.mono fun q e => e.elim (fun e => .inl (hq q e)) .inr⟩
/-- a new block, from now on kept -/
theorem RunAt.new (h : RunAt w P g A c B d x) (o : Obj) : RunAt (w.alloc o) (fun q => P q ∨ q = w.heap.size) g A c B d x :=
  ⟨h.blk.alloc o, fun e => e.elim h.np fun e => by have := h.lt; omega, (h.rows.new o).mono fun q e => e.elim (fun e => e.elim (fun e => .inl (.inl e)) .inr) fun e => .inl (.inr e)⟩
theorem RunAt.put (h : RunAt w P g A c B d x) (i : Nat) (u : Value) (s' : NodeS) (hs : (actC x A c B d).setIfInBounds i u = actC ⟨s', x.l, x.o⟩ A c B d) : RunAt (w.setCell ⟨g, i, none⟩ u) P g A c B d ⟨s', x.l, x.o⟩ :=
  ⟨hs ▸ h.blk.set_ i u, h.np, (h.rows.keeps (.inr rfl) u).state s'⟩
theorem RunAt.puts (h : RunAt w P g A c B d x) (i : Nat) (u : Value) : Keep P w (w.setCell ⟨g, i, none⟩ u) := (Keep.refl P w).setCell h.np u
/-- a store into a block that is kept -/
theorem RunAt.far (h : RunAt w P g A c B d x) {p : Addr} (hp : P p.block) (u : Value) : RunAt (w.setCell p u) P g A c B d x :=
  ⟨h.blk.far (fun e => h.np (e ▸ hp)) u, h.np, h.rows.keeps (.inl hp) u⟩
end

/-- a whole run stored into a block -/
def fillR (w : World) (g : Nat) (A : Option Addr) (c : Nat) (B : Option Addr) (d : Nat) (x : RunS) : World := ((((((((((w.setCell ⟨g, 0, none⟩ (.int .i64 x.s.me)).setCell ⟨g, 1, none⟩ (.int .i64 x.s.round)).setCell ⟨g, 2, none⟩ (.int .i64 x.s.step)).setCell ⟨g, 3, none⟩ (.int .i64 x.s.lv)).setCell ⟨g, 4, none⟩ (.int .i64 x.s.lr)).setCell ⟨g, 5, none⟩ (.int .i64 x.s.vv)).setCell ⟨g, 6, none⟩ (.int .i64 x.s.vr)).setCell ⟨g, 7, none⟩ (.int .i64 x.s.polka)).setCell ⟨g, 8, none⟩ (.int .i64 x.s.dec)).setCell ⟨g, 9, none⟩ (.slice A x.l.length c)).setCell ⟨g, 10, none⟩ (.slice B x.o.length d)
section
variable {P Q : Nat → Prop} {w a : World} {g q : Nat} {A B : Option Addr} {c d : Nat} {x : RunS} {t : TypeId} {cs : Array Value}
theorem fillR_blk (h : Blk w g t cs) (hs : cs.size = 11) : Blk (fillR w g A c B d x) g t (actC x A c B d) := by
  obtain ⟨l⟩ := cs
  obtain ⟨k0, k1, k2, k3, k4, k5, k6, k7, k8, k9, k10, rfl⟩ : ∃ c0 c1 c2 c3 c4 c5 c6 c7 c8 c9 c10, l = [c0, c1, c2, c3, c4, c5, c6, c7, c8, c9, c10] := by
    match l, hs with
    | [c0, c1, c2, c3, c4, c5, c6, c7, c8, c9, c10], _ => exact ⟨c0, c1, c2, c3, c4, c5, c6, c7, c8, c9, c10, rfl⟩
  have hb := ((((((((((h.set_ 0 (.int .i64 x.s.me)).set_ 1 (.int .i64 x.s.round)).set_ 2 (.int .i64 x.s.step)).set_ 3 (.int .i64 x.s.lv)).set_ 4 (.int .i64 x.s.lr)).set_ 5 (.int .i64 x.s.vv)).set_ 6 (.int .i64 x.s.vr)).set_ 7 (.int .i64 x.s.polka)).set_ 8 (.int .i64 x.s.dec)).set_ 9 (.slice A x.l.length c)).set_ 10 (.slice B x.o.length d)
  simp only [List.setIfInBounds_toArray, List.set_cons_zero, List.set_cons_succ] at hb
  exact hb
theorem fillR_far (h : Blk w q t cs) (hn : q ≠ g) : Blk (fillR w g A c B d x) q t cs := ((((((((((h.far hn _).far hn _).far hn _).far hn _).far hn _).far hn _).far hn _).far hn _).far hn _).far hn _).far hn _
theorem fillR_rows {A' B' : Option Addr} {c' d' : Nat} {x' : RunS} (h : Rows w P A' c' B' d' x') (hp : P g) : Rows (fillR w g A c B d x) P A' c' B' d' x' := ((((((((((h.keeps hp _).keeps hp _).keeps hp _).keeps hp _).keeps hp _).keeps hp _).keeps hp _).keeps hp _).keeps hp _).keeps hp _).keeps hp _
theorem fillR_keep (h : Keep P a w) (hn : ¬ P g) : Keep P a (fillR w g A c B d x) := ((((((((((h.setCell hn _).setCell hn _).setCell hn _).setCell hn _).setCell hn _).setCell hn _).setCell hn _).setCell hn _).setCell hn _).setCell hn _).setCell hn _
theorem fillR_at (hr : Rows w Q A c B d x) (hb : Blk w g 58 cs) (hs : cs.size = 11) (hq : ∀ k, P k ∨ k = g → Q k) (hn : ¬ P g) : RunAt (fillR w g A c B d x) P g A c B d x :=
  ⟨fillR_blk hb hs, hn, (fillR_rows hr (hq g (.inr rfl))).mono hq⟩
end

theorem run_open {P : Nat → Prop} {w : World} {A B : Option Addr} {c d : Nat} {x : RunS} (h : Rows w P A c B d x) :
    RunAt ((w.alloc (.cells (actC x A c B d) 58)).alloc (.cells runZ 58)) (fun q => P q ∨ q = w.heap.size + 1) w.heap.size A c B d x ∧
      Blk ((w.alloc (.cells (actC x A c B d) 58)).alloc (.cells runZ 58)) (w.heap.size + 1) 58 runZ ∧
      Keep P w ((w.alloc (.cells (actC x A c B d) 58)).alloc (.cells runZ 58)) := by
  refine ⟨⟨(show Blk _ _ _ _ from heap_alloc_new w _).alloc _, fun e => ?_, ((h.new _).new _).mono fun q hq => ?_⟩, ?_, ?_⟩
  · rcases e with e | e
    · have := h.lt _ e; omega
    · omega
  · simp only [World.size_alloc]
    rcases hq with (e | e) | e
    · exact .inl (.inl e)
    · exact .inr e
    · exact .inl (.inr e)
  · have h2 := heap_alloc_new (w.alloc (.cells (actC x A c B d) 58)) (.cells runZ 58)
    rw [World.size_alloc] at h2
    exact h2
  · exact Keep.of_below (((Below.refl _ _).alloc (Nat.le_refl _) _).alloc (by simp) _) h.lt
end Go.Proofs.Ytmpppmeloieamaa
