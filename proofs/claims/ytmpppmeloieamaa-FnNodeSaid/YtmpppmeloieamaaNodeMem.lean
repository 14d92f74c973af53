/- A run in memory: a node's messages and what it has sent, in rows of one's own, apart from each other and from what is kept. -/
import Derived.Test.YtmpppmeloieamaaNodeQ
import Derived.Test.YtmpppmeloieamaaApp
import Derived.WalkKit
import Derived.WalkSpells
import Derived.WalkLawsBesides
import Derived.Lib.Hide
namespace Go.Proofs.Ytmpppmeloieamaa
open Go.RowKit

/-- From a to b the blocks of P have stayed. -/
structure Keep (P : Nat → Prop) (a b : World) : Prop where
  os : b.os = a.os
  tape : b.tape = a.tape
  output : b.output = a.output
  size : a.heap.size ≤ b.heap.size
  block : ∀ k, P k → b.heap[k]? = a.heap[k]?
section
variable {P Q : Nat → Prop} {a b c w w' : World}
theorem Keep.refl (P : Nat → Prop) (w : World) : Keep P w w := ⟨rfl, rfl, rfl, Nat.le_refl _, fun _ _ => rfl⟩
theorem Keep.trans (h : Keep P a b) (k : Keep P b c) : Keep P a c :=
  ⟨k.os.trans h.os, k.tape.trans h.tape, k.output.trans h.output, Nat.le_trans h.size k.size, fun i hi => (k.block i hi).trans (h.block i hi)⟩
theorem Keep.mono (h : Keep P a b) (hq : ∀ q, Q q → P q) : Keep Q a b := ⟨h.os, h.tape, h.output, h.size, fun i hi => h.block i (hq i hi)⟩
theorem Keep.of_below {B : Nat} (h : Below B a b) (hp : ∀ q, P q → q < B) : Keep P a b := ⟨h.os, h.tape, h.output, h.size, fun i hi => h.block i (hp i hi)⟩
theorem Keep.drew (h : Keep P a b) : Keep P a b.drew := ⟨h.os, h.tape, h.output, h.size, h.block⟩
theorem Keep.drewN (h : Keep P a b) (n : Nat) : Keep P a (b.drewN n) := ⟨h.os, h.tape, h.output, h.size, h.block⟩
theorem Keep.alloc (h : Keep P a b) (hp : ∀ q, P q → q < b.heap.size) (o : Obj) : Keep P a (b.alloc o) :=
  h.trans (Keep.of_below ((Below.refl _ _).alloc (Nat.le_refl _) o) hp)
theorem Keep.setCell (h : Keep P a b) {p : Addr} (hp : ¬ P p.block) (u : Value) : Keep P a (b.setCell p u) := by
  refine ⟨h.os, h.tape, h.output, Nat.le_trans h.size ((Below.refl 0 b).setCell (Nat.zero_le _) (p := p) u).size, fun k hk => ?_⟩
  rw [Below.heap_setCell b p u k (fun e => hp (e ▸ hk))]; exact h.block k hk
theorem Keep.grown {row : Option Nat} (hg : w.grownBy w' row) (hp : ∀ q, P q → q < w.heap.size) (hr : ∀ q, P q → some q ≠ row) : Keep P w w' :=
  ⟨hg.os, hg.tape, hg.output, hg.size, fun k hk => hg.block k (hp k hk) (hr k hk)⟩
theorem Keep.cell (h : Keep P a b) {k o : Nat} (hk : P k) : b.cell? ⟨k, o, none⟩ = a.cell? ⟨k, o, none⟩ := World.cell?_of_block (w := a) (a := ⟨k, o, none⟩) (h.block k hk)
theorem Keep.frozen (h : Keep P a b) {k o : Nat} (hk : P k) : b.frozen? ⟨k, o, none⟩ = a.frozen? ⟨k, o, none⟩ := World.frozen?_of_block (w := a) (a := ⟨k, o, none⟩) (h.block k hk)
theorem Keep.blk {k : Nat} {t : TypeId} {cs : Array Value} (h : Keep P a b) (hk : P k) (hb : Blk a k t cs) : Blk b k t cs := (h.block k hk).trans hb
theorem Keep.below {B : Nat} (h : Keep P a b) (hp : ∀ q, q < B → P q) : Below B a b := ⟨h.os, h.tape, h.output, h.size, fun k hk => h.block k (hp k hk)⟩
end

structure Rows (w : World) (P : Nat → Prop) (A : Option Addr) (c : Nat) (B : Option Addr) (d : Nat) (x : RunS) : Prop where
  la : OwnL msgC 5 40 w 0 w.heap.size A x.l.length c x.l
  ob : OwnL msgC 5 40 w 0 w.heap.size B x.o.length d x.o
  sep : ∀ a b, A = some a → B = some b → a.block ≠ b.block
  pa : ∀ q a, P q → A = some a → a.block ≠ q
  pb : ∀ q b, P q → B = some b → b.block ≠ q
  lt : ∀ q, P q → q < w.heap.size
section
variable {P Q : Nat → Prop} {w w' : World} {A B : Option Addr} {c d : Nat} {x : RunS}
theorem Rows.mono (h : Rows w P A c B d x) (hq : ∀ q, Q q → P q) : Rows w Q A c B d x :=
  ⟨h.la, h.ob, h.sep, fun q a hp => h.pa q a (hq q hp), fun q a hp => h.pb q a (hq q hp), fun q hp => h.lt q (hq q hp)⟩
theorem Rows.state (h : Rows w P A c B d x) (s : NodeS) : Rows w P A c B d ⟨s, x.l, x.o⟩ := ⟨h.la, h.ob, h.sep, h.pa, h.pb, h.lt⟩
theorem Rows.below (h : Rows w P A c B d x) (hb : Below w.heap.size w w') : Rows w' P A c B d x :=
  ⟨(h.la.below hb (Nat.le_refl _)).wide (Nat.le_refl _) hb.size, (h.ob.below hb (Nat.le_refl _)).wide (Nat.le_refl _) hb.size, h.sep, h.pa, h.pb, fun q hp => Nat.lt_of_lt_of_le (h.lt q hp) hb.size⟩
theorem Rows.drewN (h : Rows w P A c B d x) (n : Nat) : Rows (w.drewN n) P A c B d x := h.below ⟨rfl, rfl, rfl, Nat.le_refl _, fun _ _ => rfl⟩
theorem Rows.drew (h : Rows w P A c B d x) : Rows w.drew P A c B d x := h.below ⟨rfl, rfl, rfl, Nat.le_refl _, fun _ _ => rfl⟩
theorem Rows.alloc (h : Rows w P A c B d x) (o : Obj) : Rows (w.alloc o) P A c B d x := h.below ((Below.refl _ _).alloc (Nat.le_refl _) o)
theorem OwnL.lt' {w : World} {n c : Nat} {l : List NMsgD} {A : Option Addr} (h : OwnL msgC 5 40 w 0 w.heap.size A n c l) : ∀ a, A = some a → a.block < w.heap.size := fun a e => by
  subst e
  exact (h.block a.block rfl).2
/-- a new block, from now on kept -/
theorem Rows.new (h : Rows w P A c B d x) (o : Obj) : Rows (w.alloc o) (fun q => P q ∨ q = w.heap.size) A c B d x := by
  have h2 := h.alloc o
  refine ⟨h2.la, h2.ob, h2.sep, fun q a hp e => ?_, fun q a hp e => ?_, fun q hp => ?_⟩
  · rcases hp with hp | rfl
    · exact h.pa q a hp e
    · have := OwnL.lt' h.la a e; omega
  · rcases hp with hp | rfl
    · exact h.pb q a hp e
    · have := OwnL.lt' h.ob a e; omega
  · rcases hp with hp | rfl
    · exact h2.lt q hp
    · simp
theorem Rows.keeps (h : Rows w P A c B d x) {p : Addr} (hp : P p.block) (u : Value) : Rows (w.setCell p u) P A c B d x := by
  have hs : (w.setCell p u).heap.size = w.heap.size := by simp
  refine ⟨?_, ?_, h.sep, h.pa, h.pb, fun q hq => by rw [hs]; exact h.lt q hq⟩
  · rw [hs]
    exact h.la.keep fun g _ _ e => Below.heap_setCell w p u g (by
      cases A with
      | none => cases e
      | some a => simp only [Value.ownBlock, Option.some.injEq] at e; rw [← e]; exact h.pa _ a hp rfl)
  · rw [hs]
    exact h.ob.keep fun g _ _ e => Below.heap_setCell w p u g (by
      cases B with
      | none => cases e
      | some a => simp only [Value.ownBlock, Option.some.injEq] at e; rw [← e]; exact h.pb _ a hp rfl)
theorem Rows.rl (h : Rows w P A c B d x) : RdL msgC 5 w w.heap.size A x.l.length c x.l := h.la.rd msgC_len
theorem Rows.ro (h : Rows w P A c B d x) : RdL msgC 5 w w.heap.size B x.o.length d x.o := h.ob.rd msgC_len
/-- a block of another kind is none of the rows -/
theorem Rows.other {g : Nat} {t : TypeId} {cs : Array Value} (h : Rows w P A c B d x) (hb : Blk w g t cs) (ht : t ≠ 40) : Rows w (fun q => P q ∨ q = g) A c B d x := by
  have key : ∀ (C : Option Addr) (n e : Nat) (l : List NMsgD), OwnL msgC 5 40 w 0 w.heap.size C n e l → ∀ a, C = some a → a.block ≠ g := by
    rintro C n e l ⟨_, ⟨_, h0, _⟩ | ⟨g', cur, e1, _, _, hc, _⟩⟩ a ea hg
    · rw [h0] at ea; cases ea
    · rw [e1] at ea
      simp only [Option.some.injEq] at ea
      subst ea
      subst hg
      have h1 : w.heap[g']? = some (.cells cur 40 (0, 0)) := hc
      have h2 : w.heap[g']? = some (.cells cs t (0, 0)) := hb
      rw [h1] at h2
      simp only [Option.some.injEq, Obj.cells.injEq] at h2
      exact ht h2.2.1.symm
  exact ⟨h.la, h.ob, h.sep, fun q a hp e => hp.elim (fun hp => h.pa q a hp e) (fun hp => by subst hp; exact key _ _ _ _ h.la a e), fun q a hp e => hp.elim (fun hp => h.pb q a hp e) (fun hp => by subst hp; exact key _ _ _ _ h.ob a e), fun q hp => hp.elim (h.lt q) (fun e => by subst e; exact hb.lt)⟩
/-- an append onto what was sent -/
theorem Rows.appO (h : Rows w P A c B d x) {v : Value} {m : NMsgD} (hown : w'.ownsRow 0 40 5 v (x.o.length + 1) (x.o.flatMap msgC ++ msgC m)) (hg : w.grownBy w' (Value.ownBlock (.slice B x.o.length d)))
    (hat : v.ownBlock = Value.ownBlock (.slice B x.o.length d) ∨ v.ownBlock = some w.heap.size) :
    ∃ B' d', v = .slice B' (x.o.length + 1) d' ∧ Rows w' P A c B' d' ⟨x.s, x.l, x.o ++ [m]⟩ ∧ Keep P w w' := by
  have e : x.o.flatMap msgC ++ msgC m = (x.o ++ [m]).flatMap msgC := by rw [List.flatMap_append]; simp
  rw [e] at hown
  obtain ⟨B', d', rfl, ho⟩ := OwnL.of_own (f := msgC) (l := x.o ++ [m]) (by simp) hown
  have hB : ∀ b', B' = some b' → (∃ b, B = some b ∧ b'.block = b.block) ∨ b'.block = w.heap.size := by
    intro b' eb
    subst eb
    rcases hat with h1 | h1
    · cases B with
      | none => cases h1
      | some b => simp only [Value.ownBlock, Option.some.injEq] at h1; exact .inl ⟨b, rfl, h1⟩
    · simp only [Value.ownBlock, Option.some.injEq] at h1; exact .inr h1
  refine ⟨B', d', rfl, ⟨(h.la.keep fun g _ hlt e => hg.block g hlt fun e2 => ?_).wide (Nat.le_refl _) hg.size, by simpa using ho, fun a b ea eb => ?_, h.pa, fun q b hq eb => ?_, fun q hq => Nat.lt_of_lt_of_le (h.lt q hq) hg.size⟩,
    Keep.grown hg h.lt fun q hq e => ?_⟩
  · cases A with
    | none => cases e
    | some a =>
      cases B with
      | none => cases e2
      | some b =>
        simp only [Value.ownBlock, Option.some.injEq] at e e2
        exact h.sep a b rfl rfl (by omega)
  · rcases hB b eb with ⟨b0, e0, e1⟩ | e1
    · rw [e1]; exact h.sep a b0 ea e0
    · have := OwnL.lt' h.la a ea; omega
  · rcases hB b eb with ⟨b0, e0, e1⟩ | e1
    · rw [e1]; exact h.pb q b0 hq e0
    · have := h.lt q hq; omega
  · cases B with
    | none => cases e
    | some b => simp only [Value.ownBlock, Option.some.injEq] at e; exact h.pb q b hq rfl e.symm
/-- an append onto the messages -/
theorem Rows.appL (h : Rows w P A c B d x) {v : Value} {m : NMsgD} (hown : w'.ownsRow 0 40 5 v (x.l.length + 1) (x.l.flatMap msgC ++ msgC m)) (hg : w.grownBy w' (Value.ownBlock (.slice A x.l.length c)))
    (hat : v.ownBlock = Value.ownBlock (.slice A x.l.length c) ∨ v.ownBlock = some w.heap.size) :
    ∃ A' c', v = .slice A' (x.l.length + 1) c' ∧ Rows w' P A' c' B d ⟨x.s, x.l ++ [m], x.o⟩ ∧ Keep P w w' := by
  have e : x.l.flatMap msgC ++ msgC m = (x.l ++ [m]).flatMap msgC := by rw [List.flatMap_append]; simp
  rw [e] at hown
  obtain ⟨A', c', rfl, ho⟩ := OwnL.of_own (f := msgC) (l := x.l ++ [m]) (by simp) hown
  have hA : ∀ b', A' = some b' → (∃ b, A = some b ∧ b'.block = b.block) ∨ b'.block = w.heap.size := by
    intro b' eb
    subst eb
    rcases hat with h1 | h1
    · cases A with
      | none => cases h1
      | some b => simp only [Value.ownBlock, Option.some.injEq] at h1; exact .inl ⟨b, rfl, h1⟩
    · simp only [Value.ownBlock, Option.some.injEq] at h1; exact .inr h1
  refine ⟨A', c', rfl, ⟨by simpa using ho, (h.ob.keep fun g _ hlt e => hg.block g hlt fun e2 => ?_).wide (Nat.le_refl _) hg.size, fun a b ea eb => ?_, fun q b hq eb => ?_, h.pb, fun q hq => Nat.lt_of_lt_of_le (h.lt q hq) hg.size⟩,
    Keep.grown hg h.lt fun q hq e => ?_⟩
  · cases B with
    | none => cases e
    | some a =>
      cases A with
      | none => cases e2
      | some b =>
        simp only [Value.ownBlock, Option.some.injEq] at e e2
        exact h.sep b a rfl rfl (by omega)
  · rcases hA a ea with ⟨b0, e0, e1⟩ | e1
    · rw [e1]; exact h.sep b0 b e0 eb
    · have := OwnL.lt' h.ob b eb; omega
  · rcases hA b eb with ⟨b0, e0, e1⟩ | e1
    · rw [e1]; exact h.pa q b0 hq e0
    · have := h.lt q hq; omega
  · cases A with
    | none => cases e
    | some b => simp only [Value.ownBlock, Option.some.injEq] at e; exact h.pa q b hq rfl e.symm
end

def actC (x : RunS) (A : Option Addr) (c : Nat) (B : Option Addr) (d : Nat) : Array Value :=
  #[.int .i64 x.s.me, .int .i64 x.s.round, .int .i64 x.s.step, .int .i64 x.s.lv, .int .i64 x.s.lr, .int .i64 x.s.vv, .int .i64 x.s.vr, .int .i64 x.s.polka, .int .i64 x.s.dec, .slice A x.l.length c, .slice B x.o.length d]
/-- the acting node in its block -/
structure ActAt (w : World) (P : Nat → Prop) (g : Nat) (A : Option Addr) (c : Nat) (B : Option Addr) (d : Nat) (x : RunS) : Prop where
  blk : Blk w g 63 (actC x A c B d)
  np : ¬ P g
  rows : Rows w (fun q => P q ∨ q = g) A c B d x
section
variable {P Q : Nat → Prop} {w w' : World} {g : Nat} {A B : Option Addr} {c d : Nat} {x : RunS}
theorem ActAt.cells (h : ActAt w P g A c B d x) : ∀ i, w.cell? ⟨g, i, none⟩ = #[.int .i64 x.s.me, .int .i64 x.s.round, .int .i64 x.s.step, .int .i64 x.s.lv, .int .i64 x.s.lr, .int .i64 x.s.vv, .int .i64 x.s.vr, .int .i64 x.s.polka, .int .i64 x.s.dec, .slice A x.l.length c, .slice B x.o.length d][i]? := h.blk.cell
theorem ActAt.free (h : ActAt w P g A c B d x) : ∀ i, w.frozen? ⟨g, i, none⟩ = false := h.blk.frozen
theorem ActAt.lt (h : ActAt w P g A c B d x) : g < w.heap.size := h.blk.lt
theorem ActAt.ltP (h : ActAt w P g A c B d x) : ∀ q, P q → q < w.heap.size := fun q hq => h.rows.lt q (.inl hq)
theorem ActAt.below (h : ActAt w P g A c B d x) (hb : Below w.heap.size w w') : ActAt w' P g A c B d x := ⟨h.blk.below hb h.lt, h.np, h.rows.below hb⟩
theorem ActAt.keep (h : ActAt w P g A c B d x) (hb : Below w.heap.size w w') : Keep P w w' := Keep.of_below hb h.ltP
theorem ActAt.alloc (h : ActAt w P g A c B d x) (o : Obj) : ActAt (w.alloc o) P g A c B d x := h.below ((Below.refl _ _).alloc (Nat.le_refl _) o)
theorem ActAt.drew (h : ActAt w P g A c B d x) : ActAt w.drew P g A c B d x := ⟨h.blk.drew, h.np, h.rows.drew⟩
theorem ActAt.drewN (h : ActAt w P g A c B d x) (n : Nat) : ActAt (w.drewN n) P g A c B d x := ⟨h.blk.drewN n, h.np, h.rows.drewN n⟩
theorem ActAt.mono (h : ActAt w P g A c B d x) (hq : ∀ q, Q q → P q) : ActAt w Q g A c B d x := ⟨h.blk, fun e => h.np (hq g e), h.rows.mono fun q e => e.elim (fun e => .inl (hq q e)) .inr⟩
/-- a new block, from now on kept -/
theorem ActAt.new (h : ActAt w P g A c B d x) (o : Obj) : ActAt (w.alloc o) (fun q => P q ∨ q = w.heap.size) g A c B d x :=
  ⟨h.blk.alloc o, fun e => e.elim h.np fun e => by have := h.lt; omega, (h.rows.new o).mono fun q e => e.elim (fun e => e.elim (fun e => .inl (.inl e)) .inr) fun e => .inl (.inr e)⟩
theorem ActAt.put (h : ActAt w P g A c B d x) (i : Nat) (u : Value) (s' : NodeS) (hs : (actC x A c B d).setIfInBounds i u = actC ⟨s', x.l, x.o⟩ A c B d) : ActAt (w.setCell ⟨g, i, none⟩ u) P g A c B d ⟨s', x.l, x.o⟩ :=
  ⟨hs ▸ h.blk.set_ i u, h.np, (h.rows.keeps (.inr rfl) u).state s'⟩
theorem ActAt.puts (h : ActAt w P g A c B d x) (i : Nat) (u : Value) : Keep P w (w.setCell ⟨g, i, none⟩ u) := (Keep.refl P w).setCell h.np u
/-- a store into a block that is kept -/
theorem ActAt.far (h : ActAt w P g A c B d x) {p : Addr} (hp : P p.block) (u : Value) : ActAt (w.setCell p u) P g A c B d x :=
  ⟨h.blk.far (fun e => h.np (e ▸ hp)) u, h.np, h.rows.keeps (.inl hp) u⟩
end
/-- what a method of an acting node leaves -/
def ActOut (P : Nat → Prop) (g : Nat) (y : RunS) (v : Value) (w : World) (e : Ending) (w' : World) : Prop :=
  ∃ A c B d, e = .returned v ∧ ActAt w' P g A c B d y ∧ Keep P w w'
end Go.Proofs.Ytmpppmeloieamaa
