/- Words for memory: a slice value that reads as a list of cells; what keeps it. -/
import Derived.Test.YtelnnegfkdfpiaaGreatDoorA
import Derived.Laws.AppendOwn
import Derived.Laws.OwnMore
import Derived.Deep.QuietTactic
import Derived.BigQuiet
import Derived.WalkKit
import Derived.WalkSpells
import Derived.WalkLawsBesides
import Derived.Lib.Hide
namespace Go.Proofs.YtelnnegfkdfpiaaGreatDoor
open Go.RowKit

/-- A region that draws its order, whose operations only read and whose callees leave old memory alone: the lexical walk serves, in every world above w. -/
theorem wp_region_below {P : Program} {id : Nat} {Q : Exit → Act → World → Prop} {a : Act} {w : World} {l : List Oper} (hm : P.follows .mixedOrders = true) (hB : Region.lexB .any l.toArray = true)
    (h : wpQuiet P l.toArray (Below w.heap.size w) (fun a' => ∀ w', Below w.heap.size w w' → Q .normal a' w') l a) : (Code.region id l.toArray true).wp P Q a w :=
  wp_region_quiet (C := Below w.heap.size w) hm hB ((Below.refl _ _).drew) (by simpa using h)

theorem wp_region_belowB {P : Program} {id : Nat} {Q : Exit → Act → World → Prop} {a : Act} {w : World} {l : List Oper} (hm : P.follows .mixedOrders = true) (hB : Region.lexB .any l.toArray = true)
    (h : ∀ B, B = w.heap.size → wpQuiet P l.toArray (Below B w) (fun a' => ∀ w', Below B w w' → Q .normal a' w') l a) : (Code.region id l.toArray true).wp P Q a w :=
  wp_region_below hm hB (h _ rfl)
theorem bcellB {B : Nat} {W w1 : World} (hb : Below B W w1) : ∀ b o, b < B → w1.cell? ⟨b, o, none⟩ = W.cell? ⟨b, o, none⟩ := fun b o h => hb.cell (p := ⟨b, o, none⟩) h
theorem quiet_belowB {P : Program} {f : FuncId} {args : Array Value} {B : Nat} {w0 w1 : World} {v : Value} (hB : B = w0.heap.size) (hC : Below B w0 w1)
    (h : Calls P f args w1 fun e w' => e = .returned v ∧ Below w1.heap.size w1 w') : Calls P f args w1 fun e w' => e = .returned v ∧ Below B w0 w' :=
  h.mono fun _ _ ⟨he, hb⟩ => ⟨he, hC.trans (hb.mono (hB ▸ hC.size))⟩
theorem quiet_below {P : Program} {f : FuncId} {args : Array Value} {w0 w1 : World} {v : Value} (hC : Below w0.heap.size w0 w1)
    (h : Calls P f args w1 fun e w' => e = .returned v ∧ Below w1.heap.size w1 w') : Calls P f args w1 fun e w' => e = .returned v ∧ Below w0.heap.size w0 w' :=
  h.mono fun _ _ ⟨he, hb⟩ => ⟨he, hC.trans (hb.mono hC.size)⟩
theorem quiet_same {P : Program} {f : FuncId} {args : Array Value} {w0 w1 : World} {v : Value} (hC : Below w0.heap.size w0 w1)
    (h : Calls P f args w1 fun e w' => e = .returned v ∧ w1 = w') : Calls P f args w1 fun e w' => e = .returned v ∧ Below w0.heap.size w0 w' :=
  h.mono fun _ _ ⟨he, hb⟩ => ⟨he, hb ▸ hC⟩

/-- The slice '.slice A n c' holds the cells xs ('size' cells an element) and lies below block B. -/
def Rd (w : World) (B : Nat) (A : Option Addr) (n c size : Nat) (xs : List Value) : Prop :=
  xs.length = n * size ∧ n ≤ c ∧ c ≤ maxLen ∧ (0 < n → ∃ b off, A = some ⟨b, off, none⟩ ∧ b < B ∧ ∀ j, j < n * size → w.cell? ⟨b, off + j, none⟩ = xs[j]?)

section
variable {w w' : World} {B B' n c size : Nat} {A : Option Addr} {xs : List Value}
theorem Rd.keep (h : Rd w B A n c size xs) (hk : ∀ b o, b < B → w'.cell? ⟨b, o, none⟩ = w.cell? ⟨b, o, none⟩) : Rd w' B A n c size xs := by
  obtain ⟨h1, h2, h3, h4⟩ := h
  refine ⟨h1, h2, h3, fun hn => ?_⟩
  obtain ⟨b, off, e, hb, hc⟩ := h4 hn
  exact ⟨b, off, e, hb, fun j hj => (hk _ _ hb).trans (hc j hj)⟩
theorem Rd.more (h : Rd w B A n c size xs) (hB : B ≤ B') : Rd w B' A n c size xs := by
  obtain ⟨h1, h2, h3, h4⟩ := h
  refine ⟨h1, h2, h3, fun hn => ?_⟩
  obtain ⟨b, off, e, hb, hc⟩ := h4 hn
  exact ⟨b, off, e, by omega, hc⟩
theorem Rd.below (h : Rd w B A n c size xs) (hb : Below B' w w') (hB : B ≤ B') : Rd w' B A n c size xs :=
  h.keep fun b o hlt => hb.cell (p := ⟨b, o, none⟩) (by show b < B'; omega)
theorem Rd.drew (h : Rd w B A n c size xs) : Rd w.drew B A n c size xs := h
theorem Rd.drewN (h : Rd w B A n c size xs) (k : Nat) : Rd (w.drewN k) B A n c size xs := h
theorem Rd.alloc (h : Rd w B A n c size xs) (hB : B ≤ w.heap.size) (o : Obj) : Rd (w.alloc o) B A n c size xs :=
  h.keep fun b _ hp => World.cell?_alloc_lt w o _ (by show b < _; omega)
theorem Rd.len (h : Rd w B A n c size xs) : xs.length = n * size := h.1
theorem Rd.le (h : Rd w B A n c size xs) : n ≤ 9223372036854775807 := by
  have h2 := h.2.1; have h3 := h.2.2.1; unfold maxLen at h3; omega
theorem Rd.nil (w : World) (B size : Nat) : Rd w B none 0 0 size [] := ⟨by simp, Nat.le_refl _, Nat.zero_le _, fun h => absurd h (by omega)⟩
theorem Rd.of_own {base : Nat} {e : TypeId} {v : Value} (h : w.ownsRow base e size v n xs) : ∃ A c, v = .slice A n c ∧ Rd w w.heap.size A n c size xs := by
  obtain ⟨h1, h2⟩ := h
  rcases h2 with ⟨rfl, rfl⟩ | ⟨g, cap, cur, rfl, hbase, hg, hnc, hcm, hsz, htk⟩
  · exact ⟨none, 0, rfl, h1, Nat.le_refl _, Nat.zero_le _, fun h => absurd h (by omega)⟩
  · refine ⟨some ⟨g, 0, none⟩, cap, rfl, h1, hnc, hcm, fun hn => ⟨g, 0, rfl, ?_, fun j hj => ?_⟩⟩
    · rcases Nat.lt_or_ge g w.heap.size with hlt | hge
      · exact hlt
      · rw [Array.getElem?_eq_none hge] at hg; cases hg
    · have hc : w.cell? ⟨g, 0 + j, none⟩ = cur[j]? := by simp [World.cell?, hg]
      rw [hc, ← htk, List.getElem?_take, if_pos hj]
      simp
end

/-- cell j of element k -/
theorem flat_at {α : Type} (f : α → List Value) (size : Nat) (l : List α) (hf : ∀ x ∈ l, (f x).length = size) (k j : Nat) (x : α) (hk : l[k]? = some x) (hj : j < size) : (l.flatMap f)[k * size + j]? = (f x)[j]? := by
  induction l generalizing k with
  | nil => simp at hk
  | cons y l ih =>
    have hy : (f y).length = size := hf y (by simp)
    rw [List.flatMap_cons]
    cases k with
    | zero =>
      simp only [List.getElem?_cons_zero, Option.some.injEq] at hk
      subst hk
      rw [Nat.zero_mul, Nat.zero_add, List.getElem?_append_left (by omega)]
    | succ k =>
      rw [List.getElem?_append_right (by rw [hy, Nat.succ_mul]; omega), hy]
      have e : (k + 1) * size + j - size = k * size + j := by rw [Nat.succ_mul]; omega
      rw [e]
      exact ih (fun x hx => hf x (by simp [hx])) k (by simpa using hk)
theorem flat_len {α : Type} (f : α → List Value) (size : Nat) (l : List α) (hf : ∀ x ∈ l, (f x).length = size) : (l.flatMap f).length = l.length * size := by
  induction l with
  | nil => simp
  | cons y l ih => rw [List.flatMap_cons, List.length_append, hf y (by simp), ih (fun x hx => hf x (by simp [hx])), List.length_cons, Nat.succ_mul]; omega

/-- A slice of structs 'f x' reads as the list l. -/
def RdL {α : Type} (f : α → List Value) (size : Nat) (w : World) (B : Nat) (A : Option Addr) (n c : Nat) (l : List α) : Prop :=
  l.length = n ∧ Rd w B A n c size (l.flatMap f)

section
variable {α : Type} {f : α → List Value} {w w' : World} {B B' n c size : Nat} {A : Option Addr} {l : List α}
theorem RdL.below (h : RdL f size w B A n c l) (hb : Below B' w w') (hB : B ≤ B') : RdL f size w' B A n c l := ⟨h.1, h.2.below hb hB⟩
theorem RdL.alloc (h : RdL f size w B A n c l) (hB : B ≤ w.heap.size) (o : Obj) : RdL f size (w.alloc o) B A n c l := ⟨h.1, h.2.alloc hB o⟩
theorem RdL.drewN (h : RdL f size w B A n c l) (k : Nat) : RdL f size (w.drewN k) B A n c l := h
theorem RdL.more (h : RdL f size w B A n c l) (hB : B ≤ B') : RdL f size w B' A n c l := ⟨h.1, h.2.more hB⟩
theorem RdL.keep (h : RdL f size w B A n c l) (hk : ∀ b o, b < B → w'.cell? ⟨b, o, none⟩ = w.cell? ⟨b, o, none⟩) : RdL f size w' B A n c l := ⟨h.1, h.2.keep hk⟩
theorem RdL.le (h : RdL f size w B A n c l) : n ≤ 9223372036854775807 := h.2.le
/-- element k: where it lies, and its cells -/
theorem RdL.at_ (h : RdL f size w B A n c l) (hf : ∀ x, (f x).length = size) {k : Nat} (hk : k < n) :
    ∃ b off x, A = some ⟨b, off, none⟩ ∧ b < B ∧ l[k]? = some x ∧ ∀ j, j < size → w.cell? ⟨b, off + (k * size + j), none⟩ = (f x)[j]? := by
  obtain ⟨h1, h2, _, _, h4⟩ := h
  obtain ⟨b, off, e, hb, hc⟩ := h4 (by omega)
  have hkl : k < l.length := by omega
  refine ⟨b, off, l[k], e, hb, List.getElem?_eq_getElem hkl, fun j hj => ?_⟩
  rw [hc _ (by have : (k + 1) * size ≤ n * size := Nat.mul_le_mul_right _ hk; rw [Nat.succ_mul] at this; omega)]
  exact flat_at f size l (fun x _ => hf x) k j l[k] (List.getElem?_eq_getElem hkl) hj
end

theorem RdL.of_own {α : Type} {f : α → List Value} {w : World} {base : Nat} {e : TypeId} {size n c : Nat} {A : Option Addr} {l : List α} (hl : l.length = n) (h : w.ownsRow base e size (.slice A n c) n (l.flatMap f)) : RdL f size w w.heap.size A n c l := by
  obtain ⟨A', c', e, hr⟩ := Rd.of_own h
  simp only [Value.slice.injEq, true_and] at e
  obtain ⟨rfl, rfl⟩ := e
  exact ⟨hl, hr⟩
theorem own_mono {w : World} {base base' : Nat} {e : TypeId} {size n : Nat} {v : Value} {xs : List Value} (h : w.ownsRow base e size v n xs) (hb : base' ≤ base) : w.ownsRow base' e size v n xs := by
  obtain ⟨h1, h2⟩ := h
  refine ⟨h1, ?_⟩
  rcases h2 with h | ⟨g, cap, cur, a, b, d⟩
  · exact .inl h
  · exact .inr ⟨g, cap, cur, a, by omega, d⟩
/-- what is owned stays so while the blocks of the row stay -/
theorem own_keep {w w' : World} {base B : Nat} {e : TypeId} {size n : Nat} {v : Value} {xs : List Value} (h : w.ownsRow base e size v n xs) (hb : Below B w w') (hB : w.heap.size ≤ B) : w'.ownsRow base e size v n xs := by
  obtain ⟨h1, h2⟩ := h
  refine ⟨h1, ?_⟩
  rcases h2 with h | ⟨g, cap, cur, a, b, d, e'⟩
  · exact .inl h
  · refine .inr ⟨g, cap, cur, a, b, ?_, e'⟩
    rw [hb.block g ?_, d]
    rcases Nat.lt_or_ge g w.heap.size with hlt | hge
    · omega
    · rw [Array.getElem?_eq_none hge] at d; cases d

/-! ### Blocks of the call's own -/
def Blk (w : World) (g : Nat) (t : TypeId) (cs : Array Value) : Prop := w.heap[g]? = some (.cells cs t (0, 0))
section
variable {w w' : World} {g : Nat} {t : TypeId} {cs : Array Value}
theorem Blk.lt (h : Blk w g t cs) : g < w.heap.size := by
  rcases Nat.lt_or_ge g w.heap.size with hlt | hge
  · exact hlt
  · unfold Blk at h; rw [Array.getElem?_eq_none hge] at h; cases h
theorem Blk.cell (h : Blk w g t cs) (i : Nat) : w.cell? ⟨g, i, none⟩ = cs[i]? := by unfold Blk at h; simp [World.cell?, h]
theorem Blk.frozen (h : Blk w g t cs) (i : Nat) : w.frozen? ⟨g, i, none⟩ = false := by unfold Blk at h; simp [World.frozen?, h]
theorem Blk.drew (h : Blk w g t cs) : Blk w.drew g t cs := h
theorem Blk.drewN (h : Blk w g t cs) (n : Nat) : Blk (w.drewN n) g t cs := h
theorem Blk.alloc (h : Blk w g t cs) (o : Obj) : Blk (w.alloc o) g t cs := (Below.heap_alloc w o g h.lt).trans h
theorem Blk.set_ (h : Blk w g t cs) (i : Nat) (u : Value) : Blk (w.setCell ⟨g, i, none⟩ u) g t (cs.setIfInBounds i u) := by
  unfold Blk at h ⊢
  simp [World.setCell, Array.getElem?_modify, h]
theorem Blk.far (h : Blk w g t cs) {p : Addr} (hp : g ≠ p.block) (u : Value) : Blk (w.setCell p u) g t cs := (Below.heap_setCell w p u g hp).trans h
theorem Blk.below {B : Nat} (h : Blk w g t cs) (hb : Below B w w') (hg : g < B) : Blk w' g t cs := (hb.block g hg).trans h
end

theorem Blk.has {w : World} {g : Nat} {t : TypeId} {cs : Array Value} (h : Blk w g t cs) (j : Nat) (hj : j < cs.size) : w.cell? ⟨g, j, none⟩ = some (cs.getD j undef) := by
  rw [h.cell, Array.getD_eq_getD_getElem?, Array.getElem?_eq_getElem hj]; rfl

/-- the first k elements are laid -/
def Laid {α : Type} (f : α → List Value) (size : Nat) (l : List α) (k n : Nat) (w : World) (g : Nat) (t : TypeId) : Prop :=
  ∃ cur : Array Value, Blk w g t cur ∧ cur.size = n * size ∧ ∀ j, j < k * size → cur[j]? = (l.flatMap f)[j]?

theorem Laid.below {α : Type} {f : α → List Value} {size : Nat} {l : List α} {k n : Nat} {w w' : World} {g B : Nat} {t : TypeId} (h : Laid f size l k n w g t) (hb : Below B w w') (hg : g < B) : Laid f size l k n w' g t := by
  obtain ⟨cur, h1, h2, h3⟩ := h
  exact ⟨cur, h1.below hb hg, h2, h3⟩

theorem Laid.start {α : Type} (f : α → List Value) (size : Nat) (l : List α) (n : Nat) {w : World} {g : Nat} {t : TypeId} {base : Nat} {v : List Value} (h : w.ownsRow base t size (.slice (some ⟨g, 0, none⟩) n n) n v) : Laid f size l 0 n w g t := by
  obtain ⟨_, h2⟩ := h
  rcases h2 with ⟨h, _⟩ | ⟨g', cap, cur, e, _, hg, _, _, hsz, _⟩
  · cases h
  · simp only [Value.slice.injEq, Option.some.injEq, Addr.mk.injEq, true_and, and_true] at e
    obtain ⟨rfl, rfl⟩ := e
    exact ⟨cur, hg, hsz, fun j hj => absurd hj (by omega)⟩

theorem Laid.next {α : Type} {f : α → List Value} {size : Nat} {l : List α} {k n : Nat} {w : World} {g : Nat} {t : TypeId} {cur : Array Value} {x : α} (hf : ∀ x, (f x).length = size) (hk : l[k]? = some x)
    (h1 : Blk w g t cur) (h2 : cur.size = n * size) (h3 : ∀ j, j < k * size → cur[j]? = (l.flatMap f)[j]?) (h4 : ∀ j, j < size → cur[k * size + j]? = (f x)[j]?) : Laid f size l (k + 1) n w g t := by
  refine ⟨cur, h1, h2, fun j hj => ?_⟩
  rcases Nat.lt_or_ge j (k * size) with h | h
  · exact h3 j h
  · obtain ⟨r, rfl⟩ := Nat.exists_eq_add_of_le h
    have hr : r < size := by rw [Nat.succ_mul] at hj; omega
    rw [h4 r hr, flat_at f size l (fun x _ => hf x) k r x hk hr]

theorem Laid.done {α : Type} {f : α → List Value} {size : Nat} {l : List α} {n : Nat} {w : World} {g base : Nat} {t : TypeId} (hf : ∀ x, (f x).length = size) (hl : l.length = n) (hn : n ≤ maxLen) (hb : base ≤ g) (h : Laid f size l n n w g t) :
    w.ownsRow base t size (.slice (some ⟨g, 0, none⟩) n n) n (l.flatMap f) := by
  obtain ⟨cur, h1, h2, h3⟩ := h
  have hfl : (l.flatMap f).length = n * size := by rw [flat_len f size l (fun x _ => hf x), hl]
  refine ⟨hfl, .inr ⟨g, n, cur, rfl, hb, h1, Nat.le_refl _, hn, h2, ?_⟩⟩
  apply List.ext_getElem?
  intro j
  rcases Nat.lt_or_ge j (n * size) with hj | hj
  · rw [List.getElem?_take, if_pos hj, ← h3 j hj]
    simp
  · rw [List.getElem?_take, if_neg (by omega), List.getElem?_eq_none (by omega)]

/-- A call hands back a slice of its own that reads as l. -/
def SlOut {α : Type} (f : α → List Value) (size : Nat) (t : TypeId) (n : Nat) (l : List α) (w : World) (e : Ending) (w' : World) : Prop :=
  ∃ v, e = .returned v ∧ w'.ownsRow w.heap.size t size v n (l.flatMap f) ∧ Below w.heap.size w w'

theorem SlOut.get {α : Type} {f : α → List Value} {size : Nat} {t : TypeId} {n : Nat} {l : List α} {w w' : World} {e : Ending} (hl : l.length = n) (h : SlOut f size t n l w e w') :
    ∃ A c, e = .returned (.slice A n c) ∧ w'.ownsRow w.heap.size t size (.slice A n c) n (l.flatMap f) ∧ RdL f size w' w'.heap.size A n c l ∧ Below w.heap.size w w' := by
  obtain ⟨v, rfl, hown, hb⟩ := h
  obtain ⟨A, c, rfl, hr⟩ := Rd.of_own hown
  exact ⟨A, c, rfl, hown, ⟨hl, hr⟩, hb⟩


/-! ### Searches -/
def firstBy {α : Type} (f : α → Bool) (l : List α) : Int := match l.findIdx? f with | some i => (i : Int) | none => -1
def noneTo {α : Type} (f : α → Bool) (l : List α) (k : Nat) : Bool := (l.take k).all fun x => !(f x)
def allTo {α : Type} (f : Nat → α → Bool) (l : List α) (k : Nat) : Bool := ((l.take k).zipIdx).all fun x => f x.2 x.1
theorem noneTo_zero {α : Type} (f : α → Bool) (l : List α) : noneTo f l 0 = true := by simp [noneTo]
theorem noneTo_succ {α : Type} {f : α → Bool} {l : List α} {k : Nat} {x : α} (hk : l[k]? = some x) (h : noneTo f l k = true) (hx : f x = false) : noneTo f l (k + 1) = true := by
  unfold noneTo at *
  rw [List.take_add_one, hk]
  simp [h, hx]
theorem firstBy_hit {α : Type} {f : α → Bool} {l : List α} {k : Nat} {x : α} (hk : l[k]? = some x) (h : noneTo f l k = true) (hx : f x = true) : firstBy f l = k := by
  have e : l.findIdx? f = some k := by
    obtain ⟨hlt, he⟩ := List.getElem?_eq_some_iff.1 hk
    rw [List.findIdx?_eq_some_iff_getElem]
    refine ⟨hlt, by rw [he]; exact hx, fun j hj => ?_⟩
    unfold noneTo at h
    rw [List.all_eq_true] at h
    have hm : l[j] ∈ l.take k := List.mem_take_iff_getElem.2 ⟨j, by omega, rfl⟩
    have := h _ hm
    simpa using this
  simp [firstBy, e]
theorem firstBy_miss {α : Type} {f : α → Bool} {l : List α} (h : noneTo f l l.length = true) : firstBy f l = -1 := by
  have e : l.findIdx? f = none := by
    rw [List.findIdx?_eq_none_iff]
    intro x hx
    unfold noneTo at h
    rw [List.take_length, List.all_eq_true] at h
    simpa using h x hx
  simp [firstBy, e]
theorem allTo_zero {α : Type} (f : Nat → α → Bool) (l : List α) : allTo f l 0 = true := by simp [allTo]
theorem allTo_succ {α : Type} {f : Nat → α → Bool} {l : List α} {k : Nat} {x : α} (hk : l[k]? = some x) : allTo f l (k + 1) = (allTo f l k && f k x) := by
  obtain ⟨hlt, he⟩ := List.getElem?_eq_some_iff.1 hk
  unfold allTo
  rw [List.take_add_one, hk, List.zipIdx_append]
  simp [Nat.min_eq_left (Nat.le_of_lt hlt)]
theorem allTo_no {α : Type} {f : Nat → α → Bool} {l : List α} {k : Nat} {x : α} (hk : l[k]? = some x) (hx : f k x = false) : allTo f l l.length = false := by
  obtain ⟨hlt, he⟩ := List.getElem?_eq_some_iff.1 hk
  unfold allTo
  rw [List.take_length, Bool.eq_false_iff]
  intro h
  rw [List.all_eq_true] at h
  have hm : (l[k], k) ∈ l.zipIdx := List.mem_zipIdx_iff_getElem?.2 (by simp)
  have := h _ hm
  rw [he] at this
  simp [hx] at this
end Go.Proofs.YtelnnegfkdfpiaaGreatDoor
