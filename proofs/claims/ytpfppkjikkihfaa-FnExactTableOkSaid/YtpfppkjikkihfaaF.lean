/- Copies and comparisons of slices of peers. -/
import Derived.Test.YtpfppkjikkihfaaD
import Derived.Laws.NewBlocks
import Derived.WalkKit
import Derived.WalkSpells
import Derived.WalkLawsBesides
import Derived.Lib.Hide
namespace Go.Proofs.Ytpfppkjikkihfaa
open Go.RowKit

def Blk (w : World) (g : Nat) (t : TypeId) (cs : Array Value) : Prop := w.heap[g]? = some (.cells cs t (0, 0))
section
variable {w w' : World} {g : Nat} {t : TypeId} {cs : Array Value}
theorem Blk.lt (h : Blk w g t cs) : g < w.heap.size := by
  rcases Nat.lt_or_ge g w.heap.size with hlt | hge
  · exact hlt
  · unfold Blk at h; rw [Array.getElem?_eq_none hge] at h; cases h
theorem Blk.cell (h : Blk w g t cs) (i : Nat) : w.cell? ⟨g, i, none⟩ = cs[i]? := by unfold Blk at h; simp [World.cell?, h]
theorem Blk.frozen (h : Blk w g t cs) (i : Nat) : w.frozen? ⟨g, i, none⟩ = false := by unfold Blk at h; simp [World.frozen?, h]
theorem Blk.drew (h : Blk w g t cs) : Blk w.drew g t cs := h
theorem Blk.drewN (h : Blk w g t cs) (n : Nat) : Blk (w.drewN n) g t cs := h
theorem Blk.alloc (h : Blk w g t cs) (o : Obj) : Blk (w.alloc o) g t cs := (Below.heap_alloc w o g h.lt).trans h
theorem Blk.set_ (h : Blk w g t cs) (i : Nat) (u : Value) : Blk (w.setCell ⟨g, i, none⟩ u) g t (cs.setIfInBounds i u) := by
  unfold Blk at h ⊢
  simp [World.setCell, Array.getElem?_modify, h]
theorem Blk.far (h : Blk w g t cs) {p : Addr} (hp : g ≠ p.block) (u : Value) : Blk (w.setCell p u) g t cs := (Below.heap_setCell w p u g hp).trans h
theorem Blk.below {B : Nat} (h : Blk w g t cs) (hb : Below B w w') (hg : g < B) : Blk w' g t cs := (hb.block g hg).trans h
end

theorem Blk.has {w : World} {g : Nat} {t : TypeId} {cs : Array Value} (h : Blk w g t cs) (j : Nat) (hj : j < cs.size) : w.cell? ⟨g, j, none⟩ = some (cs.getD j undef) := by
  rw [h.cell, Array.getD_eq_getD_getElem?, Array.getElem?_eq_getElem hj]; rfl

/-- the first k elements are laid -/
def Laid {α : Type} (f : α → List Value) (size : Nat) (l : List α) (k n : Nat) (w : World) (g : Nat) (t : TypeId) : Prop :=
  ∃ cur : Array Value, Blk w g t cur ∧ cur.size = n * size ∧ ∀ j, j < k * size → cur[j]? = (l.flatMap f)[j]?

theorem Laid.below {α : Type} {f : α → List Value} {size : Nat} {l : List α} {k n : Nat} {w w' : World} {g B : Nat} {t : TypeId} (h : Laid f size l k n w g t) (hb : Below B w w') (hg : g < B) : Laid f size l k n w' g t := by
  obtain ⟨cur, h1, h2, h3⟩ := h
  exact ⟨cur, h1.below hb hg, h2, h3⟩

theorem Laid.start {α : Type} (f : α → List Value) (size : Nat) (l : List α) (n : Nat) {w : World} {g : Nat} {t : TypeId} {base : Nat} {v : List Value} (h : w.ownsRow base t size (.slice (some ⟨g, 0, none⟩) n n) n v) : Laid f size l 0 n w g t := by
  obtain ⟨_, h2⟩ := h
  rcases h2 with ⟨h, _⟩ | ⟨g', cap, cur, e, _, hg, _, _, hsz, _⟩
  · cases h
  · simp only [Value.slice.injEq, Option.some.injEq, Addr.mk.injEq, true_and, and_true] at e
    obtain ⟨rfl, rfl⟩ := e
    exact ⟨cur, hg, hsz, fun j hj => absurd hj (by omega)⟩

theorem Laid.next {α : Type} {f : α → List Value} {size : Nat} {l : List α} {k n : Nat} {w : World} {g : Nat} {t : TypeId} {cur : Array Value} {x : α} (hf : ∀ x, (f x).length = size) (hk : l[k]? = some x)
    (h1 : Blk w g t cur) (h2 : cur.size = n * size) (h3 : ∀ j, j < k * size → cur[j]? = (l.flatMap f)[j]?) (h4 : ∀ j, j < size → cur[k * size + j]? = (f x)[j]?) : Laid f size l (k + 1) n w g t := by
  refine ⟨cur, h1, h2, fun j hj => ?_⟩
  rcases Nat.lt_or_ge j (k * size) with h | h
  · exact h3 j h
  · obtain ⟨r, rfl⟩ := Nat.exists_eq_add_of_le h
    have hr : r < size := by rw [Nat.succ_mul] at hj; omega
    rw [h4 r hr, flat_at f size l (fun x _ => hf x) k r x hk hr]

theorem Laid.done {α : Type} {f : α → List Value} {size : Nat} {l : List α} {n : Nat} {w : World} {g base : Nat} {t : TypeId} (hf : ∀ x, (f x).length = size) (hl : l.length = n) (hn : n ≤ maxLen) (hb : base ≤ g) (h : Laid f size l n n w g t) :
    w.ownsRow base t size (.slice (some ⟨g, 0, none⟩) n n) n (l.flatMap f) := by
  obtain ⟨cur, h1, h2, h3⟩ := h
  have hfl : (l.flatMap f).length = n * size := by rw [flat_len f size l (fun x _ => hf x), hl]
  refine ⟨hfl, .inr ⟨g, n, cur, rfl, hb, h1, Nat.le_refl _, hn, h2, ?_⟩⟩
  apply List.ext_getElem?
  intro j
  rcases Nat.lt_or_ge j (n * size) with hj | hj
  · rw [List.getElem?_take, if_pos hj, ← h3 j hj]
    simp
  · rw [List.getElem?_take, if_neg (by omega), List.getElem?_eq_none (by omega)]

theorem toPeer_any (i : Int) (b : Bool) (u n : Int) (w : World) :
    Calls Try.prog 76 #[.agg #[.int .i64 i, .bool b, .int .i64 u, .int .i64 n]] w fun e w' => e = .returned (.agg #[.int .i64 i, .bool b, .int .i64 u, .int .i64 n]) ∧ Below w.heap.size w w' := by
  go_enter Try.func76, Try.ntmps76
  go_wp2
  exact bodyPost_ret (v := .agg #[.int .i64 i, .bool b, .int .i64 u, .int .i64 n]) (by simp [results, Try.results76, go_sem]) rfl ⟨rfl, (by repeat (first | exact Below.refl _ _ | assumption | refine Below.drew ?_ | refine belN ?_ _ | refine Below.alloc ?_ (by first | exact Nat.le_refl _ | (simp; done) | (simp; omega) | omega) _ | refine Below.setCell ?_ (by first | exact Nat.le_refl _ | (simp; done) | (simp; omega) | omega) _ | refine Below.trans ?_ (Below.mono (by assumption) (by first | exact Nat.le_refl _ | (simp; done) | (simp; omega) | omega))))⟩

/-- A call hands back a slice of its own that reads as l. -/
def SlOut {α : Type} (f : α → List Value) (size : Nat) (t : TypeId) (n : Nat) (l : List α) (w : World) (e : Ending) (w' : World) : Prop :=
  ∃ v, e = .returned v ∧ w'.ownsRow w.heap.size t size v n (l.flatMap f) ∧ Below w.heap.size w w'

theorem SlOut.get {α : Type} {f : α → List Value} {size : Nat} {t : TypeId} {n : Nat} {l : List α} {w w' : World} {e : Ending} (hl : l.length = n) (h : SlOut f size t n l w e w') :
    ∃ A c, e = .returned (.slice A n c) ∧ w'.ownsRow w.heap.size t size (.slice A n c) n (l.flatMap f) ∧ RdL f size w' w'.heap.size A n c l ∧ Below w.heap.size w w' := by
  obtain ⟨v, rfl, hown, hb⟩ := h
  obtain ⟨A, c, rfl, hr⟩ := Rd.of_own hown
  exact ⟨A, c, rfl, hown, ⟨hl, hr⟩, hb⟩

theorem infoPeer : (Try.prog.info? 77).map (fun i => (i.zero, i.size, i.bytes)) = some (some (.agg #[.int .i64 0, .bool false, .int .i64 0, .int .i64 0]), 4, 32) := by kernel_rfl

set_option maxHeartbeats 400000 in
theorem toPeerS_any (A : Option Addr) (n c : Nat) (l : List PeerD) (w : World) (hl : RdL peerC 4 w w.heap.size A n c l) (hn : n ≤ 1048576) :
    Calls Try.prog 60 #[.slice A n c] w (SlOut peerC 4 77 n l w) := by
  obtain ⟨i0, hi, hz0, hz1, hz2⟩ := info_parts infoPeer
  obtain ⟨w1, hrun, hown, hg⟩ := run_make_full (P := Try.prog) w w.heap.size 53 77 i0 _ 4 Try.underlying53 hi hz0 hz1 .i64 .i64 n (by rw [hz2]; omega) (by unfold maxLen; omega) (Nat.le_refl _)
  have hb1 : Below w.heap.size w w1 := (Below.refl _ _).grown hg (Nat.le_refl _) (fun k hk => by cases hk)
  have HL := Lib.hid hl
  have HO := Lib.hid (Laid.start peerC 4 l n hown)
  have HB := Lib.hid hb1
  clear hl hown hb1 hg hi hz0 hz1 hz2
  go_enter Try.func60, Try.ntmps60
  go_wp2_with fail
  clear hrun
  go_loopw [4] (fun i wr => ∃ k : Nat, k ≤ n ∧ i = .int .i64 k ∧ Below w.heap.size w wr ∧ w.heap.size < wr.heap.size ∧ Laid peerC 4 l k n wr w.heap.size 77) (fun i _ => n - (intOf i).toNat)
  case atStart =>
    obtain ⟨cur, h1, _⟩ := HO.out
    exact ⟨0, by omega, rfl, HB.out, h1.lt, HO.out⟩
  case round =>
    obtain ⟨k, hk, rfl, hb, hz, cur, h1, h2, h3⟩ := hrel
    have H1 := Lib.hid h1; have H2 := Lib.hid h2; have H3 := Lib.hid h3
    clear h1 h2 h3
    by_cases hkn : k < n
    · obtain ⟨b, off, p, rfl, hb1, hp, c0, c1, c2, c3⟩ := peer_cells (HL.out.below hb (Nat.le_refl _)) hkn
      have HP := Lib.hid hp; clear hp
      have hsz : k * 4 + 4 ≤ cur.size := by rw [H2.out]; have := Nat.mul_le_mul_right 4 hkn; omega
      go_wp2_with (go_at_call 76; (with_reducible refine (toPeer_any _ _ _ _ _).mono ?_); rintro e w2 ⟨rfl, hb2⟩; have HQ := Lib.hid (H1.out.below hb2 hz); have q0 := HQ.out.has (k * 4) (by omega); have q1 := HQ.out.has (k * 4 + 1) (by omega); have q2 := HQ.out.has (k * 4 + 2) (by omega); have q3 := HQ.out.has (k * 4 + 3) (by omega); have qf := HQ.out.frozen)
      have hz2 := hb2.size
      go_roundw
      case rel => exact ⟨k + 1, by omega, by go_num, ((((hb.trans (hb2.mono (Nat.le_of_lt hz))).setCell (Nat.le_refl _) _).setCell (Nat.le_refl _) _).setCell (Nat.le_refl _) _).setCell (Nat.le_refl _) _, by simp; omega,
        Laid.next peerC_len HP.out ((((HQ.out.set_ _ _).set_ _ _).set_ _ _).set_ _ _) (by simpa using H2.out) (fun j hj => by simp [Array.getElem?_setIfInBounds]; rw [if_neg (by omega), if_neg (by omega), if_neg (by omega), if_neg (by omega)]; exact H3.out j hj)
          (fun j hj => by rcases (by omega : j = 0 ∨ j = 1 ∨ j = 2 ∨ j = 3) with rfl | rfl | rfl | rfl <;> simp [Array.getElem?_setIfInBounds, peerC] <;> omega)⟩
      case measure => simp [intOf]; omega
    · obtain rfl : k = n := by omega
      go_wp2
      go_ret
      exact ⟨_, rfl, Laid.done peerC_len HL.out.1 (by unfold maxLen; omega) (Nat.le_refl _) ⟨cur, H1.out, H2.out, H3.out⟩, hb⟩
end Go.Proofs.Ytpfppkjikkihfaa
