/- Writes to blocks from lo to hi alone: what a law's marks do to memory; rows that were marked; markText. -/
import Derived.Test.YtelnnegfkdfpiaaGreatDoorM
import Derived.Test.YtelnnegfkdfpiaaGreatDoorBytes
import Derived.WalkKit
import Derived.WalkSpells
import Derived.WalkLawsBesides
import Derived.Lib.Hide
namespace Go.Proofs.YtelnnegfkdfpiaaGreatDoor
open Go.RowKit

/-- From a to b nothing old has changed but blocks from lo up to hi. -/
structure Chg (lo hi : Nat) (a b : World) : Prop where
  os : b.os = a.os
  tape : b.tape = a.tape
  output : b.output = a.output
  size : a.heap.size ≤ b.heap.size
  block : ∀ k, k < a.heap.size → (k < lo ∨ hi ≤ k) → b.heap[k]? = a.heap[k]?

section
variable {lo hi B : Nat} {a b c w w' : World}
theorem Chg.refl (lo hi : Nat) (w : World) : Chg lo hi w w := ⟨rfl, rfl, rfl, Nat.le_refl _, fun _ _ _ => rfl⟩
theorem Chg.trans (h : Chg lo hi a b) (k : Chg lo hi b c) : Chg lo hi a c :=
  ⟨k.os.trans h.os, k.tape.trans h.tape, k.output.trans h.output, Nat.le_trans h.size k.size, fun i hi' hs => (k.block i (Nat.lt_of_lt_of_le hi' h.size) hs).trans (h.block i hi' hs)⟩
theorem Chg.of_below (h : Below a.heap.size a b) : Chg lo hi a b := ⟨h.os, h.tape, h.output, h.size, fun i hi' _ => h.block i hi'⟩
theorem Chg.below_trans (h : Chg lo hi a b) (k : Below b.heap.size b c) : Chg lo hi a c := h.trans (Chg.of_below k)
theorem Chg.drewN (h : Chg lo hi a b) (n : Nat) : Chg lo hi a (b.drewN n) := ⟨h.os, h.tape, h.output, h.size, h.block⟩
theorem Chg.drew (h : Chg lo hi a b) : Chg lo hi a b.drew := ⟨h.os, h.tape, h.output, h.size, h.block⟩
theorem Chg.alloc (h : Chg lo hi a b) (o : Obj) : Chg lo hi a (b.alloc o) :=
  h.trans (Chg.of_below ((Below.refl _ _).alloc (Nat.le_refl _) o))
theorem Chg.setCell (h : Chg lo hi a b) {p : Addr} (h1 : lo ≤ p.block) (h2 : p.block < hi) (u : Value) : Chg lo hi a (b.setCell p u) := by
  refine ⟨h.os, h.tape, h.output, ?_, fun k hk hs => ?_⟩
  · have := ((Below.refl 0 b).setCell (Nat.zero_le _) (p := p) u).size
    exact Nat.le_trans h.size this
  · rw [Below.heap_setCell b p u k (by omega)]; exact h.block k hk hs
theorem Chg.below (h : Chg lo hi a b) (hB : B ≤ lo) (hs : B ≤ a.heap.size) : Below B a b :=
  ⟨h.os, h.tape, h.output, h.size, fun k hk => h.block k (by omega) (.inl (by omega))⟩
theorem Chg.wide {lo' hi' : Nat} (h : Chg lo hi a b) (h1 : lo' ≤ lo) (h2 : hi ≤ hi') : Chg lo' hi' a b :=
  ⟨h.os, h.tape, h.output, h.size, fun k hk hs => h.block k hk (by omega)⟩
theorem Chg.cell (h : Chg lo hi a b) {k o : Nat} (hk : k < a.heap.size) (hs : k < lo ∨ hi ≤ k) : b.cell? ⟨k, o, none⟩ = a.cell? ⟨k, o, none⟩ :=
  World.cell?_of_block (w := a) (a := ⟨k, o, none⟩) (h.block k hk hs)
theorem Chg.frozen (h : Chg lo hi a b) {k o : Nat} (hk : k < a.heap.size) (hs : k < lo ∨ hi ≤ k) : b.frozen? ⟨k, o, none⟩ = a.frozen? ⟨k, o, none⟩ :=
  World.frozen?_of_block (w := a) (a := ⟨k, o, none⟩) (h.block k hk hs)
end
/-- the two rules of a walk behind marks -/
theorem chgcell {lo hi : Nat} {a b : World} (h : Chg lo hi a b) (hl : lo ≤ a.heap.size) :
    (∀ k o, k < lo → b.cell? ⟨k, o, none⟩ = a.cell? ⟨k, o, none⟩) ∧ (∀ k o, hi ≤ k → k < a.heap.size → b.cell? ⟨k, o, none⟩ = a.cell? ⟨k, o, none⟩) ∧ a.heap.size ≤ b.heap.size :=
  ⟨fun _ _ hk => h.cell (by omega) (.inl hk), fun _ _ h1 h2 => h.cell h2 (.inr h1), h.size⟩

theorem cell_alloc3 (w : World) : ∀ (o1 o2 o3 : Obj) (i : Nat), (((w.alloc o1).alloc o2).alloc o3).cell? ⟨w.heap.size, i, none⟩ = (w.alloc o1).cell? ⟨w.heap.size, i, none⟩ := fun o1 o2 o3 i => by
  rw [World.cell?_alloc_lt _ _ _ (by show w.heap.size < _; simp; omega), World.cell?_alloc_lt _ _ _ (by show w.heap.size < _; simp)]
theorem frozen_alloc3 (w : World) (o1 o2 o3 : Obj) (i : Nat) : (((w.alloc o1).alloc o2).alloc o3).frozen? ⟨w.heap.size, i, none⟩ = (w.alloc o1).frozen? ⟨w.heap.size, i, none⟩ := by
  have hb : Below (w.heap.size + 1) (w.alloc o1) (((w.alloc o1).alloc o2).alloc o3) := ((Below.refl _ _).alloc (by simp) _).alloc (by simp) _
  exact hb.frozen (p := ⟨w.heap.size, i, none⟩) (by show w.heap.size < w.heap.size + 1; omega)
theorem cell_alloc3b (w : World) : ∀ (o1 o2 o3 : Obj) (i : Nat), (((w.alloc o1).alloc o2).alloc o3).cell? ⟨w.heap.size + 1, i, none⟩ = ((w.alloc o1).alloc o2).cell? ⟨w.heap.size + 1, i, none⟩ := fun o1 o2 o3 i => by
  rw [World.cell?_alloc_lt _ _ _ (by show w.heap.size + 1 < _; simp)]
theorem frozen_alloc3b (w : World) (o1 o2 o3 : Obj) (i : Nat) : (((w.alloc o1).alloc o2).alloc o3).frozen? ⟨w.heap.size + 1, i, none⟩ = ((w.alloc o1).alloc o2).frozen? ⟨w.heap.size + 1, i, none⟩ := by
  have hb : Below (w.heap.size + 2) ((w.alloc o1).alloc o2) (((w.alloc o1).alloc o2).alloc o3) := (Below.refl _ _).alloc (by simp) _
  exact hb.frozen (p := ⟨w.heap.size + 1, i, none⟩) (by show w.heap.size + 1 < w.heap.size + 2; omega)
theorem blk_alloc3 (w : World) (o1 o2 : Obj) (cs : Array Value) (t : TypeId) : Blk (((w.alloc o1).alloc o2).alloc (.cells cs t)) (w.heap.size + 1 + 1) t cs := by
  have h := heap_alloc_new ((w.alloc o1).alloc o2) (.cells cs t)
  rw [World.size_alloc, World.size_alloc] at h
  exact h
theorem bcellR {B : Nat} {W w1 : World} (hb : Below B W w1) : (∀ b o, b < B → w1.cell? ⟨b, o, none⟩ = W.cell? ⟨b, o, none⟩) ∧ (∀ b o, b < B → w1.frozen? ⟨b, o, none⟩ = W.frozen? ⟨b, o, none⟩) ∧ W.heap.size ≤ w1.heap.size :=
  ⟨fun b o h => hb.cell (p := ⟨b, o, none⟩) h, fun b o h => hb.frozen (p := ⟨b, o, none⟩) h, hb.size⟩

/-- a row of one's own, in blocks from lo up to hi, that reads as l -/
def OwnL {α : Type} (f : α → List Value) (size : Nat) (t : TypeId) (w : World) (lo hi : Nat) (A : Option Addr) (n c : Nat) (l : List α) : Prop :=
  l.length = n ∧ ((n = 0 ∧ A = none ∧ c = 0) ∨ ∃ g cur, A = some ⟨g, 0, none⟩ ∧ lo ≤ g ∧ g < hi ∧ Blk w g t cur ∧ n ≤ c ∧ c ≤ maxLen ∧ cur.size = c * size ∧ ∀ j, j < n * size → cur[j]? = (l.flatMap f)[j]?)

section
variable {α : Type} {f : α → List Value} {size : Nat} {t : TypeId} {w w' : World} {lo hi lo' hi' B : Nat} {A : Option Addr} {n c : Nat} {l : List α}
theorem OwnL.of_own {v : Value} (hl : l.length = n) (h : w.ownsRow lo t size v n (l.flatMap f)) : ∃ A c, v = .slice A n c ∧ OwnL f size t w lo w.heap.size A n c l := by
  obtain ⟨h1, h2⟩ := h
  rcases h2 with ⟨rfl, hx⟩ | ⟨g, cap, cur, rfl, hbase, hg, hnc, hcm, hsz, htk⟩
  · exact ⟨none, 0, by rw [hx], hl, .inl ⟨hx, rfl, rfl⟩⟩
  · refine ⟨some ⟨g, 0, none⟩, cap, rfl, hl, .inr ⟨g, cur, rfl, hbase, Blk.lt hg, hg, hnc, hcm, hsz, fun j hj => ?_⟩⟩
    rw [← htk, List.getElem?_take, if_pos hj]
    simp
theorem OwnL.wide (h : OwnL f size t w lo hi A n c l) (h1 : lo' ≤ lo) (h2 : hi ≤ hi') : OwnL f size t w lo' hi' A n c l := by
  obtain ⟨hl, h | ⟨g, cur, a, b, d, e⟩⟩ := h
  · exact ⟨hl, .inl h⟩
  · exact ⟨hl, .inr ⟨g, cur, a, by omega, by omega, e⟩⟩
theorem OwnL.below (h : OwnL f size t w lo hi A n c l) (hb : Below B w w') (hB : hi ≤ B) : OwnL f size t w' lo hi A n c l := by
  obtain ⟨hl, h | ⟨g, cur, a, b, d, e, e'⟩⟩ := h
  · exact ⟨hl, .inl h⟩
  · exact ⟨hl, .inr ⟨g, cur, a, b, d, e.below hb (by omega), e'⟩⟩
theorem OwnL.chg (h : OwnL f size t w lo hi A n c l) (hb : Chg lo' hi' w w') (hB : hi ≤ lo' ∨ hi' ≤ lo) : OwnL f size t w' lo hi A n c l := by
  obtain ⟨hl, h | ⟨g, cur, a, b, d, e, e'⟩⟩ := h
  · exact ⟨hl, .inl h⟩
  · exact ⟨hl, .inr ⟨g, cur, a, b, d, (hb.block g e.lt (by omega)).trans e, e'⟩⟩
theorem OwnL.rd (hf : ∀ x, (f x).length = size) (h : OwnL f size t w lo hi A n c l) : RdL f size w hi A n c l := by
  obtain ⟨hl, h | ⟨g, cur, rfl, b, d, e, h1, h2, h3, h4⟩⟩ := h
  · obtain ⟨rfl, rfl, rfl⟩ := h
    have : l = [] := List.length_eq_zero_iff.1 hl
    subst this
    exact ⟨rfl, Rd.nil _ _ _⟩
  · refine ⟨hl, by rw [flat_len f size l (fun x _ => hf x), hl], h1, h2, fun hn => ⟨g, 0, rfl, d, fun j hj => ?_⟩⟩
    rw [Nat.zero_add, e.cell, h4 j hj]
end

/-- what a mark leaves -/
def MarkOut {α : Type} (f : α → List Value) (size : Nat) (t : TypeId) (lo hi : Nat) (A : Option Addr) (n c : Nat) (l : List α) (r : Int) (w : World) (e : Ending) (w' : World) : Prop :=
  e = .returned (.int .i64 r) ∧ OwnL f size t w' lo hi A n c l ∧ Chg lo hi w w'
/-- what a count of sizes leaves -/
def SzOut (n : Nat) (left : Int) (w : World) (e : Ending) (w' : World) : Prop :=
  ∃ r : Int, e = .returned (.int .i64 r) ∧ (0 ≤ r → (n : Int) ≤ left) ∧ -1 ≤ r ∧ r ≤ left ∧ Below w.heap.size w w'

/-- the digits of a number, behind what is there -/
def decT (k : Nat) (acc : List UInt8) : List UInt8 := if h : k = 0 then acc else decT (k / 10) (UInt8.ofNat (48 + k % 10) :: acc)
termination_by k
decreasing_by omega
def markT (k : Nat) : ByteArray := ⟨(109 :: decT k []).toArray⟩
theorem decT_step (k : Nat) (acc : List UInt8) (h : 0 < k) : decT k acc = decT (k / 10) (UInt8.ofNat (48 + k % 10) :: acc) := by
  rw [decT, dif_neg (by omega)]
theorem decT_zero (acc : List UInt8) : decT 0 acc = acc := by rw [decT]; simp

set_option maxHeartbeats 800000 in
theorem markText_any (k : Nat) (w : World) (h0 : 0 < k) (h1 : k ≤ 1000000010) :
    Calls Tryz.prog 87 #[.int .i64 k] w fun e w' => e = .returned (.string (markT k)) ∧ Below w.heap.size w w' := by
  go_enter Tryz.func87, Tryz.ntmps87
  go_wp2_with fail
  go_loopw [0, 3] (fun m o wr => ∃ (q : Nat) (acc : List UInt8), m = .int .i64 q ∧ o = .string ⟨acc.toArray⟩ ∧ q * 2 ^ acc.length ≤ k ∧ acc.length ≤ 30 ∧ decT q acc = decT k [] ∧ Below w.heap.size w wr) (fun m _ _ => (intOf m).toNat)
  case atStart => exact ⟨k, [], rfl, rfl, by simp, by simp, rfl, Below.refl _ _⟩
  case round =>
    obtain ⟨q, acc, rfl, rfl, h2, h3, h4, hb⟩ := hrel
    have hz := hb.size
    have HD := Lib.hid h4; clear h4
    have hq : q ≤ 1000000010 := by
      have := Nat.le_mul_of_pos_right q (show 0 < 2 ^ acc.length from Nat.two_pow_pos _)
      omega
    have HP := Lib.hid h2; clear h2
    by_cases hq0 : 0 < q
    · have kc : ∀ w, _ := fun w => conv1 w (48 + (q : Int) % 10) (by omega) (by omega)
      have hl30 : acc.length < 30 := by
        have h5 := HP.out
        have h6 : 2 ^ acc.length ≤ q * 2 ^ acc.length := Nat.le_mul_of_pos_left _ hq0
        rcases Nat.lt_or_ge acc.length 30 with h | h
        · exact h
        · have : 2 ^ 30 ≤ 2 ^ acc.length := Nat.pow_le_pow_right (by decide) h
          have : (2 : Nat) ^ 30 = 1073741824 := by decide
          omega
      go_wp2
      go_roundw
      case rel =>
        refine ⟨q / 10, UInt8.ofNat (48 + q % 10) :: acc, by go_num, ?_, ?_, by simp; omega, (decT_step q acc hq0).symm.trans HD.out, (by repeat (first | exact Below.refl _ _ | assumption | refine Below.drew ?_ | refine belN ?_ _ | refine Below.alloc ?_ (by first | exact Nat.le_refl _ | (simp; done) | (simp; omega) | omega) _ | refine Below.setCell ?_ (by first | exact Nat.le_refl _ | (simp; done) | (simp; omega) | omega) _ | refine Below.trans ?_ (Below.mono (by assumption) (by first | exact Nat.le_refl _ | (simp; done) | (simp; omega) | omega))))⟩
        · rw [show (48 : UInt8) + UInt8.ofNat (q % 10) = UInt8.ofNat (48 + q % 10) from by simp]
          exact congrArg Value.string (bcat [_] acc)
        · refine Nat.le_trans ?_ HP.out
          rw [List.length_cons, Nat.pow_succ, Nat.mul_comm (2 ^ acc.length) 2, ← Nat.mul_assoc]
          exact Nat.mul_le_mul_right _ (by omega)
      case measure => simp [intOf]; omega
    · obtain rfl : q = 0 := by omega
      go_wp2
      go_ret
      refine ⟨?_, hb⟩
      have h5 := HD.out
      rw [decT_zero] at h5
      unfold markT
      rw [← h5]
      exact congrArg (fun x => Ending.returned (Value.string x)) (bcat [109] acc)
theorem markText_at (x : Int) (k : Nat) (w : World) (h0 : 0 < k) (h1 : k ≤ 1000000010) (hx : x = k) :
    Calls Tryz.prog 87 #[.int .i64 x] w fun e w' => e = .returned (.string (markT k)) ∧ Below w.heap.size w w' := by
  subst hx; exact markText_any k w h0 h1
end Go.Proofs.YtelnnegfkdfpiaaGreatDoor
