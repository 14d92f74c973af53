/- The family of small functions on Store. -/
import Derived.Test.YtjdknaipmboekaaDoorMkHeader
import Derived.Test.YtjdknaipmboekaaDoorStoreOk
import Derived.WalkKit
import Derived.WalkSpells
import Derived.WalkLawsBesides
import Derived.Lib.Hide
namespace Go.Proofs.YtjdknaipmboekaaDoor
open Go.RowKit

theorem list6 {l : List Value} (h : l.length = 6) : ∃ c0 c1 c2 c3 c4 c5, l = [c0, c1, c2, c3, c4, c5] := by
  match l, h with
  | [c0, c1, c2, c3, c4, c5], _ => exact ⟨c0, c1, c2, c3, c4, c5, rfl⟩
theorem StoreOk_ok (y : Int) (A : Option Addr) (n c : Nat) (l : List HeaderD) (w : World) (hl : RdL headC 6 w w.heap.size A n c l) (ht : Tab w) :
    Calls Tryd.prog 13 #[.agg #[.slice A n c, .int .i64 y]] w fun e w' => e = .returned (.bool (storeB l y)) ∧ Below w.heap.size w w' := StoreOk_any A n c l y w hl ht
theorem sStoreOk_ok (y : Int) (A : Option Addr) (n c : Nat) (l : List HeaderD) (w : World) (hl : RdL headC 6 w w.heap.size A n c l) :
    Calls Tryd.prog 11 #[.agg #[.slice A n c, .int .i64 y]] w fun e w' => e = .returned (.bool (storeB l y)) ∧ Below w.heap.size w w' := sStoreOk_any A n c l y w hl

set_option maxHeartbeats 1000000 in
theorem szStore_any (y : Int) (A : Option Addr) (n c : Nat) (left : Int) (l : List HeaderD) (w : World) (hl : RdL headC 6 w w.heap.size A n c l) (hs : ∀ x ∈ l, x.last.size ≤ maxLen ∧ x.vals.size ≤ maxLen ∧ x.next.size ≤ maxLen ∧ x.data.size ≤ maxLen) (h0 : 0 ≤ left) (h1 : left ≤ 1048576) :
    Calls Tryd.prog 10 #[.agg #[.slice A n c, .int .i64 y], .int .i64 left] w (SzOut n left w) := by
  have HL := Lib.hid hl
  have HS := Lib.hid hs
  clear hl hs
  go_enter Tryd.func10, Tryd.ntmps10
  go_wp2_with fail
  refine (szHeaderS_any A n c left l _ ((HL.out.alloc (Nat.le_refl _) _).more (by rw [World.size_alloc]; omega)) HS.out h0 h1).mono ?_
  rintro e w3 ⟨x, rfl, hx1, hx2, hx3, hb3⟩
  have HB : Hid (Below w.heap.size w w3) := ((Below.refl _ _).alloc (Nat.le_refl _) _).trans (hb3.mono (by rw [World.size_alloc]; omega))
  clear hb3
  by_cases hx : x < 0
  · go_wp2
    go_ret
    exact ⟨-1, rfl, by omega, by omega, by omega, HB.out⟩
  · go_wp2
    go_ret
    exact ⟨x, rfl, by omega, by omega, by omega, HB.out⟩

/-- A store handed back: its headers in a slice of the call's own. -/
def StoreOut (y : Int) (l : List HeaderD) (w : World) (e : Ending) (w' : World) : Prop :=
  ∃ A n c, e = .returned (.agg #[.slice A n c, .int .i64 y]) ∧ OwnL headC 6 34 w' w.heap.size w'.heap.size A n c l ∧ Below w.heap.size w w'
/-- A store and one more value handed back. -/
def StoreOutK (y : Int) (l : List HeaderD) (k : Value) (w : World) (e : Ending) (w' : World) : Prop :=
  ∃ A c, e = .returned (.tuple #[.agg #[.slice A l.length c, .int .i64 y], k]) ∧ OwnL headC 6 34 w' w.heap.size w'.heap.size A l.length c l ∧ Below w.heap.size w w'

set_option maxHeartbeats 1000000 in
theorem toStore_any (y : Int) (A : Option Addr) (n c : Nat) (l : List HeaderD) (w : World) (hl : RdL headC 6 w w.heap.size A n c l) (hn : n ≤ 1048576) :
    Calls Tryd.prog 12 #[.agg #[.slice A n c, .int .i64 y]] w (StoreOut y l w) := by
  have HL := Lib.hid hl
  clear hl
  go_enter Tryd.func12, Tryd.ntmps12
  go_wp2_with fail
  refine (toHeaderS_any A n c l _ (by refine (HL.out.below (B' := w.heap.size) ?_ (Nat.le_refl _)).more (by simp; omega); (repeat (first | with_reducible refine Below.setCell ?_ (by first | exact Nat.le_refl _ | (simp; done) | (simp; omega)) _ | with_reducible refine Below.alloc ?_ (by first | exact Nat.le_refl _ | (simp; done) | (simp; omega)) _ | with_reducible refine Below.drew ?_)); (with_reducible exact Below.refl _ _)) hn).mono ?_
  intro e w3 h
  obtain ⟨A1, c1, rfl, hown, hr, hb3⟩ := h.get HL.out.1
  obtain ⟨hc3, hf3, hz3⟩ := bcell hb3
  have hw : w.heap.size + 3 ≤ w3.heap.size := by simp at hz3; omega
  have hw0 : w.heap.size < w3.heap.size := by omega
  have hw1 : w.heap.size + 1 < w3.heap.size := by omega
  have hw2 : w.heap.size + 1 + 1 < w3.heap.size := by omega
  have HB3 : Hid (Below w.heap.size w w3) := by
    refine Below.trans ?_ (Below.mono hb3 (by simp; omega))
    (repeat (first | with_reducible refine Below.setCell ?_ (by first | exact Nat.le_refl _ | (simp; done) | (simp; omega)) _ | with_reducible refine Below.alloc ?_ (by first | exact Nat.le_refl _ | (simp; done) | (simp; omega)) _ | with_reducible refine Below.drew ?_)); (with_reducible exact Below.refl _ _)
  have HO := Lib.hid hown
  clear hown hr h
  go_wp2
  refine bodyPost_ret (v := .agg #[.slice A1 n c1, .int .i64 y]) (by simp [results, Tryd.results12, go_sem, hc3]) rfl ⟨A1, n, c1, rfl, ?_, ?_⟩
  · have h0 := HO.out
    simp only [World.size_alloc] at h0
    obtain ⟨A2, c2, he, ho⟩ := OwnL.of_own HL.out.1 h0
    simp only [Value.slice.injEq, true_and] at he
    obtain ⟨rfl, rfl⟩ := he
    refine ((ho.chg (lo' := w.heap.size) (hi' := w.heap.size + 3) ?_ (.inr (by omega))).wide (by omega) (by simp))
    (repeat (first | with_reducible refine Chg.setCell ?_ (by first | exact Nat.le_refl _ | (simp; done) | (simp; omega)) (by first | (simp; done) | (simp; omega)) _ | with_reducible refine Chg.alloc ?_ _ | with_reducible refine Chg.drew ?_)); (with_reducible exact Chg.refl _ _ _)
  · (repeat (first | with_reducible refine Below.setCell ?_ (by first | exact Nat.le_refl _ | (simp; done) | (simp; omega)) _ | with_reducible refine Below.alloc ?_ (by first | exact Nat.le_refl _ | (simp; done) | (simp; omega)) _ | with_reducible refine Below.drew ?_)); (with_reducible exact HB3.out)
set_option maxHeartbeats 1000000 in
theorem eqStore_same (y : Int) (A : Option Addr) (n c : Nat) (A' : Option Addr) (c' : Nat) (l : List HeaderD) (w : World) (hl : RdL headC 6 w w.heap.size A n c l) (hl' : RdL headC 6 w w.heap.size A' n c' l) :
    Calls Tryd.prog 14 #[.agg #[.slice A n c, .int .i64 y], .agg #[.slice A' n c', .int .i64 y]] w fun e w' => e = .returned (.bool true) ∧ Below w.heap.size w w' := by
  have HL := Lib.hid hl
  have HL' := Lib.hid hl'
  clear hl hl'
  go_enter Tryd.func14, Tryd.ntmps14
  go_wp2_with fail
  refine (eqHeaderS_same _ _ _ _ _ l _ (by refine (HL.out.below (B' := w.heap.size) ?_ (Nat.le_refl _)).more (by simp; omega); (repeat (first | with_reducible refine Below.setCell ?_ (by first | exact Nat.le_refl _ | (simp; done) | (simp; omega)) _ | with_reducible refine Below.alloc ?_ (by first | exact Nat.le_refl _ | (simp; done) | (simp; omega)) _ | with_reducible refine Below.drew ?_)); (with_reducible exact Below.refl _ _)) (by refine (HL'.out.below (B' := w.heap.size) ?_ (Nat.le_refl _)).more (by simp; omega); (repeat (first | with_reducible refine Below.setCell ?_ (by first | exact Nat.le_refl _ | (simp; done) | (simp; omega)) _ | with_reducible refine Below.alloc ?_ (by first | exact Nat.le_refl _ | (simp; done) | (simp; omega)) _ | with_reducible refine Below.drew ?_)); (with_reducible exact Below.refl _ _))).mono ?_
  rintro e w3 ⟨rfl, hb3⟩
  obtain ⟨hc3, hf3, hz3⟩ := bcell hb3
  have hw : w.heap.size + 2 ≤ w3.heap.size := by simp at hz3; omega
  have hw0 : w.heap.size < w3.heap.size := by omega
  have hw1 : w.heap.size + 1 < w3.heap.size := by omega
  have HB3 : Hid (Below w.heap.size w w3) := by
    refine Below.trans ?_ (Below.mono hb3 (by simp; omega))
    (repeat (first | with_reducible refine Below.setCell ?_ (by first | exact Nat.le_refl _ | (simp; done) | (simp; omega)) _ | with_reducible refine Below.alloc ?_ (by first | exact Nat.le_refl _ | (simp; done) | (simp; omega)) _ | with_reducible refine Below.drew ?_)); (with_reducible exact Below.refl _ _)
  go_wp2
  go_ret
  exact ⟨rfl, HB3.out⟩
theorem markStore_any (s : Int) (A : Option Addr) (n c : Nat) (l : List HeaderD) (lo hi k : Nat) (w : World) (hl : OwnL headC 6 34 w lo hi A n c l) (hw : hi ≤ w.heap.size) (hk0 : 0 < k) (hn : n ≤ 2097152) (hk : k ≤ 100000000) :
    Calls Tryd.prog 20 #[.agg #[.slice A n c, .int .i64 s], .int .i64 k] w (MarkOut headC 6 34 lo hi A n c (marksHeader k n) ((k + n * 6 : Nat) : Int) w) := by
  have HL := Lib.hid hl
  clear hl
  go_enter Tryd.func20, Tryd.ntmps20
  go_wp2_with fail
  refine (markHeaderS_any 34 A n c l lo hi k _ (HL.out.below ((Below.refl _ _).alloc (Nat.le_refl _) _) hw) hk0 hn hk).mono ?_
  rintro e w1 ⟨rfl, ho, hc⟩
  have HO := Lib.hid ho
  clear ho
  obtain ⟨q, hq⟩ : ∃ q, q = k + n * 6 := ⟨_, rfl⟩
  have hq1 : q ≤ 1000000000 := by omega
  rw [← hq]
  have HQ := Lib.hid hq
  clear hq
  go_wp2
  go_ret
  exact ⟨by rw [HQ.out]; rfl, HO.out, (Chg.of_below ((Below.refl _ _).alloc (Nat.le_refl _) _)).trans hc⟩
theorem heldStore_any (s : Int) (A : Option Addr) (n c : Nat) (k : Nat) (w : World) (hl : RdL headC 6 w w.heap.size A n c (marksHeader k n)) (hk0 : 0 < k) (hn : n ≤ 2097152) (hk : k ≤ 100000000) :
    Calls Tryd.prog 21 #[.agg #[.slice A n c, .int .i64 s], .int .i64 k] w fun e w' => e = .returned (.int .i64 ((k + n * 6 : Nat) : Int)) ∧ Below w.heap.size w w' := by
  have HL := Lib.hid hl
  clear hl
  obtain ⟨q, hq⟩ : ∃ q, q = k + n * 6 := ⟨_, rfl⟩
  have hq1 : q ≤ 1000000000 := by omega
  have HQ := Lib.hid hq
  clear hq
  go_enter Tryd.func21, Tryd.ntmps21
  go_wp2_with fail
  refine (heldHeaderS_any A n c k _ ((HL.out.alloc (Nat.le_refl _) _).more (by simp)) hk0 hn hk).mono ?_
  rw [← HQ.out]
  rintro e w1 ⟨rfl, hb⟩
  go_wp2
  go_ret
  exact ⟨by rw [HQ.out]; rfl, ((Below.refl _ _).alloc (Nat.le_refl _) _).trans (hb.mono (by simp))⟩
end Go.Proofs.YtjdknaipmboekaaDoor
