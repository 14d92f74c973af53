/- The family of small functions on Commit; marks in anchors. -/
import Derived.Test.YtelnnegfkdfpiaaGreatDoorVerPure
import Derived.Test.YtelnnegfkdfpiaaGreatDoorMkCSig
import Derived.Test.YtelnnegfkdfpiaaGreatDoorMkVal
import Derived.Test.YtelnnegfkdfpiaaGreatDoorAnchorFam
import Derived.WalkKit
import Derived.WalkSpells
import Derived.WalkLawsBesides
import Derived.Lib.Hide
namespace Go.Proofs.YtelnnegfkdfpiaaGreatDoor
open Go.RowKit

set_option maxHeartbeats 1000000 in
theorem szCommit_any (p : ComD) (A : Option Addr) (n c : Nat) (left : Int) (l : List CSigD) (w : World) (hl : RdL csigC 2 w w.heap.size A n c l) (hs : ∀ x ∈ l, x.sig.size ≤ maxLen) (hd : p.id.size ≤ maxLen) (h0 : 0 ≤ left) (h1 : left ≤ 1048576) :
    Calls Tryz.prog 17 #[.agg #[.int .i64 p.h, .int .i64 p.r, .string p.id, .slice A n c], .int .i64 left] w (SzOut n left w) := by
  unfold maxLen at hd
  have HL := Lib.hid hl
  have HS := Lib.hid hs
  clear hl hs
  by_cases c1 : left < p.id.size
  · go_enter Tryz.func17, Tryz.ntmps17
    go_wp2_with fail
    go_ret
    exact ⟨-1, rfl, by omega, by omega, by omega, (by repeat (first | exact Below.refl _ _ | assumption | refine Below.drew ?_ | refine belN ?_ _ | refine Below.alloc ?_ (by first | exact Nat.le_refl _ | (simp; done) | (simp; omega) | omega) _ | refine Below.setCell ?_ (by first | exact Nat.le_refl _ | (simp; done) | (simp; omega) | omega) _ | refine Below.trans ?_ (Below.mono (by assumption) (by first | exact Nat.le_refl _ | (simp; done) | (simp; omega) | omega))))⟩
  go_enter Tryz.func17, Tryz.ntmps17
  go_wp2_with fail
  refine (szCSigS_any A n c (left - p.id.size) l _ ((HL.out.alloc (Nat.le_refl _) _).more (by simp)) HS.out (by omega) (by omega)).mono ?_
  rintro e w1 ⟨r, rfl, hr1, hr2, hr3, hb⟩
  have HB1 : Hid (Below w.heap.size w w1) := ((Below.refl _ _).alloc (Nat.le_refl _) _).trans (hb.mono (by rw [World.size_alloc]; omega))
  clear hb
  by_cases hr : r < 0
  · go_wp2_with fail
    go_ret
    exact ⟨-1, rfl, by omega, by omega, by omega, HB1.out⟩
  · go_wp2_with fail
    go_ret
    exact ⟨r, rfl, by omega, by omega, by omega, HB1.out⟩

/-- A commit handed back: its signatures in a slice of the call's own. -/
def ComOut (p : ComD) (l : List CSigD) (w : World) (e : Ending) (w' : World) : Prop :=
  ∃ A n c, e = .returned (.agg #[.int .i64 p.h, .int .i64 p.r, .string p.id, .slice A n c]) ∧ OwnL csigC 2 91 w' w.heap.size w'.heap.size A n c l ∧ Below w.heap.size w w'

set_option maxHeartbeats 2000000 in
theorem toCommit_any (p : ComD) (A : Option Addr) (n c : Nat) (l : List CSigD) (w : World) (hl : RdL csigC 2 w w.heap.size A n c l) (hn : n ≤ 1048576) :
    Calls Tryz.prog 22 #[.agg #[.int .i64 p.h, .int .i64 p.r, .string p.id, .slice A n c]] w (ComOut p l w) := by
  have HL := Lib.hid hl
  clear hl
  go_enter Tryz.func22, Tryz.ntmps22
  go_wp2_with fail
  refine (toCSigS_any A n c l _ (by refine (HL.out.below (B' := w.heap.size) ?_ (Nat.le_refl _)).more (by simp; omega); (repeat (first | with_reducible refine Below.setCell ?_ (by first | exact Nat.le_refl _ | (simp; done) | (simp; omega)) _ | with_reducible refine Below.alloc ?_ (by first | exact Nat.le_refl _ | (simp; done) | (simp; omega)) _ | with_reducible refine Below.drew ?_)); (with_reducible exact Below.refl _ _)) hn).mono ?_
  intro e w3 h
  obtain ⟨A1, c1, rfl, hown, hr, hb3⟩ := h.get HL.out.1
  obtain ⟨hc3, hf3, hz3⟩ := bcell hb3
  have hw : w.heap.size + 3 ≤ w3.heap.size := by simp at hz3; omega
  have hw0 : w.heap.size < w3.heap.size := by omega
  have hw1 : w.heap.size + 1 < w3.heap.size := by omega
  have hw2 : w.heap.size + 1 + 1 < w3.heap.size := by omega
  have HB3 : Hid (Below w.heap.size w w3) := by
    refine Below.trans ?_ (Below.mono hb3 (by simp; omega))
    (repeat (first | with_reducible refine Below.setCell ?_ (by first | exact Nat.le_refl _ | (simp; done) | (simp; omega)) _ | with_reducible refine Below.alloc ?_ (by first | exact Nat.le_refl _ | (simp; done) | (simp; omega)) _ | with_reducible refine Below.drew ?_)); (with_reducible exact Below.refl _ _)
  have HO := Lib.hid hown
  clear hown hr h
  go_wp2
  refine bodyPost_ret (v := .agg #[.int .i64 p.h, .int .i64 p.r, .string p.id, .slice A1 n c1]) (by simp [results, Tryz.results22, go_sem, hc3]) rfl ⟨A1, n, c1, rfl, ?_, ?_⟩
  · have h0 := HO.out
    simp only [World.size_alloc] at h0
    obtain ⟨A2, c2, he, ho⟩ := OwnL.of_own HL.out.1 h0
    simp only [Value.slice.injEq, true_and] at he
    obtain ⟨rfl, rfl⟩ := he
    refine ((ho.chg (lo' := w.heap.size) (hi' := w.heap.size + 3) ?_ (.inr (by omega))).wide (by omega) (by simp))
    (repeat (first | with_reducible refine Chg.setCell ?_ (by first | exact Nat.le_refl _ | (simp; done) | (simp; omega)) (by first | (simp; done) | (simp; omega)) _ | with_reducible refine Chg.alloc ?_ _ | with_reducible refine Chg.drew ?_)); (with_reducible exact Chg.refl _ _ _)
  · (repeat (first | with_reducible refine Below.setCell ?_ (by first | exact Nat.le_refl _ | (simp; done) | (simp; omega)) _ | with_reducible refine Below.alloc ?_ (by first | exact Nat.le_refl _ | (simp; done) | (simp; omega)) _ | with_reducible refine Below.drew ?_)); (with_reducible exact HB3.out)
set_option maxHeartbeats 1000000 in
theorem eqCommit_same (p : ComD) (A : Option Addr) (n c : Nat) (A' : Option Addr) (c' : Nat) (l : List CSigD) (w : World) (hl : RdL csigC 2 w w.heap.size A n c l) (hl' : RdL csigC 2 w w.heap.size A' n c' l) :
    Calls Tryz.prog 25 #[.agg #[.int .i64 p.h, .int .i64 p.r, .string p.id, .slice A n c], .agg #[.int .i64 p.h, .int .i64 p.r, .string p.id, .slice A' n c']] w fun e w' => e = .returned (.bool true) ∧ Below w.heap.size w w' := by
  have HL := Lib.hid hl
  have HL' := Lib.hid hl'
  clear hl hl'
  have HB : Hid (Below w.heap.size w ((w.alloc (.cells #[.int .i64 p.h, .int .i64 p.r, .string p.id, .slice A n c] 33)).alloc (.cells #[.int .i64 p.h, .int .i64 p.r, .string p.id, .slice A' n c'] 33))) := ((Below.refl _ _).alloc (Nat.le_refl _) _).alloc (by simp) _
  go_enter Tryz.func25, Tryz.ntmps25
  go_wp2_with fail
  refine (eqCSigS_same _ _ _ _ _ l _ ((HL.out.below HB.out (Nat.le_refl _)).more HB.out.size) ((HL'.out.below HB.out (Nat.le_refl _)).more HB.out.size)).mono ?_
  rintro e w3 ⟨rfl, hb3⟩
  go_wp2
  go_ret
  exact ⟨rfl, HB.out.trans (hb3.mono HB.out.size)⟩
theorem markCommit_any (p : ComD) (A : Option Addr) (n c : Nat) (l : List CSigD) (lo hi k : Nat) (w : World) (hl : OwnL csigC 2 91 w lo hi A n c l) (hw : hi ≤ w.heap.size) (hk0 : 0 < k) (hn : n ≤ 2097152) (hk : k ≤ 100000000) :
    Calls Tryz.prog 28 #[.agg #[.int .i64 p.h, .int .i64 p.r, .string p.id, .slice A n c], .int .i64 k] w (MarkOut csigC 2 91 lo hi A n c (marksCSig k n) ((k + n * 2 : Nat) : Int) w) := by
  have HL := Lib.hid hl
  clear hl
  go_enter Tryz.func28, Tryz.ntmps28
  go_wp2_with fail
  refine (markCSigS_any 91 A n c l lo hi k _ (HL.out.below ((Below.refl _ _).alloc (Nat.le_refl _) _) hw) hk0 hn hk).mono ?_
  rintro e w1 ⟨rfl, ho, hc⟩
  have HO := Lib.hid ho
  clear ho
  obtain ⟨q, hq⟩ : ∃ q, q = k + n * 2 := ⟨_, rfl⟩
  have hq1 : q ≤ 1000000000 := by omega
  rw [← hq]
  have HQ := Lib.hid hq
  clear hq
  go_wp2
  go_ret
  exact ⟨by rw [HQ.out]; rfl, HO.out, (Chg.of_below ((Below.refl _ _).alloc (Nat.le_refl _) _)).trans hc⟩
theorem markAnchor_any (s : HeaderD) (A : Option Addr) (n c : Nat) (l : List ValD) (lo hi k : Nat) (w : World) (hl : OwnL valC 2 84 w lo hi A n c l) (hw : hi ≤ w.heap.size) (hk0 : 0 < k) (hn : n ≤ 2097152) (hk : k ≤ 100000000) :
    Calls Tryz.prog 26 #[.agg #[.int .i64 s.h, .int .i64 s.t, .string s.last, .string s.vals, .string s.next, .string s.data, .slice A n c], .int .i64 k] w (MarkOut valC 2 84 lo hi A n c (marksVal k n) ((k + n * 2 : Nat) : Int) w) := by
  have HL := Lib.hid hl
  clear hl
  go_enter Tryz.func26, Tryz.ntmps26
  go_wp2_with fail
  refine (markValS_any 84 A n c l lo hi k _ (HL.out.below ((Below.refl _ _).alloc (Nat.le_refl _) _) hw) hk0 hn hk).mono ?_
  rintro e w1 ⟨rfl, ho, hc⟩
  have HO := Lib.hid ho
  clear ho
  obtain ⟨q, hq⟩ : ∃ q, q = k + n * 2 := ⟨_, rfl⟩
  have hq1 : q ≤ 1000000000 := by omega
  rw [← hq]
  have HQ := Lib.hid hq
  clear hq
  go_wp2
  go_ret
  exact ⟨by rw [HQ.out]; rfl, HO.out, (Chg.of_below ((Below.refl _ _).alloc (Nat.le_refl _) _)).trans hc⟩
theorem heldAnchor_any (s : HeaderD) (A : Option Addr) (n c : Nat) (k : Nat) (w : World) (hl : RdL valC 2 w w.heap.size A n c (marksVal k n)) (hk0 : 0 < k) (hn : n ≤ 2097152) (hk : k ≤ 100000000) :
    Calls Tryz.prog 29 #[.agg #[.int .i64 s.h, .int .i64 s.t, .string s.last, .string s.vals, .string s.next, .string s.data, .slice A n c], .int .i64 k] w fun e w' => e = .returned (.int .i64 ((k + n * 2 : Nat) : Int)) ∧ Below w.heap.size w w' := by
  have HL := Lib.hid hl
  clear hl
  obtain ⟨q, hq⟩ : ∃ q, q = k + n * 2 := ⟨_, rfl⟩
  have hq1 : q ≤ 1000000000 := by omega
  have HQ := Lib.hid hq
  clear hq
  go_enter Tryz.func29, Tryz.ntmps29
  go_wp2_with fail
  refine (heldValS_any A n c k _ ((HL.out.alloc (Nat.le_refl _) _).more (by simp)) hk0 hn hk).mono ?_
  rw [← HQ.out]
  rintro e w1 ⟨rfl, hb⟩
  go_wp2
  go_ret
  exact ⟨by rw [HQ.out]; rfl, ((Below.refl _ _).alloc (Nat.le_refl _) _).trans (hb.mono (by simp))⟩
end Go.Proofs.YtelnnegfkdfpiaaGreatDoor
