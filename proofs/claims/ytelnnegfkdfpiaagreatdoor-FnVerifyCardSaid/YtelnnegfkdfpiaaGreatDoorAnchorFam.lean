/- The family of small functions on Anchor. -/
import Derived.Test.YtelnnegfkdfpiaaGreatDoorAnchor
import Derived.Test.YtelnnegfkdfpiaaGreatDoorMkHeader
import Derived.WalkKit
import Derived.WalkSpells
import Derived.WalkLawsBesides
import Derived.Lib.Hide
namespace Go.Proofs.YtelnnegfkdfpiaaGreatDoor
open Go.RowKit

theorem AnchorOk_ok (s : HeaderD) (A : Option Addr) (n c : Nat) (l : List ValD) (w : World) (hl : RdL valC 2 w w.heap.size A n c l) (ht : Tab w) :
    Calls Tryz.prog 68 #[.agg #[.int .i64 s.h, .int .i64 s.t, .string s.last, .string s.vals, .string s.next, .string s.data, .slice A n c]] w fun e w' => e = .returned (.bool (anchorB s l)) ∧ Below w.heap.size w w' := AnchorOk_any s A n c l w hl ht
theorem list7 {l : List Value} (h : l.length = 7) : ∃ c0 c1 c2 c3 c4 c5 c6, l = [c0, c1, c2, c3, c4, c5, c6] := by
  match l, h with
  | [c0, c1, c2, c3, c4, c5, c6], _ => exact ⟨c0, c1, c2, c3, c4, c5, c6, rfl⟩
/-- An anchor handed back: its validators in a slice of the call's own. -/
def AnchorOut (s : HeaderD) (l : List ValD) (w : World) (e : Ending) (w' : World) : Prop :=
  ∃ A n c, e = .returned (.agg #[.int .i64 s.h, .int .i64 s.t, .string s.last, .string s.vals, .string s.next, .string s.data, .slice A n c]) ∧ OwnL valC 2 84 w' w.heap.size w'.heap.size A n c l ∧ Below w.heap.size w w'

set_option maxHeartbeats 1000000 in
theorem szAnchor_any (s : HeaderD) (A : Option Addr) (n c : Nat) (left : Int) (l : List ValD) (w : World) (hl : RdL valC 2 w w.heap.size A n c l) (s1 : s.last.size ≤ maxLen) (s2 : s.vals.size ≤ maxLen) (s3 : s.next.size ≤ maxLen) (s4 : s.data.size ≤ maxLen) (h0 : 0 ≤ left) (h1 : left ≤ 1048576) :
    Calls Tryz.prog 14 #[.agg #[.int .i64 s.h, .int .i64 s.t, .string s.last, .string s.vals, .string s.next, .string s.data, .slice A n c], .int .i64 left] w (SzOut n left w) := by
  have hn := hl.le
  clear hl
  have B0 : Blk (w.alloc (.cells #[.int .i64 s.h, .int .i64 s.t, .string s.last, .string s.vals, .string s.next, .string s.data, .slice A n c] 48)) w.heap.size 48 #[.int .i64 s.h, .int .i64 s.t, .string s.last, .string s.vals, .string s.next, .string s.data, .slice A n c] := heap_alloc_new w _
  go_enter Tryz.func14, Tryz.ntmps14
  go_wp2_with fail
  refine (szHeader_out _ _ _ _ _ _ left _ s1 s2 s3 s4 h0 h1).mono ?_
  rintro e w1 ⟨r, rfl, q0, q1, q2, hb⟩
  have B1 := B0.below hb B0.lt
  have HB1 : Hid (Below w.heap.size w w1) := ((Below.refl _ _).alloc (Nat.le_refl _) _).trans (hb.mono (by rw [World.size_alloc]; omega))
  clear hb B0
  by_cases hr : r < 0
  · go_wp2_with fail
    go_ret
    exact ⟨-1, rfl, by omega, by omega, by omega, HB1.out⟩
  have hr0 : 0 ≤ r := by omega
  have t6 : w1.cell? ⟨w.heap.size, 6, none⟩ = some (.slice A n c) := (B1.cell 6).trans rfl
  clear B1
  go_wp2_with fail
  refine (szValS_any A n c r _ hn hr0 (by omega)).mono ?_
  rintro e w2 ⟨rfl, rfl⟩
  have HB2 := HB1
  obtain ⟨x, hxe⟩ : ∃ x : Int, x = if r < n then -1 else r - n := ⟨_, rfl⟩
  have hx1 : 0 ≤ x → (n : Int) ≤ r := by rw [hxe]; split <;> omega
  have hx2 : -1 ≤ x := by rw [hxe]; split <;> omega
  have hx3 : x ≤ r := by rw [hxe]; split <;> omega
  rw [← hxe]
  clear hxe
  by_cases hx : x < 0
  · go_wp2_with fail
    go_ret
    exact ⟨-1, rfl, by omega, by omega, by omega, HB2.out⟩
  · go_wp2_with fail
    go_ret
    exact ⟨x, rfl, by omega, by omega, by omega, HB2.out⟩

set_option maxHeartbeats 2000000 in
theorem toAnchor_any (s : HeaderD) (A : Option Addr) (n c : Nat) (l : List ValD) (w : World) (hl : RdL valC 2 w w.heap.size A n c l) (hn : n ≤ 1048576) :
    Calls Tryz.prog 19 #[.agg #[.int .i64 s.h, .int .i64 s.t, .string s.last, .string s.vals, .string s.next, .string s.data, .slice A n c]] w (AnchorOut s l w) := by
  have HL := Lib.hid hl
  clear hl
  go_enter Tryz.func19, Tryz.ntmps19
  go_wp2_with fail
  refine (toHeader_any _ _ _ _ _ _ _).mono ?_
  rintro e w1 ⟨rfl, hb⟩
  obtain ⟨hc, hf, hz⟩ := bcell hb
  have hy : w.heap.size + 3 ≤ w1.heap.size := by simp at hz; omega
  have hy0 : w.heap.size < w1.heap.size := by omega
  have hy1 : w.heap.size + 1 < w1.heap.size := by omega
  have hy2 : w.heap.size + 1 + 1 < w1.heap.size := by omega
  have HB1 : Hid (Below w.heap.size w w1) := (by repeat (first | exact Below.refl _ _ | assumption | refine Below.drew ?_ | refine belN ?_ _ | refine Below.alloc ?_ (by first | exact Nat.le_refl _ | (simp; done) | (simp; omega) | omega) _ | refine Below.setCell ?_ (by first | exact Nat.le_refl _ | (simp; done) | (simp; omega) | omega) _ | refine Below.trans ?_ (Below.mono (by assumption) (by first | exact Nat.le_refl _ | (simp; done) | (simp; omega) | omega))))
  go_wp2_with fail
  refine (toValS_any A n c l _ (by refine (HL.out.below (B' := w.heap.size) ?_ (Nat.le_refl _)).more (by simp; omega); (repeat (first | with_reducible refine Below.setCell ?_ (by first | exact Nat.le_refl _ | (simp; done) | (simp; omega)) _ | with_reducible refine Below.alloc ?_ (by first | exact Nat.le_refl _ | (simp; done) | (simp; omega)) _ | with_reducible refine Below.drew ?_)); (with_reducible exact HB1.out)) hn).mono ?_
  intro e w3 h
  obtain ⟨A1, c1, rfl, hown, hr, hb3⟩ := h.get HL.out.1
  obtain ⟨hc3, hf3, hz3⟩ := bcell hb3
  have hw : w.heap.size + 3 ≤ w3.heap.size := by simp at hz3; omega
  have hw0 : w.heap.size < w3.heap.size := by omega
  have hw1 : w.heap.size + 1 < w3.heap.size := by omega
  have hw2 : w.heap.size + 1 + 1 < w3.heap.size := by omega
  have HB3 : Hid (Below w.heap.size w w3) := by
    refine Below.trans ?_ (Below.mono hb3 (by simp; omega))
    (repeat (first | with_reducible refine Below.setCell ?_ (by first | exact Nat.le_refl _ | (simp; done) | (simp; omega)) _ | with_reducible refine Below.alloc ?_ (by first | exact Nat.le_refl _ | (simp; done) | (simp; omega)) _ | with_reducible refine Below.drew ?_)); (with_reducible exact HB1.out)
  have HO := Lib.hid hown
  clear hown hr h
  go_wp2
  refine bodyPost_ret (v := .agg #[.int .i64 s.h, .int .i64 s.t, .string s.last, .string s.vals, .string s.next, .string s.data, .slice A1 n c1]) (by simp [results, Tryz.results19, go_sem, hc3, hc, hy1]) rfl ⟨A1, n, c1, rfl, ?_, ?_⟩
  · have h0 := HO.out
    simp only [World.size_setCell] at h0
    obtain ⟨A2, c2, he, ho⟩ := OwnL.of_own HL.out.1 h0
    simp only [Value.slice.injEq, true_and] at he
    obtain ⟨rfl, rfl⟩ := he
    refine ((ho.chg (lo' := w.heap.size) (hi' := w.heap.size + 3) ?_ (.inr (by omega))).wide (by omega) (by simp))
    (repeat (first | with_reducible refine Chg.setCell ?_ (by first | exact Nat.le_refl _ | (simp; done) | (simp; omega)) (by first | (simp; done) | (simp; omega)) _ | with_reducible refine Chg.alloc ?_ _ | with_reducible refine Chg.drew ?_)); (with_reducible exact Chg.refl _ _ _)
  · (repeat (first | with_reducible refine Below.setCell ?_ (by first | exact Nat.le_refl _ | (simp; done) | (simp; omega)) _ | with_reducible refine Below.alloc ?_ (by first | exact Nat.le_refl _ | (simp; done) | (simp; omega)) _ | with_reducible refine Below.drew ?_)); (with_reducible exact HB3.out)
set_option maxHeartbeats 1000000 in
theorem eqAnchor_same (s : HeaderD) (A : Option Addr) (n c : Nat) (A' : Option Addr) (c' : Nat) (l : List ValD) (w : World) (hl : RdL valC 2 w w.heap.size A n c l) (hl' : RdL valC 2 w w.heap.size A' n c' l) :
    Calls Tryz.prog 23 #[.agg #[.int .i64 s.h, .int .i64 s.t, .string s.last, .string s.vals, .string s.next, .string s.data, .slice A n c], .agg #[.int .i64 s.h, .int .i64 s.t, .string s.last, .string s.vals, .string s.next, .string s.data, .slice A' n c']] w fun e w' => e = .returned (.bool true) ∧ Below w.heap.size w w' := by
  have HL := Lib.hid hl
  have HL' := Lib.hid hl'
  clear hl hl'
  go_enter Tryz.func23, Tryz.ntmps23
  go_wp2_with fail
  refine (eqHeader_same _ _ _ _ _ _ _).mono ?_
  rintro e w1 ⟨rfl, hb⟩
  obtain ⟨hc, hf, hz⟩ := bcell hb
  have hy : w.heap.size + 2 ≤ w1.heap.size := by simp at hz; omega
  have hy0 : w.heap.size < w1.heap.size := by omega
  have hy1 : w.heap.size + 1 < w1.heap.size := by omega
  have HB1 : Hid (Below w.heap.size w w1) := (by repeat (first | exact Below.refl _ _ | assumption | refine Below.drew ?_ | refine belN ?_ _ | refine Below.alloc ?_ (by first | exact Nat.le_refl _ | (simp; done) | (simp; omega) | omega) _ | refine Below.setCell ?_ (by first | exact Nat.le_refl _ | (simp; done) | (simp; omega) | omega) _ | refine Below.trans ?_ (Below.mono (by assumption) (by first | exact Nat.le_refl _ | (simp; done) | (simp; omega) | omega))))
  go_wp2_with fail
  refine (eqValS_same _ _ _ _ _ l _ ((HL.out.below HB1.out (Nat.le_refl _)).more HB1.out.size) ((HL'.out.below HB1.out (Nat.le_refl _)).more HB1.out.size)).mono ?_
  rintro e w3 ⟨rfl, hb3⟩
  go_wp2
  go_ret
  exact ⟨rfl, HB1.out.trans (hb3.mono HB1.out.size)⟩
end Go.Proofs.YtelnnegfkdfpiaaGreatDoor
