/- Tables: sizes, copies, comparisons. -/
import Derived.Test.YtpfppkjikkihfaaG
import Derived.WalkKit
import Derived.WalkSpells
import Derived.WalkLawsBesides
import Derived.Lib.Hide
namespace Go.Proofs.Ytpfppkjikkihfaa
open Go.RowKit

theorem szPeerS_any (A : Option Addr) (n c : Nat) (left : Int) (w : World) (hn : n ≤ 9223372036854775807) (h0 : 0 ≤ left) (h1 : left ≤ 1048576) :
    Calls Try.prog 57 #[.slice A n c, .int .i64 left] w fun e w' => e = .returned (.int .i64 (if left < n then -1 else left - n)) ∧ w = w' := by
  by_cases hc : left < n
  · go_enter Try.func57, Try.ntmps57
    go_wp2
    go_ret
    exact ⟨rfl, rfl⟩
  · go_enter Try.func57, Try.ntmps57
    go_wp2
    go_ret
    exact ⟨rfl, rfl⟩

theorem szTable_any (A : Option Addr) (n c : Nat) (turn : Int) (left : Int) (w : World) (hn : n ≤ 9223372036854775807) (h0 : 0 ≤ left) (h1 : left ≤ 1048576) :
    Calls Try.prog 28 #[.agg #[.slice A n c, .int .i64 turn], .int .i64 left] w fun e w' => e = .returned (.int .i64 (if left < n then -1 else left - n)) ∧ Below w.heap.size w w' := by
  by_cases hc : left < n
  · go_enter Try.func28, Try.ntmps28
    go_wp2_with (go_at_call 57; (with_reducible refine (szPeerS_any _ _ _ _ _ hn h0 h1).mono ?_); rw [if_pos hc]; rintro e w' ⟨rfl, rfl⟩)
    go_ret
    exact ⟨rfl, (by repeat (first | exact Below.refl _ _ | assumption | refine Below.drew ?_ | refine belN ?_ _ | refine Below.alloc ?_ (by first | exact Nat.le_refl _ | (simp; done) | (simp; omega) | omega) _ | refine Below.setCell ?_ (by first | exact Nat.le_refl _ | (simp; done) | (simp; omega) | omega) _ | refine Below.trans ?_ (Below.mono (by assumption) (by first | exact Nat.le_refl _ | (simp; done) | (simp; omega) | omega))))⟩
  · go_enter Try.func28, Try.ntmps28
    go_wp2_with (go_at_call 57; (with_reducible refine (szPeerS_any _ _ _ _ _ hn h0 h1).mono ?_); rw [if_neg hc]; rintro e w' ⟨rfl, rfl⟩)
    go_ret
    exact ⟨rfl, (by repeat (first | exact Below.refl _ _ | assumption | refine Below.drew ?_ | refine belN ?_ _ | refine Below.alloc ?_ (by first | exact Nat.le_refl _ | (simp; done) | (simp; omega) | omega) _ | refine Below.setCell ?_ (by first | exact Nat.le_refl _ | (simp; done) | (simp; omega) | omega) _ | refine Below.trans ?_ (Below.mono (by assumption) (by first | exact Nat.le_refl _ | (simp; done) | (simp; omega) | omega))))⟩

def TableOut (n : Nat) (l : List PeerD) (turn : Int) (w : World) (e : Ending) (w' : World) : Prop :=
  ∃ A c, e = .returned (.agg #[.slice A n c, .int .i64 turn]) ∧ w'.ownsRow w.heap.size 77 4 (.slice A n c) n (l.flatMap peerC) ∧ Below w.heap.size w w'

theorem toTable_any (A : Option Addr) (n c : Nat) (turn : Int) (l : List PeerD) (w : World) (hl : RdL peerC 4 w w.heap.size A n c l) (hn : n ≤ 1048576) :
    Calls Try.prog 30 #[.agg #[.slice A n c, .int .i64 turn]] w (TableOut n l turn w) := by
  have HL := Lib.hid hl
  clear hl
  go_enter Try.func30, Try.ntmps30
  go_wp2_with fail
  (with_reducible refine (toPeerS_any A n c l _ ((((HL.out.alloc (Nat.le_refl _) _).alloc (by simp) _).alloc (by simp; omega) _).more (by simp; omega)) hn).mono ?_)
  intro e w1 h
  obtain ⟨A1, c1, rfl, hown, hr, hb⟩ := h.get HL.out.1
  obtain ⟨hc, hf, hz⟩ := bcell hb
  have hz' : w.heap.size + 3 ≤ w1.heap.size := by simp at hz; omega
  have hy := nlt hz'
  have HO := Lib.hid hown
  have HB : Hid (Below w.heap.size w w1) := (by repeat (first | exact Below.refl _ _ | assumption | refine Below.drew ?_ | refine belN ?_ _ | refine Below.alloc ?_ (by first | exact Nat.le_refl _ | (simp; done) | (simp; omega) | omega) _ | refine Below.setCell ?_ (by first | exact Nat.le_refl _ | (simp; done) | (simp; omega) | omega) _ | refine Below.trans ?_ (Below.mono (by assumption) (by first | exact Nat.le_refl _ | (simp; done) | (simp; omega) | omega))))
  clear hown hr h
  go_wp2
  refine bodyPost_ret (v := .agg #[.slice A1 n c1, .int .i64 turn]) (by simp [results, Try.results30, go_sem, hc]) rfl ⟨A1, c1, rfl, ?_, ?_⟩
  · exact own_mono (ownsRow_setCell_below (ownsRow_setCell_below (ownsRow_setCell_below (ownsRow_setCell_below HO.out (by simp) _) (by simp) _) (by simp) _) (by simp) _) (by simp; omega)
  · exact (((HB.out.setCell (by show _ ≤ _ + 1 + 1; omega) _).setCell (by show _ ≤ _ + 1 + 1; omega) _).setCell (by show _ ≤ _ + 1; omega) _).setCell (by show _ ≤ _ + 1; omega) _

theorem eqTable_same (A : Option Addr) (n c : Nat) (A' : Option Addr) (c' : Nat) (turn : Int) (l : List PeerD) (w : World) (hl : RdL peerC 4 w w.heap.size A n c l) (hl' : RdL peerC 4 w w.heap.size A' n c' l) :
    Calls Try.prog 32 #[.agg #[.slice A n c, .int .i64 turn], .agg #[.slice A' n c', .int .i64 turn]] w fun e w' => e = .returned (.bool true) ∧ Below w.heap.size w w' := by
  have HL := Lib.hid (((hl.alloc (Nat.le_refl _) (Obj.cells #[.slice A n c, .int .i64 turn] 55)).alloc (by simp) (Obj.cells #[.slice A' n c', .int .i64 turn] 55)).more (by omega : _ ≤ w.heap.size + 1 + 1))
  have HL' := Lib.hid (((hl'.alloc (Nat.le_refl _) (Obj.cells #[.slice A n c, .int .i64 turn] 55)).alloc (by simp) (Obj.cells #[.slice A' n c', .int .i64 turn] 55)).more (by omega : _ ≤ w.heap.size + 1 + 1))
  clear hl hl'
  go_enter Try.func32, Try.ntmps32
  go_wp2_with (go_at_call 63; (with_reducible refine (eqPeerS_same _ _ _ _ _ l _ (by simpa using HL.out) (by simpa using HL'.out)).mono ?_); rintro e w1 ⟨rfl, hb⟩; obtain ⟨hc, hf, hz⟩ := bcell hb; have hy := nlt (by simp at hz; omega : w.heap.size + 2 ≤ w1.heap.size))
  go_ret
  exact ⟨rfl, (by repeat (first | exact Below.refl _ _ | assumption | refine Below.drew ?_ | refine belN ?_ _ | refine Below.alloc ?_ (by first | exact Nat.le_refl _ | (simp; done) | (simp; omega) | omega) _ | refine Below.setCell ?_ (by first | exact Nat.le_refl _ | (simp; done) | (simp; omega) | omega) _ | refine Below.trans ?_ (Below.mono (by assumption) (by first | exact Nat.le_refl _ | (simp; done) | (simp; omega) | omega))))⟩
end Go.Proofs.Ytpfppkjikkihfaa
