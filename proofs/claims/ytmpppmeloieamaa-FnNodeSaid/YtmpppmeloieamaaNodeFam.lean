/- Nodes: copies, sizes, comparisons. -/
import Derived.Test.YtmpppmeloieamaaNodeOk
import Derived.WalkKit
import Derived.WalkSpells
import Derived.WalkLawsBesides
import Derived.Lib.Hide
namespace Go.Proofs.Ytmpppmeloieamaa
open Go.RowKit

theorem szNode_any (s : NodeS) (A : Option Addr) (n c : Nat) (left : Int) (w : World) (hn : n ≤ 9223372036854775807) (h0 : 0 ≤ left) (h1 : left ≤ 1048576) :
    Calls Try.prog 7 #[.agg #[.int .i64 s.me, .int .i64 s.round, .int .i64 s.step, .int .i64 s.lv, .int .i64 s.lr, .int .i64 s.vv, .int .i64 s.vr, .int .i64 s.polka, .int .i64 s.dec, .slice A n c], .int .i64 left] w fun e w' => e = .returned (.int .i64 (if left < n then -1 else left - n)) ∧ Below w.heap.size w w' := by
  by_cases hc : left < n
  · go_enter Try.func7, Try.ntmps7
    go_wp2_with (go_at_call 30; (with_reducible refine (szNMsgS_any _ _ _ _ _ hn h0 h1).mono ?_); rw [if_pos hc]; rintro e w' ⟨rfl, rfl⟩)
    go_ret
    exact ⟨rfl, (by repeat (first | exact Below.refl _ _ | assumption | refine Below.drew ?_ | refine belN ?_ _ | refine Below.alloc ?_ (by first | exact Nat.le_refl _ | (simp; done) | (simp; omega) | omega) _ | refine Below.setCell ?_ (by first | exact Nat.le_refl _ | (simp; done) | (simp; omega) | omega) _ | refine Below.trans ?_ (Below.mono (by assumption) (by first | exact Nat.le_refl _ | (simp; done) | (simp; omega) | omega))))⟩
  · go_enter Try.func7, Try.ntmps7
    go_wp2_with (go_at_call 30; (with_reducible refine (szNMsgS_any _ _ _ _ _ hn h0 h1).mono ?_); rw [if_neg (show ¬ (left < (n : Int)) by omega)]; rintro e w' ⟨rfl, rfl⟩)
    go_ret
    exact ⟨rfl, (by repeat (first | exact Below.refl _ _ | assumption | refine Below.drew ?_ | refine belN ?_ _ | refine Below.alloc ?_ (by first | exact Nat.le_refl _ | (simp; done) | (simp; omega) | omega) _ | refine Below.setCell ?_ (by first | exact Nat.le_refl _ | (simp; done) | (simp; omega) | omega) _ | refine Below.trans ?_ (Below.mono (by assumption) (by first | exact Nat.le_refl _ | (simp; done) | (simp; omega) | omega))))⟩

/-- A node handed back: its messages in a slice of the call's own. -/
def NodeOut (s : NodeS) (n : Nat) (l : List NMsgD) (w : World) (e : Ending) (w' : World) : Prop :=
  ∃ A c, e = .returned (.agg #[.int .i64 s.me, .int .i64 s.round, .int .i64 s.step, .int .i64 s.lv, .int .i64 s.lr, .int .i64 s.vv, .int .i64 s.vr, .int .i64 s.polka, .int .i64 s.dec, .slice A n c]) ∧ w'.ownsRow w.heap.size 40 5 (.slice A n c) n (l.flatMap msgC) ∧ Below w.heap.size w w'

set_option maxHeartbeats 1000000 in
theorem toNode_any (s : NodeS) (A : Option Addr) (n c : Nat) (l : List NMsgD) (w : World) (hl : RdL msgC 5 w w.heap.size A n c l) (hn : n ≤ 1048576) :
    Calls Try.prog 9 #[.agg #[.int .i64 s.me, .int .i64 s.round, .int .i64 s.step, .int .i64 s.lv, .int .i64 s.lr, .int .i64 s.vv, .int .i64 s.vr, .int .i64 s.polka, .int .i64 s.dec, .slice A n c]] w (NodeOut s n l w) := by
  have HL := Lib.hid hl
  clear hl
  go_enter Try.func9, Try.ntmps9
  go_wp2_with fail
  refine (toNMsgS_any A n c l _ (by exact (((HL.out.alloc (Nat.le_refl _) _).alloc (by simp) _).alloc (by simp; omega) _).more (by simp; omega)) hn).mono ?_
  intro e w1 h
  obtain ⟨A1, c1, rfl, hown, hr, hb⟩ := h.get HL.out.1
  obtain ⟨hc, hf, hz⟩ := bcell hb
  have hz' : w.heap.size + 3 ≤ w1.heap.size := by simp at hz; omega
  have hy := nlt hz'
  have HO := Lib.hid hown
  have HB : Hid (Below w.heap.size w w1) := (by repeat (first | exact Below.refl _ _ | assumption | refine Below.drew ?_ | refine belN ?_ _ | refine Below.alloc ?_ (by first | exact Nat.le_refl _ | (simp; done) | (simp; omega) | omega) _ | refine Below.setCell ?_ (by first | exact Nat.le_refl _ | (simp; done) | (simp; omega) | omega) _ | refine Below.trans ?_ (Below.mono (by assumption) (by first | exact Nat.le_refl _ | (simp; done) | (simp; omega) | omega))))
  clear hown hr h
  go_wp2
  refine bodyPost_ret (v := .agg #[.int .i64 s.me, .int .i64 s.round, .int .i64 s.step, .int .i64 s.lv, .int .i64 s.lr, .int .i64 s.vv, .int .i64 s.vr, .int .i64 s.polka, .int .i64 s.dec, .slice A1 n c1]) (by simp [results, Try.results9, go_sem, hc]) rfl ⟨A1, c1, rfl, ?_, ?_⟩
  · refine own_mono (base := w.heap.size + 3) ?_ (by omega)
    have h0 := HO.out
    simp only [World.size_alloc] at h0
    repeat with_reducible refine ownsRow_setCell_below ?_ (by simp) _
    with_reducible exact h0
  · repeat with_reducible refine Below.setCell ?_ (by first | (simp; done) | (simp; omega)) _
    with_reducible exact HB.out

set_option maxHeartbeats 1000000 in
theorem eqNode_same (s : NodeS) (A : Option Addr) (n c : Nat) (A' : Option Addr) (c' : Nat) (l : List NMsgD) (w : World) (hl : RdL msgC 5 w w.heap.size A n c l) (hl' : RdL msgC 5 w w.heap.size A' n c' l) :
    Calls Try.prog 11 #[.agg #[.int .i64 s.me, .int .i64 s.round, .int .i64 s.step, .int .i64 s.lv, .int .i64 s.lr, .int .i64 s.vv, .int .i64 s.vr, .int .i64 s.polka, .int .i64 s.dec, .slice A n c], .agg #[.int .i64 s.me, .int .i64 s.round, .int .i64 s.step, .int .i64 s.lv, .int .i64 s.lr, .int .i64 s.vv, .int .i64 s.vr, .int .i64 s.polka, .int .i64 s.dec, .slice A' n c']] w fun e w' => e = .returned (.bool true) ∧ Below w.heap.size w w' := by
  have HL := Lib.hid hl
  have HL' := Lib.hid hl'
  clear hl hl'
  go_enter Try.func11, Try.ntmps11
  go_wp2_with (go_at_call 12; (refine (eqNMsgS_same _ _ _ _ _ l _ (by exact ((HL.out.alloc (Nat.le_refl _) _).alloc (by simp) _).more (by simp; omega)) (by exact ((HL'.out.alloc (Nat.le_refl _) _).alloc (by simp) _).more (by simp; omega))).mono ?_); rintro e w1 ⟨rfl, hb⟩; obtain ⟨hc, hf, hz⟩ := bcell hb; have hy := nlt (by simp at hz; omega : w.heap.size + 2 ≤ w1.heap.size))
  go_ret
  exact ⟨rfl, (by repeat (first | exact Below.refl _ _ | assumption | refine Below.drew ?_ | refine belN ?_ _ | refine Below.alloc ?_ (by first | exact Nat.le_refl _ | (simp; done) | (simp; omega) | omega) _ | refine Below.setCell ?_ (by first | exact Nat.le_refl _ | (simp; done) | (simp; omega) | omega) _ | refine Below.trans ?_ (Below.mono (by assumption) (by first | exact Nat.le_refl _ | (simp; done) | (simp; omega) | omega))))⟩
end Go.Proofs.Ytmpppmeloieamaa
