/- proposal of an acting node, at the three closures of its rules. -/
import Derived.Test.YtmpppmeloieamaaActStart
import Derived.WalkKit
import Derived.WalkSpells
import Derived.WalkLawsBesides
import Derived.Lib.Hide
namespace Go.Proofs.Ytmpppmeloieamaa
open Go.RowKit

theorem noneTo_find {α : Type} {f : α → Bool} {l : List α} (h : noneTo f l l.length = true) : l.find? f = none := by
  rw [List.find?_eq_none]
  intro x hx
  unfold noneTo at h
  rw [List.take_length, List.all_eq_true] at h
  have := h x hx
  simpa using this
theorem hit_find {α : Type} {f : α → Bool} {l : List α} {k : Nat} {x : α} (hk : l[k]? = some x) (h : noneTo f l k = true) (hx : f x = true) : l.find? f = some x := by
  obtain ⟨hlt, he⟩ := List.getElem?_eq_some_iff.1 hk
  have e : l = l.take k ++ x :: l.drop (k + 1) := by
    rw [← he]; simp
  rw [e, List.find?_append]
  have h1 : (l.take k).find? f = none := by
    rw [List.find?_eq_none]
    intro y hy
    unfold noneTo at h
    rw [List.all_eq_true] at h
    have := h y hy
    simpa using this
  rw [h1]
  simp [hx]

def msgV (m : NMsgD) : Value := .agg #[.int .i64 m.k, .int .i64 m.r, .int .i64 m.v, .int .i64 m.p, .int .i64 m.f]
def propV (o : Option NMsgD) : Value := match o with | some m => .tuple #[msgV m, .bool true] | none => .tuple #[msgV ⟨0, 0, 0, 0, 0⟩, .bool false]

theorem clo1_any (m : NMsgD) (w : World) : Calls Try.prog 73 #[msgV m] w fun e w' => e = .returned (.bool (P3 m)) ∧ Below w.heap.size w w' := by
  unfold msgV
  go_enter Try.func73, Try.ntmps73
  go_wp2
  go_ret
  exact ⟨rfl, (by repeat (first | exact Below.refl _ _ | assumption | refine Below.drew ?_ | refine belN ?_ _ | refine Below.alloc ?_ (by first | exact Nat.le_refl _ | (simp; done) | (simp; omega) | omega) _ | refine Below.setCell ?_ (by first | exact Nat.le_refl _ | (simp; done) | (simp; omega) | omega) _ | refine Below.trans ?_ (Below.mono (by assumption) (by first | exact Nat.le_refl _ | (simp; done) | (simp; omega) | omega))))⟩
set_option maxHeartbeats 1000000 in
theorem clo2_any (nb g : Nat) (A : Option Addr) (n c : Nat) (l : List NMsgD) (m : NMsgD) (w : World) (hn : w.cell? ⟨nb, 0, none⟩ = some (.pointer (some ⟨g, 0, none⟩))) (h9 : w.cell? ⟨g, 9, none⟩ = some (.slice A n c)) (hlt : g < w.heap.size) (hnl : nb < w.heap.size)
    (hl : RdL msgC 5 w w.heap.size A n c l) (h6 : n ≤ 1000) :
    Calls Try.prog 74 #[msgV m, .pointer (some ⟨nb, 0, none⟩)] w fun e w' => e = .returned (.bool (P4 l m)) ∧ Below w.heap.size w w' := by
  have HL := Lib.hid hl
  clear hl
  unfold msgV
  cases hp : decide (0 ≤ m.p)
  · have HE : Hid (P4 l m = false) := by show _ = _; unfold P4; rw [hp]; rfl
    go_enter Try.func74, Try.ntmps74
    go_wp2
    go_ret
    exact ⟨by rw [HE.out]; rfl, (by repeat (first | exact Below.refl _ _ | assumption | refine Below.drew ?_ | refine belN ?_ _ | refine Below.alloc ?_ (by first | exact Nat.le_refl _ | (simp; done) | (simp; omega) | omega) _ | refine Below.setCell ?_ (by first | exact Nat.le_refl _ | (simp; done) | (simp; omega) | omega) _ | refine Below.trans ?_ (Below.mono (by assumption) (by first | exact Nat.le_refl _ | (simp; done) | (simp; omega) | omega))))⟩
  · have HE : Hid (P4 l m = decide (3 ≤ countN l 2 m.p m.v)) := by show _ = _; unfold P4; rw [hp]; rfl
    go_enter Try.func74, Try.ntmps74
    go_wp2_with fail
    refine (count_any g A n c l 2 m.p m.v _ ((HL.out.alloc (Nat.le_refl _) _).more (by simp)) (by omega) (by rw [World.cell?_alloc_lt _ _ _ (by exact hlt)]; exact h9) (by simp; omega)).mono ?_
    rintro e w1 ⟨rfl, hb⟩
    go_wp2
    go_ret
    exact ⟨by rw [HE.out]; rfl, (by repeat (first | exact Below.refl _ _ | assumption | refine Below.drew ?_ | refine belN ?_ _ | refine Below.alloc ?_ (by first | exact Nat.le_refl _ | (simp; done) | (simp; omega) | omega) _ | refine Below.setCell ?_ (by first | exact Nat.le_refl _ | (simp; done) | (simp; omega) | omega) _ | refine Below.trans ?_ (Below.mono (by assumption) (by first | exact Nat.le_refl _ | (simp; done) | (simp; omega) | omega))))⟩
set_option maxHeartbeats 1000000 in
theorem clo3_any (nb g : Nat) (A : Option Addr) (n c : Nat) (l : List NMsgD) (r : Int) (m : NMsgD) (w : World) (hn : w.cell? ⟨nb, 0, none⟩ = some (.pointer (some ⟨g, 0, none⟩))) (h1 : w.cell? ⟨g, 1, none⟩ = some (.int .i64 r)) (h9 : w.cell? ⟨g, 9, none⟩ = some (.slice A n c)) (hlt : g < w.heap.size) (hnl : nb < w.heap.size)
    (hl : RdL msgC 5 w w.heap.size A n c l) (h6 : n ≤ 1000) :
    Calls Try.prog 75 #[msgV m, .pointer (some ⟨nb, 0, none⟩)] w fun e w' => e = .returned (.bool (P5 l r m)) ∧ Below w.heap.size w w' := by
  have HL := Lib.hid hl
  clear hl
  unfold msgV
  go_enter Try.func75, Try.ntmps75
  go_wp2_with fail
  obtain ⟨w1, hw1⟩ : ∃ q, q = w.alloc (.cells #[.int .i64 m.k, .int .i64 m.r, .int .i64 m.v, .int .i64 m.p, .int .i64 m.f] 40) := ⟨_, rfl⟩
  rw [← hw1]
  have HB : Hid (Below w.heap.size w w1) := by show Below _ _ _; rw [hw1]; exact (by repeat (first | exact Below.refl _ _ | assumption | refine Below.drew ?_ | refine belN ?_ _ | refine Below.alloc ?_ (by first | exact Nat.le_refl _ | (simp; done) | (simp; omega) | omega) _ | refine Below.setCell ?_ (by first | exact Nat.le_refl _ | (simp; done) | (simp; omega) | omega) _ | refine Below.trans ?_ (Below.mono (by assumption) (by first | exact Nat.le_refl _ | (simp; done) | (simp; omega) | omega))))
  have t2 : w1.cell? ⟨w.heap.size, 2, none⟩ = some (.int .i64 m.v) := by rw [hw1]; simp
  have hs : w.heap.size < w1.heap.size := by rw [hw1]; simp
  have hnl1 : nb < w1.heap.size := by omega
  have hlt1 : g < w1.heap.size := by omega
  have tn := (HB.out.cell (p := ⟨nb, 0, none⟩) hnl).trans hn
  have t1 := (HB.out.cell (p := ⟨g, 1, none⟩) hlt).trans h1
  have t9 := (HB.out.cell (p := ⟨g, 9, none⟩) hlt).trans h9
  have HL1 := Lib.hid ((HL.out.below HB.out (Nat.le_refl _)).more (Nat.le_of_lt hs))
  clear hw1 hn h1 h9
  refine wp_region_below (by kernel_rfl) (by kernel_rfl) ?_
  repeat (first | go_big_quiet_skip | (go_big_quiet_want; go_big_quiet_op; first | go_big_quiet_on | (apply Exists.intro; refine ⟨fun w1 hC => ?_, ?_⟩; (focus (first | rfl | (go_at_call 56; exact quiet_below hC (count_any g A n c l 2 r m.v _ (by exact (HL1.out.below hC (Nat.le_refl _)).more hC.size) (by omega) (by exact ((bcell hC).1 _ _ hlt1).trans t9) (by have := hC.size; omega))) | (simp [(bcell hC).1, hs, hnl1, hlt1, tn, t1, t9, t2]; done) | (simp [(bcell hC).1, hs, hnl1, hlt1, tn, t1, t9, t2]; rfl))); go_big_quiet_on)))
  refine wpQuiet_nil ?_
  intro w2 hb2
  obtain ⟨hc2, hf2, hz2⟩ := bcell hb2
  go_wp2
  go_ret
  exact ⟨rfl, HB.out.trans (hb2.mono (Nat.le_of_lt hs))⟩
end Go.Proofs.Ytmpppmeloieamaa
