/- What the laws of the node's three calls want: rows apart, marks in one node's messages, how long the rows are. -/
import Derived.Test.YtmpppmeloieamaaActRest
import Derived.Test.YtmpppmeloieamaaMkNMsg
import Derived.Test.YtmpppmeloieamaaNodeFam
import Derived.WalkKit
import Derived.WalkSpells
import Derived.WalkLawsBesides
import Derived.Lib.Hide
namespace Go.Proofs.Ytmpppmeloieamaa
open Go.RowKit

/-- the rows that a call hands back, each in a stretch of its own behind what was there -/
theorem Rows.split {w : World} {B0 : Nat} {A B : Option Addr} {c d : Nat} {x : RunS} (h : Rows w (fun q => q < B0) A c B d x) (hB : B0 ≤ w.heap.size) :
    ∃ a1 b1 a2 b2, OwnL msgC 5 40 w a1 b1 A x.l.length c x.l ∧ OwnL msgC 5 40 w a2 b2 B x.o.length d x.o ∧
      B0 ≤ a1 ∧ a1 ≤ b1 ∧ b1 ≤ w.heap.size ∧ B0 ≤ a2 ∧ a2 ≤ b2 ∧ b2 ≤ w.heap.size ∧ (b1 ≤ a2 ∨ b2 ≤ a1) := by
  have one : ∀ (A : Option Addr) (c : Nat) (l : List NMsgD), OwnL msgC 5 40 w 0 w.heap.size A l.length c l → (∀ q a, q < B0 → A = some a → a.block ≠ q) →
      ∃ a1 b1, OwnL msgC 5 40 w a1 b1 A l.length c l ∧ B0 ≤ a1 ∧ a1 ≤ b1 ∧ b1 ≤ w.heap.size ∧ (a1 = b1 ∨ (b1 = a1 + 1 ∧ A = some (⟨a1, 0, Option.none⟩ : Addr))) := by
    intro A c l hl hp
    obtain ⟨h1, h0 | ⟨g, cur, rfl, _, h2, h3⟩⟩ := hl
    · exact ⟨B0, B0, ⟨h1, .inl h0⟩, Nat.le_refl _, Nat.le_refl _, hB, .inl rfl⟩
    · have hg : B0 ≤ g := by
        rcases Nat.lt_or_ge g B0 with hlt | hge
        · exact absurd rfl (hp g _ hlt rfl)
        · exact hge
      exact ⟨g, g + 1, ⟨h1, .inr ⟨g, cur, rfl, Nat.le_refl _, by omega, h3⟩⟩, hg, by omega, h2, .inr ⟨rfl, rfl⟩⟩
  obtain ⟨a1, b1, p1, p2, p3, p4, p5⟩ := one A c x.l h.la h.pa
  obtain ⟨a2, b2, q1, q2, q3, q4, q5⟩ := one B d x.o h.ob h.pb
  rcases p5 with rfl | ⟨rfl, rfl⟩
  · rcases Nat.lt_or_ge a1 b2 with hlt | hge
    · rcases q5 with rfl | ⟨rfl, rfl⟩
      · exact ⟨a1, a1, a2, a2, p1, q1, p2, p3, p4, q2, q3, q4, by omega⟩
      · exact ⟨a1, a1, a2, a2 + 1, p1, q1, p2, p3, p4, q2, q3, q4, by omega⟩
    · exact ⟨a1, a1, a2, b2, p1, q1, p2, p3, p4, q2, q3, q4, .inr hge⟩
  · rcases q5 with rfl | ⟨rfl, rfl⟩
    · exact ⟨a1, a1 + 1, a2, a2, p1, q1, p2, p3, p4, q2, q3, q4, by omega⟩
    · have := h.sep _ _ rfl rfl
      exact ⟨a1, a1 + 1, a2, a2 + 1, p1, q1, p2, p3, p4, q2, q3, q4, by show a1 + 1 ≤ a2 ∨ a2 + 1 ≤ a1; have : a1 ≠ a2 := this; omega⟩

set_option maxHeartbeats 2000000 in
theorem markNode_any (s : NodeS) (A : Option Addr) (n c : Nat) (l : List NMsgD) (lo hi k : Nat) (w : World) (hl : OwnL msgC 5 40 w lo hi A n c l) (hhi : hi ≤ w.heap.size) (hk0 : 0 < k) (hn : n ≤ 2097152) (hk : k ≤ 100000000) :
    Calls Try.prog 13 #[.agg #[.int .i64 s.me, .int .i64 s.round, .int .i64 s.step, .int .i64 s.lv, .int .i64 s.lr, .int .i64 s.vv, .int .i64 s.vr, .int .i64 s.polka, .int .i64 s.dec, .slice A n c], .int .i64 k] w (MarkOut msgC 5 40 lo hi A n c (marksNMsg k n) ((k + n * 5 : Nat) : Int) w) := by
  have HL := Lib.hid hl
  clear hl
  go_enter Try.func13, Try.ntmps13
  go_wp2_with fail
  refine (markNMsgS_any 40 A n c l lo hi k _ ?_ hk0 hn hk).mono ?_
  · exact HL.out.below ((Below.refl _ _).alloc (Nat.le_refl _) _) hhi
  rintro e w1 ⟨rfl, ho, hc⟩
  have HO := Lib.hid ho
  have HC := Lib.hid hc
  clear ho hc
  go_wp2_with fail
  go_ret
  exact ⟨rfl, HO.out, ((Chg.refl lo hi w).alloc _).trans HC.out⟩

set_option maxHeartbeats 2000000 in
theorem heldNode_any (s : NodeS) (A : Option Addr) (n c : Nat) (k : Nat) (w : World) (hl : RdL msgC 5 w w.heap.size A n c (marksNMsg k n)) (hk0 : 0 < k) (hn : n ≤ 2097152) (hk : k ≤ 100000000) :
    Calls Try.prog 15 #[.agg #[.int .i64 s.me, .int .i64 s.round, .int .i64 s.step, .int .i64 s.lv, .int .i64 s.lr, .int .i64 s.vv, .int .i64 s.vr, .int .i64 s.polka, .int .i64 s.dec, .slice A n c], .int .i64 k] w fun e w' => e = .returned (.int .i64 ((k + n * 5 : Nat) : Int)) ∧ Below w.heap.size w w' := by
  have HL := Lib.hid hl
  clear hl
  go_enter Try.func15, Try.ntmps15
  go_wp2_with fail
  refine (heldNMsgS_any A n c k _ ?_ hk0 hn hk).mono ?_
  · exact (HL.out.alloc (Nat.le_refl _) _).more (by simp)
  rintro e w1 ⟨rfl, hb⟩
  have HB := Lib.hid hb
  clear hb
  have hpos : ¬ ((k + n * 5 : Nat) : Int) < 0 := by omega
  go_wp2_with fail
  go_ret
  exact ⟨rfl, ((Below.refl _ _).alloc (Nat.le_refl _) _).trans (HB.out.mono (by simp))⟩

theorem startN_len (s : NodeS) (l : List NMsgD) : (startN s l).1.l.length ≤ 2000 ∧ (startN s l).1.o.length ≤ 2000 := by
  unfold startN
  split
  · rename_i h
    have hp := (nodeB_iff s l).1 h
    split
    · rename_i hr
      rw [beq_iff_eq] at hr
      obtain ⟨a, b⟩ := rest_ok (start_ok (x := ⟨s, l, []⟩) (r := 0) hp (by show s.round < 0; omega) (by decide))
      have h1 := startR_o ⟨s, l, []⟩ 0
      have h2 := a.len
      exact ⟨by show (restR _).l.length ≤ 2000; omega, by show (restR _).o.length ≤ 2000; simp only [List.length_nil] at h1; omega⟩
    · have := hp.len
      exact ⟨by show l.length ≤ 2000; omega, by simp⟩
  · simp
theorem getN_len (s : NodeS) (l : List NMsgD) (m : NMsgD) : (getN s l m).1.l.length ≤ 2000 ∧ (getN s l m).1.o.length ≤ 2000 := by
  unfold getN
  split
  · rename_i h
    have hp := (nodeB_iff s l).1 h
    split
    · have := hp.len
      exact ⟨by show l.length ≤ 2000; omega, by simp⟩
    · rename_i hb
      obtain ⟨a, b⟩ := rest_ok (x := ⟨s, l ++ [m], []⟩) (got_ok hp (by simpa using hb))
      have h2 := a.len
      exact ⟨by show (restR _).l.length ≤ 2000; omega, by show (restR _).o.length ≤ 2000; simp only [List.length_nil] at b; omega⟩
  · simp
theorem timeN_len (s : NodeS) (l : List NMsgD) (k : Int) : (timeN s l k).1.l.length ≤ 2000 ∧ (timeN s l k).1.o.length ≤ 2000 := by
  unfold timeN
  split
  · rename_i h
    have hp := (nodeB_iff s l).1 h
    split
    · have := hp.len
      exact ⟨by show l.length ≤ 2000; omega, by simp⟩
    · rename_i hb
      obtain ⟨h1, h2, h3, h4⟩ := time_ok hp (by simpa using hb)
      have hs := hp.step
      have hr := hp.round
      have main : NodeP (timeR ⟨s, l, []⟩ k).s (timeR ⟨s, l, []⟩ k).l ∧ (timeR ⟨s, l, []⟩ k).o.length ≤ 1 := by
        unfold timeR
        split
        · exact ⟨prevote_ok (x := ⟨s, l, []⟩) (v := 0) hp h2 (by decide), by simp [prevoteR, setStep, sendR]⟩
        · rename_i e1
          split
          · exact ⟨precommit_ok (x := ⟨s, l, []⟩) (v := 0) hp h2 (by decide), by simp [precommitR, setStep, sendR]⟩
          · rename_i e2
            rw [beq_iff_eq] at e1 e2
            refine ⟨start_ok (x := ⟨s, l, []⟩) hp (by show s.round < s.round + 1; omega) (by show s.round + 1 ≤ 11; have := h4 (by omega); omega), ?_⟩
            have := startR_o ⟨s, l, []⟩ (s.round + 1)
            simpa using this
      obtain ⟨a, b⟩ := rest_ok main.1
      have h2' := a.len
      have h3' := main.2
      exact ⟨by show (restR _).l.length ≤ 2000; omega, by show (restR _).o.length ≤ 2000; omega⟩
  · simp
end Go.Proofs.Ytmpppmeloieamaa
