/- TableOk of the program and of the reference. -/
import Derived.Test.YtpfppkjikkihfaaD
import Derived.WalkKit
import Derived.WalkSpells
import Derived.WalkLawsBesides
import Derived.Lib.Hide
namespace Go.Proofs.Ytpfppkjikkihfaa
open Go.RowKit

theorem l19At_any (A : Option Addr) (n c : Nat) (turn : Int) (l : List PeerD) (x : Int) (w : World) (hl : RdL peerC 4 w w.heap.size A n c l) :
    Calls Try.prog 59 #[.agg #[.slice A n c, .int .i64 turn], .int .i64 x] w fun e w' => e = .returned (.int .i64 (firstAt l x)) ∧ Below w.heap.size w w' := by
  have hn := hl.le
  have HL := Lib.hid (hl.alloc (Nat.le_refl _) (Obj.cells #[.slice A n c, .int .i64 turn] 55))
  have H0 := Lib.hid hl.1
  clear hl
  go_enter Try.func59, Try.ntmps59
  go_wp2_with fail
  go_loop [5] (fun i => ∃ k : Nat, k ≤ n ∧ i = .int .i64 k ∧ noneTo (fun p : PeerD => p.id == x) l k = true) (fun i => n - (intOf i).toNat)
  case atStart => exact ⟨0, by omega, rfl, noneTo_zero _ _⟩
  case round =>
    obtain ⟨k, hk, rfl, hno⟩ := hrel
    have HN := Lib.hid hno; clear hno
    by_cases hkn : k < n
    · obtain ⟨b, off, p, rfl, hb1, hp, c0, c1, c2, c3⟩ := peer_cells HL.out hkn
      have HP := Lib.hid hp; clear hp
      cases ht : (p.id == x)
      all_goals go_wp2
      · go_round
        case rel => exact ⟨k + 1, by omega, by go_num, noneTo_succ HP.out HN.out ht⟩
        case measure => simp [intOf]; omega
      · go_ret
        exact ⟨by rw [show firstAt l x = k from firstBy_hit HP.out HN.out ht]; rfl, (by repeat (first | exact Below.refl _ _ | assumption | refine Below.drew ?_ | refine belN ?_ _ | refine Below.alloc ?_ (by first | exact Nat.le_refl _ | (simp; done) | (simp; omega) | omega) _ | refine Below.setCell ?_ (by first | exact Nat.le_refl _ | (simp; done) | (simp; omega) | omega) _ | refine Below.trans ?_ (Below.mono (by assumption) (by first | exact Nat.le_refl _ | (simp; done) | (simp; omega) | omega))))⟩
    · obtain rfl : k = n := by omega
      go_wp2
      go_ret
      exact ⟨by rw [show firstAt l x = -1 from firstBy_miss (by rw [H0.out]; exact HN.out)]; rfl, (by repeat (first | exact Below.refl _ _ | assumption | refine Below.drew ?_ | refine belN ?_ _ | refine Below.alloc ?_ (by first | exact Nat.le_refl _ | (simp; done) | (simp; omega) | omega) _ | refine Below.setCell ?_ (by first | exact Nat.le_refl _ | (simp; done) | (simp; omega) | omega) _ | refine Below.trans ?_ (Below.mono (by assumption) (by first | exact Nat.le_refl _ | (simp; done) | (simp; omega) | omega))))⟩

def peerB (l : List PeerD) (i : Nat) (p : PeerD) : Bool := inB p.id 1 99 && inB p.til 0 1000320 && inB p.bans 0 20 && (firstAt l p.id == i)
def tableB (l : List PeerD) (turn : Int) : Bool := allTo (peerB l) l l.length && decide ((l.length : Int) ≤ 6) && inB turn 0 1000000

theorem tableB_no {l : List PeerD} {k : Nat} {p : PeerD} (turn : Int) (hp : l[k]? = some p) (h : peerB l k p = false) : tableB l turn = false := by
  simp [tableB, allTo_no hp h]
theorem peerB_next {l : List PeerD} {k : Nat} {p : PeerD} (hp : l[k]? = some p) (h : allTo (peerB l) l k = true) (hq : peerB l k p = true) : allTo (peerB l) l (k + 1) = true := by
  rw [allTo_succ hp, h, hq]; rfl
theorem belT {w : World} {o : Obj} {wr : World} (h : Below (w.heap.size + 1) (w.alloc o) wr) : Below w.heap.size w wr := ((Below.refl _ _).alloc (Nat.le_refl _) _).trans (h.mono (by omega))

set_option maxHeartbeats 800000 in
theorem TableOk_any (A : Option Addr) (n c : Nat) (turn : Int) (l : List PeerD) (w : World) (hl : RdL peerC 4 w w.heap.size A n c l) :
    Calls Try.prog 31 #[.agg #[.slice A n c, .int .i64 turn]] w fun e w' => e = .returned (.bool (tableB l turn)) ∧ Below w.heap.size w w' := by
  have hn := hl.le
  have HL := Lib.hid (hl.alloc (Nat.le_refl _) (Obj.cells #[.slice A n c, .int .i64 turn] 55))
  have H0 := Lib.hid hl.1
  clear hl
  go_enter Try.func31, Try.ntmps31
  go_wp2_with fail
  go_loopw [8] (fun i wr => ∃ k : Nat, k ≤ n ∧ i = .int .i64 k ∧ Below (w.heap.size + 1) (w.alloc (Obj.cells #[.slice A n c, .int .i64 turn] 55)) wr ∧ allTo (peerB l) l k = true) (fun i _ => n - (intOf i).toNat)
  case atStart => exact ⟨0, by omega, rfl, Below.refl _ _, allTo_zero _ _⟩
  case round =>
    obtain ⟨k, hk, rfl, hb, hno⟩ := hrel
    have HN := Lib.hid hno; clear hno
    have hz : w.heap.size < wr.heap.size := by have := hb.size; simp at this; omega
    have t0 : wr.cell? ⟨w.heap.size, 0, none⟩ = some (.slice A n c) := by rw [hb.cell (p := ⟨w.heap.size, 0, none⟩) (by simp)]; simp
    have t1 : wr.cell? ⟨w.heap.size, 1, none⟩ = some (.int .i64 turn) := by rw [hb.cell (p := ⟨w.heap.size, 1, none⟩) (by simp)]; simp
    by_cases hkn : k < n
    · have HR := Lib.hid (HL.out.below hb (by omega))
      obtain ⟨b, off, p, rfl, hb1, hp, c0, c1, c2, c3⟩ := peer_cells HR.out hkn
      have hb2 : b < wr.heap.size := by omega
      have HP := Lib.hid hp; clear hp
      cases g1 : inB p.id 1 99
      · go_wp2_with (go_at_call 61; (with_reducible refine (within_any _ _ _ _).mono ?_); rintro e w' ⟨rfl, rfl⟩)
        go_ret
        exact ⟨by rw [tableB_no turn HP.out (by simp [peerB, g1])]; rfl, (belT hb).trans (Below.mono (by repeat (first | exact Below.refl _ _ | refine Below.alloc ?_ (by first | exact Nat.le_refl _ | (simp; done) | (simp; omega)) _ | refine Below.setCell ?_ (by first | exact Nat.le_refl _ | (simp; done) | (simp; omega)) _)) (Nat.le_of_lt hz))⟩
      · cases g2 : inB p.til 0 1000320
        · go_wp2_with (go_at_call 61; (with_reducible refine (within_any _ _ _ _).mono ?_); rintro e w' ⟨rfl, rfl⟩)
          go_ret
          exact ⟨by rw [tableB_no turn HP.out (by simp [peerB, g2])]; rfl, (belT hb).trans (Below.mono (by repeat (first | exact Below.refl _ _ | refine Below.alloc ?_ (by first | exact Nat.le_refl _ | (simp; done) | (simp; omega)) _ | refine Below.setCell ?_ (by first | exact Nat.le_refl _ | (simp; done) | (simp; omega)) _)) (Nat.le_of_lt hz))⟩
        · cases g3 : inB p.bans 0 20
          · go_wp2_with (go_at_call 61; (with_reducible refine (within_any _ _ _ _).mono ?_); rintro e w' ⟨rfl, rfl⟩)
            go_ret
            exact ⟨by rw [tableB_no turn HP.out (by simp [peerB, g3])]; rfl, (belT hb).trans (Below.mono (by repeat (first | exact Below.refl _ _ | refine Below.alloc ?_ (by first | exact Nat.le_refl _ | (simp; done) | (simp; omega)) _ | refine Below.setCell ?_ (by first | exact Nat.le_refl _ | (simp; done) | (simp; omega)) _)) (Nat.le_of_lt hz))⟩
          · cases g4 : (firstAt l p.id == k)
            all_goals
              go_wp2_with (first | (go_at_call 61; (with_reducible refine (within_any _ _ _ _).mono ?_); rintro e w' ⟨rfl, rfl⟩) | (go_at_call 62; (with_reducible refine (at_any _ _ _ _ l _ _ ((HR.out.more (by omega : _ ≤ wr.heap.size)).alloc (by simp) _ |>.more (by simp))).mono ?_); rintro e w1 ⟨rfl, hb3⟩; obtain ⟨hc, hf, hz1⟩ := bcell hb3))
            · go_ret
              exact ⟨by rw [tableB_no turn HP.out (by simp [peerB, g4])]; rfl, (belT hb).trans (Below.mono (B := wr.heap.size) (by repeat (first | exact Below.refl _ _ | assumption | refine Below.drew ?_ | refine belN ?_ _ | refine Below.alloc ?_ (by first | exact Nat.le_refl _ | (simp; done) | (simp; omega) | omega) _ | refine Below.setCell ?_ (by first | exact Nat.le_refl _ | (simp; done) | (simp; omega) | omega) _ | refine Below.trans ?_ (Below.mono (by assumption) (by first | exact Nat.le_refl _ | (simp; done) | (simp; omega) | omega)))) (Nat.le_of_lt hz))⟩
            · go_roundw
              case rel => exact ⟨k + 1, by omega, by go_num, hb.trans (Below.mono (B := wr.heap.size) (by repeat (first | exact Below.refl _ _ | assumption | refine Below.drew ?_ | refine belN ?_ _ | refine Below.alloc ?_ (by first | exact Nat.le_refl _ | (simp; done) | (simp; omega) | omega) _ | refine Below.setCell ?_ (by first | exact Nat.le_refl _ | (simp; done) | (simp; omega) | omega) _ | refine Below.trans ?_ (Below.mono (by assumption) (by first | exact Nat.le_refl _ | (simp; done) | (simp; omega) | omega)))) (by omega)), peerB_next HP.out HN.out (by simp [peerB, g1, g2, g3, g4])⟩
              case measure => simp [intOf]; omega
    · obtain rfl : k = n := by omega
      have hA : allTo (peerB l) l l.length = true := by rw [H0.out]; exact HN.out
      have h0 := H0.out
      by_cases h6 : (k : Int) ≤ 6
      · have HE : Hid (tableB l turn = inB turn 0 1000000) := by show _ = _; unfold tableB; rw [hA, h0]; simp [h6]
        clear hA h0
        go_wp2_with (go_at_call 48; (with_reducible refine (isTime_any _ _).mono ?_); rintro e w' ⟨rfl, rfl⟩)
        go_ret
        exact ⟨by rw [HE.out]; rfl, belT hb⟩
      · have HE : Hid (tableB l turn = false) := by show _ = _; simp [tableB, h0, h6]
        clear hA h0
        go_wp2_with (go_at_call 48; (with_reducible refine (isTime_any _ _).mono ?_); rintro e w' ⟨rfl, rfl⟩)
        go_ret
        exact ⟨by rw [HE.out]; rfl, belT hb⟩

set_option maxHeartbeats 800000 in
theorem sTableOk_any (A : Option Addr) (n c : Nat) (turn : Int) (l : List PeerD) (w : World) (hl : RdL peerC 4 w w.heap.size A n c l) :
    Calls Try.prog 29 #[.agg #[.slice A n c, .int .i64 turn]] w fun e w' => e = .returned (.bool (tableB l turn)) ∧ Below w.heap.size w w' := by
  have hn := hl.le
  have HL := Lib.hid (hl.alloc (Nat.le_refl _) (Obj.cells #[.slice A n c, .int .i64 turn] 55))
  have H0 := Lib.hid hl.1
  clear hl
  by_cases h6 : (6 : Int) < n
  · have HE : Hid (tableB l turn = false) := by show _ = _; simp [tableB, H0.out]; omega
    go_enter Try.func29, Try.ntmps29
    go_wp2_with (go_at_call 50; (with_reducible refine (l10Time_any _ _).mono ?_); rintro e w' ⟨rfl, rfl⟩)
    go_ret
    exact ⟨by rw [HE.out]; rfl, (by repeat (first | exact Below.refl _ _ | assumption | refine Below.drew ?_ | refine belN ?_ _ | refine Below.alloc ?_ (by first | exact Nat.le_refl _ | (simp; done) | (simp; omega) | omega) _ | refine Below.setCell ?_ (by first | exact Nat.le_refl _ | (simp; done) | (simp; omega) | omega) _ | refine Below.trans ?_ (Below.mono (by assumption) (by first | exact Nat.le_refl _ | (simp; done) | (simp; omega) | omega))))⟩
  cases h7 : inB turn 0 1000000
  · have HE : Hid (tableB l turn = false) := by show _ = _; simp [tableB, h7]
    go_enter Try.func29, Try.ntmps29
    go_wp2_with (go_at_call 50; (with_reducible refine (l10Time_any _ _).mono ?_); rintro e w' ⟨rfl, rfl⟩)
    go_ret
    exact ⟨by rw [HE.out]; rfl, (by repeat (first | exact Below.refl _ _ | assumption | refine Below.drew ?_ | refine belN ?_ _ | refine Below.alloc ?_ (by first | exact Nat.le_refl _ | (simp; done) | (simp; omega) | omega) _ | refine Below.setCell ?_ (by first | exact Nat.le_refl _ | (simp; done) | (simp; omega) | omega) _ | refine Below.trans ?_ (Below.mono (by assumption) (by first | exact Nat.le_refl _ | (simp; done) | (simp; omega) | omega))))⟩
  go_enter Try.func29, Try.ntmps29
  go_wp2_with (go_at_call 50; (with_reducible refine (l10Time_any _ _).mono ?_); rintro e w' ⟨rfl, rfl⟩)
  go_loopw [3] (fun i wr => ∃ k : Nat, k ≤ n ∧ i = .int .i64 k ∧ Below (w.heap.size + 1) (w.alloc (Obj.cells #[.slice A n c, .int .i64 turn] 55)) wr ∧ allTo (peerB l) l k = true) (fun i _ => n - (intOf i).toNat)
  case atStart => exact ⟨0, by omega, rfl, Below.refl _ _, allTo_zero _ _⟩
  case round =>
    obtain ⟨k, hk, rfl, hb, hno⟩ := hrel
    have HN := Lib.hid hno; clear hno
    have hz : w.heap.size < wr.heap.size := by have := hb.size; simp at this; omega
    have t0 : wr.cell? ⟨w.heap.size, 0, none⟩ = some (.slice A n c) := by rw [hb.cell (p := ⟨w.heap.size, 0, none⟩) (by simp)]; simp
    have t1 : wr.cell? ⟨w.heap.size, 1, none⟩ = some (.int .i64 turn) := by rw [hb.cell (p := ⟨w.heap.size, 1, none⟩) (by simp)]; simp
    by_cases hkn : k < n
    · have HR := Lib.hid (HL.out.below hb (by omega))
      obtain ⟨b, off, p, rfl, hb1, hp, c0, c1, c2, c3⟩ := peer_cells HR.out hkn
      have hb2 : b < wr.heap.size := by omega
      have HP := Lib.hid hp; clear hp
      cases g1 : inB p.id 1 99
      · go_wp2_with (first | (go_at_call 58; (with_reducible refine (l1In_any _ _ _ _).mono ?_); rintro e w' ⟨rfl, rfl⟩) | (go_at_call 59; (with_reducible refine (l19At_any _ _ _ _ l _ _ ((HR.out.more (by omega : _ ≤ wr.heap.size)).alloc (by simp) _ |>.more (by simp))).mono ?_); rintro e w1 ⟨rfl, hb3⟩; obtain ⟨hc, hf, hz1⟩ := bcell hb3))
        first
          | (go_ret
             exact ⟨by rw [tableB_no turn HP.out (by simp [peerB, *])]; rfl, (belT hb).trans (Below.mono (B := wr.heap.size) (by repeat (first | exact Below.refl _ _ | assumption | refine Below.drew ?_ | refine belN ?_ _ | refine Below.alloc ?_ (by first | exact Nat.le_refl _ | (simp; done) | (simp; omega) | omega) _ | refine Below.setCell ?_ (by first | exact Nat.le_refl _ | (simp; done) | (simp; omega) | omega) _ | refine Below.trans ?_ (Below.mono (by assumption) (by first | exact Nat.le_refl _ | (simp; done) | (simp; omega) | omega)))) (Nat.le_of_lt hz))⟩)
          | (go_roundw
             case rel => exact ⟨k + 1, by omega, by go_num, hb.trans (Below.mono (B := wr.heap.size) (by repeat (first | exact Below.refl _ _ | assumption | refine Below.drew ?_ | refine belN ?_ _ | refine Below.alloc ?_ (by first | exact Nat.le_refl _ | (simp; done) | (simp; omega) | omega) _ | refine Below.setCell ?_ (by first | exact Nat.le_refl _ | (simp; done) | (simp; omega) | omega) _ | refine Below.trans ?_ (Below.mono (by assumption) (by first | exact Nat.le_refl _ | (simp; done) | (simp; omega) | omega)))) (by omega)), peerB_next HP.out HN.out (by simp [peerB, *])⟩
             case measure => simp [intOf]; omega)
      · cases g2 : inB p.til 0 1000320
        · go_wp2_with (first | (go_at_call 58; (with_reducible refine (l1In_any _ _ _ _).mono ?_); rintro e w' ⟨rfl, rfl⟩) | (go_at_call 59; (with_reducible refine (l19At_any _ _ _ _ l _ _ ((HR.out.more (by omega : _ ≤ wr.heap.size)).alloc (by simp) _ |>.more (by simp))).mono ?_); rintro e w1 ⟨rfl, hb3⟩; obtain ⟨hc, hf, hz1⟩ := bcell hb3))
          first
            | (go_ret
               exact ⟨by rw [tableB_no turn HP.out (by simp [peerB, *])]; rfl, (belT hb).trans (Below.mono (B := wr.heap.size) (by repeat (first | exact Below.refl _ _ | assumption | refine Below.drew ?_ | refine belN ?_ _ | refine Below.alloc ?_ (by first | exact Nat.le_refl _ | (simp; done) | (simp; omega) | omega) _ | refine Below.setCell ?_ (by first | exact Nat.le_refl _ | (simp; done) | (simp; omega) | omega) _ | refine Below.trans ?_ (Below.mono (by assumption) (by first | exact Nat.le_refl _ | (simp; done) | (simp; omega) | omega)))) (Nat.le_of_lt hz))⟩)
            | (go_roundw
               case rel => exact ⟨k + 1, by omega, by go_num, hb.trans (Below.mono (B := wr.heap.size) (by repeat (first | exact Below.refl _ _ | assumption | refine Below.drew ?_ | refine belN ?_ _ | refine Below.alloc ?_ (by first | exact Nat.le_refl _ | (simp; done) | (simp; omega) | omega) _ | refine Below.setCell ?_ (by first | exact Nat.le_refl _ | (simp; done) | (simp; omega) | omega) _ | refine Below.trans ?_ (Below.mono (by assumption) (by first | exact Nat.le_refl _ | (simp; done) | (simp; omega) | omega)))) (by omega)), peerB_next HP.out HN.out (by simp [peerB, *])⟩
               case measure => simp [intOf]; omega)
        · cases g3 : inB p.bans 0 20
          · go_wp2_with (first | (go_at_call 58; (with_reducible refine (l1In_any _ _ _ _).mono ?_); rintro e w' ⟨rfl, rfl⟩) | (go_at_call 59; (with_reducible refine (l19At_any _ _ _ _ l _ _ ((HR.out.more (by omega : _ ≤ wr.heap.size)).alloc (by simp) _ |>.more (by simp))).mono ?_); rintro e w1 ⟨rfl, hb3⟩; obtain ⟨hc, hf, hz1⟩ := bcell hb3))
            first
              | (go_ret
                 exact ⟨by rw [tableB_no turn HP.out (by simp [peerB, *])]; rfl, (belT hb).trans (Below.mono (B := wr.heap.size) (by repeat (first | exact Below.refl _ _ | assumption | refine Below.drew ?_ | refine belN ?_ _ | refine Below.alloc ?_ (by first | exact Nat.le_refl _ | (simp; done) | (simp; omega) | omega) _ | refine Below.setCell ?_ (by first | exact Nat.le_refl _ | (simp; done) | (simp; omega) | omega) _ | refine Below.trans ?_ (Below.mono (by assumption) (by first | exact Nat.le_refl _ | (simp; done) | (simp; omega) | omega)))) (Nat.le_of_lt hz))⟩)
              | (go_roundw
                 case rel => exact ⟨k + 1, by omega, by go_num, hb.trans (Below.mono (B := wr.heap.size) (by repeat (first | exact Below.refl _ _ | assumption | refine Below.drew ?_ | refine belN ?_ _ | refine Below.alloc ?_ (by first | exact Nat.le_refl _ | (simp; done) | (simp; omega) | omega) _ | refine Below.setCell ?_ (by first | exact Nat.le_refl _ | (simp; done) | (simp; omega) | omega) _ | refine Below.trans ?_ (Below.mono (by assumption) (by first | exact Nat.le_refl _ | (simp; done) | (simp; omega) | omega)))) (by omega)), peerB_next HP.out HN.out (by simp [peerB, *])⟩
                 case measure => simp [intOf]; omega)
          · cases g4 : (firstAt l p.id == k)
            · go_wp2_with (first | (go_at_call 58; (with_reducible refine (l1In_any _ _ _ _).mono ?_); rintro e w' ⟨rfl, rfl⟩) | (go_at_call 59; (with_reducible refine (l19At_any _ _ _ _ l _ _ ((HR.out.more (by omega : _ ≤ wr.heap.size)).alloc (by simp) _ |>.more (by simp))).mono ?_); rintro e w1 ⟨rfl, hb3⟩; obtain ⟨hc, hf, hz1⟩ := bcell hb3))
              first
                | (go_ret
                   exact ⟨by rw [tableB_no turn HP.out (by simp [peerB, *])]; rfl, (belT hb).trans (Below.mono (B := wr.heap.size) (by repeat (first | exact Below.refl _ _ | assumption | refine Below.drew ?_ | refine belN ?_ _ | refine Below.alloc ?_ (by first | exact Nat.le_refl _ | (simp; done) | (simp; omega) | omega) _ | refine Below.setCell ?_ (by first | exact Nat.le_refl _ | (simp; done) | (simp; omega) | omega) _ | refine Below.trans ?_ (Below.mono (by assumption) (by first | exact Nat.le_refl _ | (simp; done) | (simp; omega) | omega)))) (Nat.le_of_lt hz))⟩)
                | (go_roundw
                   case rel => exact ⟨k + 1, by omega, by go_num, hb.trans (Below.mono (B := wr.heap.size) (by repeat (first | exact Below.refl _ _ | assumption | refine Below.drew ?_ | refine belN ?_ _ | refine Below.alloc ?_ (by first | exact Nat.le_refl _ | (simp; done) | (simp; omega) | omega) _ | refine Below.setCell ?_ (by first | exact Nat.le_refl _ | (simp; done) | (simp; omega) | omega) _ | refine Below.trans ?_ (Below.mono (by assumption) (by first | exact Nat.le_refl _ | (simp; done) | (simp; omega) | omega)))) (by omega)), peerB_next HP.out HN.out (by simp [peerB, *])⟩
                   case measure => simp [intOf]; omega)
            · go_wp2_with (first | (go_at_call 58; (with_reducible refine (l1In_any _ _ _ _).mono ?_); rintro e w' ⟨rfl, rfl⟩) | (go_at_call 59; (with_reducible refine (l19At_any _ _ _ _ l _ _ ((HR.out.more (by omega : _ ≤ wr.heap.size)).alloc (by simp) _ |>.more (by simp))).mono ?_); rintro e w1 ⟨rfl, hb3⟩; obtain ⟨hc, hf, hz1⟩ := bcell hb3))
              first
                | (go_ret
                   exact ⟨by rw [tableB_no turn HP.out (by simp [peerB, *])]; rfl, (belT hb).trans (Below.mono (B := wr.heap.size) (by repeat (first | exact Below.refl _ _ | assumption | refine Below.drew ?_ | refine belN ?_ _ | refine Below.alloc ?_ (by first | exact Nat.le_refl _ | (simp; done) | (simp; omega) | omega) _ | refine Below.setCell ?_ (by first | exact Nat.le_refl _ | (simp; done) | (simp; omega) | omega) _ | refine Below.trans ?_ (Below.mono (by assumption) (by first | exact Nat.le_refl _ | (simp; done) | (simp; omega) | omega)))) (Nat.le_of_lt hz))⟩)
                | (go_roundw
                   case rel => exact ⟨k + 1, by omega, by go_num, hb.trans (Below.mono (B := wr.heap.size) (by repeat (first | exact Below.refl _ _ | assumption | refine Below.drew ?_ | refine belN ?_ _ | refine Below.alloc ?_ (by first | exact Nat.le_refl _ | (simp; done) | (simp; omega) | omega) _ | refine Below.setCell ?_ (by first | exact Nat.le_refl _ | (simp; done) | (simp; omega) | omega) _ | refine Below.trans ?_ (Below.mono (by assumption) (by first | exact Nat.le_refl _ | (simp; done) | (simp; omega) | omega)))) (by omega)), peerB_next HP.out HN.out (by simp [peerB, *])⟩
                   case measure => simp [intOf]; omega)
    · obtain rfl : k = n := by omega
      have HE : Hid (tableB l turn = true) := by
        show _ = _
        have hA : allTo (peerB l) l l.length = true := by rw [H0.out]; exact HN.out
        unfold tableB; rw [hA, H0.out, h7]; simp; omega
      go_wp2
      go_ret
      exact ⟨by rw [HE.out]; rfl, belT hb⟩
end Go.Proofs.Ytpfppkjikkihfaa
