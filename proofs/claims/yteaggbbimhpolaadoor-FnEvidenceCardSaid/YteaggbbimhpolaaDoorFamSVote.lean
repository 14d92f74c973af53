/- The family of small functions on SVote: copies, sizes, comparisons (written by wip/fam.py). -/
import Derived.Test.YteaggbbimhpolaaDoorEv
import Derived.Test.YteaggbbimhpolaaDoorFamVote
import Derived.Laws.NewBlocks
import Derived.WalkKit
import Derived.WalkSpells
import Derived.WalkLawsBesides
import Derived.Lib.Hide
namespace Go.Proofs.YteaggbbimhpolaaDoor
open Go.RowKit

structure SVoteD where
  h : Int
  r : Int
  st : Int
  id : ByteArray
  v : Int
  sig : ByteArray
def svtC (p : SVoteD) : List Value := [.int .i64 p.h, .int .i64 p.r, .int .i64 p.st, .string p.id, .int .i64 p.v, .string p.sig]
theorem svtC_len (p : SVoteD) : (svtC p).length = 6 := rfl

theorem svt_cells {w : World} {B : Nat} {A : Option Addr} {n c : Nat} {l : List SVoteD} (h : RdL svtC 6 w B A n c l) {k : Nat} (hk : k < n) :
    ∃ b off p, A = some ⟨b, off, none⟩ ∧ b < B ∧ l[k]? = some p ∧ w.cell? ⟨b, off + k * 6, none⟩ = some (.int .i64 p.h) ∧ w.cell? ⟨b, off + k * 6 + 1, none⟩ = some (.int .i64 p.r) ∧ w.cell? ⟨b, off + k * 6 + 2, none⟩ = some (.int .i64 p.st) ∧ w.cell? ⟨b, off + k * 6 + 3, none⟩ = some (.string p.id) ∧ w.cell? ⟨b, off + k * 6 + 4, none⟩ = some (.int .i64 p.v) ∧ w.cell? ⟨b, off + k * 6 + 5, none⟩ = some (.string p.sig) := by
  obtain ⟨b, off, p, e, hb, hp, hc⟩ := h.at_ svtC_len hk
  exact ⟨b, off, p, e, hb, hp, hc 0 (by omega), hc 1 (by omega), hc 2 (by omega), hc 3 (by omega), hc 4 (by omega), hc 5 (by omega)⟩

theorem toSVote_flat (h' : Int) (r' : Int) (st' : Int) (id' : ByteArray) (v' : Int) (sig' : ByteArray) (w : World) :
    Calls Tryd.prog 33 #[.agg #[.int .i64 h', .int .i64 r', .int .i64 st', .string id', .int .i64 v', .string sig']] w fun e w' => e = .returned (.agg #[.int .i64 h', .int .i64 r', .int .i64 st', .string id', .int .i64 v', .string sig']) ∧ Below w.heap.size w w' := toSVote_any ⟨h', r', st', id', v'⟩ sig' w

theorem infoSVote : (Tryd.prog.info? 32).map (fun i => (i.zero, i.size, i.bytes)) = some (some (.agg #[.int .i64 0, .int .i64 0, .int .i64 0, .string ⟨#[]⟩, .int .i64 0, .string ⟨#[]⟩]), 6, 64) := by kernel_rfl

set_option maxHeartbeats 800000 in
theorem toSVoteS_any (A : Option Addr) (n c : Nat) (l : List SVoteD) (w : World) (hl : RdL svtC 6 w w.heap.size A n c l) (hn : n ≤ 1048576) :
    Calls Tryd.prog 16 #[.slice A n c] w (SlOut svtC 6 32 n l w) := by
  obtain ⟨i0, hi, hz0, hz1, hz2⟩ := info_parts infoSVote
  obtain ⟨w1, hrun, hown, hg⟩ := run_make_full (P := Tryd.prog) w w.heap.size 42 32 i0 _ 6 Tryd.underlying42 hi hz0 hz1 .i64 .i64 n (by rw [hz2]; omega) (by unfold maxLen; omega) (Nat.le_refl _)
  have hb1 : Below w.heap.size w w1 := (Below.refl _ _).grown hg (Nat.le_refl _) (fun k hk => by cases hk)
  have HL := Lib.hid hl
  have HO := Lib.hid (Laid.start svtC 6 l n hown)
  have HB := Lib.hid hb1
  clear hl hown hb1 hg hi hz0 hz1 hz2
  go_enter Tryd.func16, Tryd.ntmps16
  go_wp2_with fail
  clear hrun
  go_loopw [4] (fun i wr => ∃ k : Nat, k ≤ n ∧ i = .int .i64 k ∧ Below w.heap.size w wr ∧ w.heap.size < wr.heap.size ∧ Laid svtC 6 l k n wr w.heap.size 32) (fun i _ => n - (intOf i).toNat)
  case atStart =>
    obtain ⟨cur, h1, _⟩ := HO.out
    exact ⟨0, by omega, rfl, HB.out, h1.lt, HO.out⟩
  case round =>
    obtain ⟨k, hk, rfl, hb, hz, cur, h1, h2, h3⟩ := hrel
    have H1 := Lib.hid h1; have H2 := Lib.hid h2; have H3 := Lib.hid h3
    clear h1 h2 h3
    by_cases hkn : k < n
    · obtain ⟨b, off, p, rfl, hb1, hp, c0, c1, c2, c3, c4, c5⟩ := svt_cells (HL.out.below hb (Nat.le_refl _)) hkn
      have HP := Lib.hid hp; clear hp
      have hsz : k * 6 + 6 ≤ cur.size := by rw [H2.out]; have := Nat.mul_le_mul_right 6 hkn; omega
      go_wp2_with (go_at_call 33; (with_reducible refine (toSVote_flat _ _ _ _ _ _ _).mono ?_); rintro e w2 ⟨rfl, hb2⟩; have HQ := Lib.hid (H1.out.below hb2 hz); have q0 := HQ.out.has (k * 6) (by omega); have q1 := HQ.out.has (k * 6 + 1) (by omega); have q2 := HQ.out.has (k * 6 + 2) (by omega); have q3 := HQ.out.has (k * 6 + 3) (by omega); have q4 := HQ.out.has (k * 6 + 4) (by omega); have q5 := HQ.out.has (k * 6 + 5) (by omega); have qf := HQ.out.frozen)
      have hz2 := hb2.size
      go_roundw
      case rel => exact ⟨k + 1, by omega, by go_num, ((((((hb.trans (hb2.mono (Nat.le_of_lt hz))).setCell (Nat.le_refl _) _).setCell (Nat.le_refl _) _).setCell (Nat.le_refl _) _).setCell (Nat.le_refl _) _).setCell (Nat.le_refl _) _).setCell (Nat.le_refl _) _, by simp; omega,
        Laid.next svtC_len HP.out ((((((HQ.out.set_ _ _).set_ _ _).set_ _ _).set_ _ _).set_ _ _).set_ _ _) (by simpa using H2.out) (fun j hj => by simp [Array.getElem?_setIfInBounds]; rw [if_neg (by omega), if_neg (by omega), if_neg (by omega), if_neg (by omega), if_neg (by omega), if_neg (by omega)]; exact H3.out j hj)
          (fun j hj => by rcases (by omega : j = 0 ∨ j = 1 ∨ j = 2 ∨ j = 3 ∨ j = 4 ∨ j = 5) with rfl | rfl | rfl | rfl | rfl | rfl <;> simp [Array.getElem?_setIfInBounds, svtC] <;> omega)⟩
      case measure => simp [intOf]; omega
    · obtain rfl : k = n := by omega
      go_wp2
      go_ret
      exact ⟨_, rfl, Laid.done svtC_len HL.out.1 (by unfold maxLen; omega) (Nat.le_refl _) ⟨cur, H1.out, H2.out, H3.out⟩, hb⟩

set_option maxHeartbeats 1000000 in
theorem eqSVote_same (h' : Int) (r' : Int) (st' : Int) (id' : ByteArray) (v' : Int) (sig' : ByteArray) (w : World) :
    Calls Tryd.prog 35 #[.agg #[.int .i64 h', .int .i64 r', .int .i64 st', .string id', .int .i64 v', .string sig'], .agg #[.int .i64 h', .int .i64 r', .int .i64 st', .string id', .int .i64 v', .string sig']] w fun e w' => e = .returned (.bool true) ∧ Below w.heap.size w w' := by
  go_enter Tryd.func35, Tryd.ntmps35
  go_wp2_with fail
  refine (eqVote_same h' r' st' id' v' _).mono ?_
  rintro e w1 ⟨rfl, hb⟩
  obtain ⟨hc, hf, hz⟩ := bcell hb
  have hz' : w.heap.size + 2 ≤ w1.heap.size := by simp at hz; omega
  have hy := nlt hz'
  have HB : Hid (Below w.heap.size w w1) := (by repeat (first | exact Below.refl _ _ | assumption | refine Below.drew ?_ | refine belN ?_ _ | refine Below.alloc ?_ (by first | exact Nat.le_refl _ | (simp; done) | (simp; omega) | omega) _ | refine Below.setCell ?_ (by first | exact Nat.le_refl _ | (simp; done) | (simp; omega) | omega) _ | refine Below.trans ?_ (Below.mono (by assumption) (by first | exact Nat.le_refl _ | (simp; done) | (simp; omega) | omega))))
  go_wp2
  go_ret
  exact ⟨rfl, HB.out⟩
set_option maxHeartbeats 1000000 in
theorem eqEvidence_same (e : EvD) (w : World) :
    Calls Tryd.prog 18 #[.agg #[.int .i64 e.a.h, .int .i64 e.a.r, .int .i64 e.a.st, .string e.a.id, .int .i64 e.a.v, .string e.sa, .int .i64 e.b.h, .int .i64 e.b.r, .int .i64 e.b.st, .string e.b.id, .int .i64 e.b.v, .string e.sb], .agg #[.int .i64 e.a.h, .int .i64 e.a.r, .int .i64 e.a.st, .string e.a.id, .int .i64 e.a.v, .string e.sa, .int .i64 e.b.h, .int .i64 e.b.r, .int .i64 e.b.st, .string e.b.id, .int .i64 e.b.v, .string e.sb]] w fun r w' => r = .returned (.bool true) ∧ Below w.heap.size w w' := by
  go_enter Tryd.func18, Tryd.ntmps18
  go_wp2_with fail
  refine (eqSVote_same e.a.h e.a.r e.a.st e.a.id e.a.v e.sa _).mono ?_
  rintro r w1 ⟨rfl, hb⟩
  obtain ⟨hc, hf, hz⟩ := bcell hb
  have hz' : w.heap.size + 2 ≤ w1.heap.size := by simp at hz; omega
  have hy := nlt hz'
  have HB : Hid (Below w.heap.size w w1) := (by repeat (first | exact Below.refl _ _ | assumption | refine Below.drew ?_ | refine belN ?_ _ | refine Below.alloc ?_ (by first | exact Nat.le_refl _ | (simp; done) | (simp; omega) | omega) _ | refine Below.setCell ?_ (by first | exact Nat.le_refl _ | (simp; done) | (simp; omega) | omega) _ | refine Below.trans ?_ (Below.mono (by assumption) (by first | exact Nat.le_refl _ | (simp; done) | (simp; omega) | omega))))
  go_wp2_with fail
  refine (eqSVote_same e.b.h e.b.r e.b.st e.b.id e.b.v e.sb _).mono ?_
  rintro r w2 ⟨rfl, hb2⟩
  have HB2 := Lib.hid (HB.out.trans (hb2.mono HB.out.size))
  go_wp2_with fail
  go_ret
  exact ⟨rfl, HB2.out⟩
set_option maxHeartbeats 1000000 in
theorem szSVoteS_any (A : Option Addr) (n c : Nat) (l : List SVoteD) (left : Int) (w : World) (hl : RdL svtC 6 w w.heap.size A n c l) (hs : ∀ x ∈ l, x.id.size ≤ maxLen ∧ x.sig.size ≤ maxLen) (h0 : 0 ≤ left) (h1 : left ≤ 1048576) :
    Calls Tryd.prog 14 #[.slice A n c, .int .i64 left] w (SzOut n left w) := by
  have hn := hl.le
  have HL := Lib.hid hl
  have HS := Lib.hid hs
  clear hl hs
  by_cases hc : left < n
  · go_enter Tryd.func14, Tryd.ntmps14
    go_wp2_with fail
    go_ret
    exact ⟨-1, rfl, by omega, by omega, by omega, Below.refl _ _⟩
  · go_enter Tryd.func14, Tryd.ntmps14
    go_wp2_with fail
    go_loopw [1, 5] (fun v i wr => ∃ (k : Nat) (r : Int), k ≤ n ∧ i = .int .i64 k ∧ v = .int .i64 r ∧ 0 ≤ r ∧ r ≤ left - n ∧ Below w.heap.size w wr) (fun _ i _ => n - (intOf i).toNat)
    case atStart => exact ⟨0, left - n, by omega, rfl, rfl, by omega, by omega, Below.refl _ _⟩
    case round =>
      obtain ⟨k, r, hk, rfl, rfl, q0, q1, hb⟩ := hrel
      have hz := hb.size
      by_cases hkn : k < n
      · obtain ⟨b, off, p, rfl, hb1, hp, c0, c1, c2, c3, c4, c5⟩ := svt_cells (HL.out.below hb (Nat.le_refl _)) hkn
        obtain ⟨m1, m2⟩ := HS.out p (List.mem_of_getElem? hp)
        have HSZ := Lib.hid (szSVote_any ⟨p.h, p.r, p.st, p.id, p.v⟩ p.sig r wr q0 (by omega) m1 m2)
        have HB := Lib.hid hb
        clear m1 m2 hp hb
        go_wp2_with fail
        refine HSZ.out.mono ?_
        rintro e w2 ⟨r2, rfl, q2, q3, hb2⟩
        have HB2 := Lib.hid (HB.out.trans (hb2.mono hz))
        clear hb2
        by_cases hr2 : r2 < 0
        · go_wp2_with fail
          go_ret
          exact ⟨-1, rfl, by omega, by omega, by omega, HB2.out⟩
        · go_wp2_with fail
          go_roundw
          case rel => exact ⟨k + 1, r2, by omega, by go_num, rfl, by omega, by omega, HB2.out⟩
          case measure => simp [intOf]; omega
      · obtain rfl : k = n := by omega
        go_wp2_with fail
        go_ret
        exact ⟨r, rfl, by omega, by omega, by omega, hb⟩

set_option maxHeartbeats 800000 in
theorem eqSVoteS_same (A : Option Addr) (n c : Nat) (A' : Option Addr) (c' : Nat) (l : List SVoteD) (w : World) (hl : RdL svtC 6 w w.heap.size A n c l) (hl' : RdL svtC 6 w w.heap.size A' n c' l) :
    Calls Tryd.prog 19 #[.slice A n c, .slice A' n c'] w fun e w' => e = .returned (.bool true) ∧ Below w.heap.size w w' := by
  have hn := hl.le
  have HL := Lib.hid hl
  have HL' := Lib.hid hl'
  clear hl hl'
  go_enter Tryd.func19, Tryd.ntmps19
  go_wp2_with fail
  go_loopw [5] (fun i wr => ∃ k : Nat, k ≤ n ∧ i = .int .i64 k ∧ Below w.heap.size w wr) (fun i _ => n - (intOf i).toNat)
  case atStart => exact ⟨0, by omega, rfl, Below.refl _ _⟩
  case round =>
    obtain ⟨k, hk, rfl, hb⟩ := hrel
    have hz := hb.size
    by_cases hkn : k < n
    · obtain ⟨b, off, p, rfl, hb1, hp, c0, c1, c2, c3, c4, c5⟩ := svt_cells (HL.out.below hb (Nat.le_refl _)) hkn
      obtain ⟨b', off', p', rfl, hb1', hp', d0, d1, d2, d3, d4, d5⟩ := svt_cells (HL'.out.below hb (Nat.le_refl _)) hkn
      obtain rfl : p = p' := by rw [hp] at hp'; injection hp'
      clear hp hp'
      have hlt : b < wr.heap.size := by omega
      have hlt' : b' < wr.heap.size := by omega
      go_wp2_with fail
      refine wp_region_below (by kernel_rfl) (by kernel_rfl) ?_
      repeat (first | go_big_quiet_skip | (go_big_quiet_want; go_big_quiet_op; first | go_big_quiet_on | (apply Exists.intro; refine ⟨fun w1 hC => ?_, ?_⟩; (focus (first | rfl | (go_at_call 35; exact quiet_below hC (eqSVote_same _ _ _ _ _ _ _)) | (simp [(bcell hC).1, hlt, hlt', c0, c1, c2, c3, c4, c5, d0, d1, d2, d3, d4, d5]; done) | (simp [(bcell hC).1, hlt, hlt', c0, c1, c2, c3, c4, c5, d0, d1, d2, d3, d4, d5]; rfl))); go_big_quiet_on)))
      refine wpQuiet_nil ?_
      intro w2 hb2
      obtain ⟨hc2, hf2, hz2⟩ := bcell hb2
      go_wp2
      go_roundw
      case rel => exact ⟨k + 1, by omega, by go_num, hb.trans (hb2.mono hz)⟩
      case measure => simp [intOf]; omega
    · obtain rfl : k = n := by omega
      go_wp2
      go_ret
      exact ⟨rfl, hb⟩
end Go.Proofs.YteaggbbimhpolaaDoor
