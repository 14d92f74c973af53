/- The family of small functions on Vote: copies, sizes, comparisons (written by wip/fam.py). -/
import Derived.Test.YteifmlmmfghjjaaB
import Derived.Test.YteifmlmmfghjjaaM
import Derived.Laws.NewBlocks
import Derived.WalkKit
import Derived.WalkSpells
import Derived.WalkLawsBesides
import Derived.Lib.Hide
namespace Go.Proofs.Yteifmlmmfghjjaa
open Go.RowKit

structure VoteD where
  h : Int
  r : Int
  st : Int
  id : ByteArray
  v : Int
def voteC (p : VoteD) : List Value := [.int .i64 p.h, .int .i64 p.r, .int .i64 p.st, .string p.id, .int .i64 p.v]
theorem voteC_len (p : VoteD) : (voteC p).length = 5 := rfl

theorem vote_cells {w : World} {B : Nat} {A : Option Addr} {n c : Nat} {l : List VoteD} (h : RdL voteC 5 w B A n c l) {k : Nat} (hk : k < n) :
    ∃ b off p, A = some ⟨b, off, none⟩ ∧ b < B ∧ l[k]? = some p ∧ w.cell? ⟨b, off + k * 5, none⟩ = some (.int .i64 p.h) ∧ w.cell? ⟨b, off + k * 5 + 1, none⟩ = some (.int .i64 p.r) ∧ w.cell? ⟨b, off + k * 5 + 2, none⟩ = some (.int .i64 p.st) ∧ w.cell? ⟨b, off + k * 5 + 3, none⟩ = some (.string p.id) ∧ w.cell? ⟨b, off + k * 5 + 4, none⟩ = some (.int .i64 p.v) := by
  obtain ⟨b, off, p, e, hb, hp, hc⟩ := h.at_ voteC_len hk
  exact ⟨b, off, p, e, hb, hp, hc 0 (by omega), hc 1 (by omega), hc 2 (by omega), hc 3 (by omega), hc 4 (by omega)⟩

theorem infoVote : (Try.prog.info? 44).map (fun i => (i.zero, i.size, i.bytes)) = some (some (.agg #[.int .i64 0, .int .i64 0, .int .i64 0, .string ⟨#[]⟩, .int .i64 0]), 5, 48) := by kernel_rfl

set_option maxHeartbeats 800000 in
theorem toVoteS_any (A : Option Addr) (n c : Nat) (l : List VoteD) (w : World) (hl : RdL voteC 5 w w.heap.size A n c l) (hn : n ≤ 1048576) :
    Calls Try.prog 34 #[.slice A n c] w (SlOut voteC 5 44 n l w) := by
  obtain ⟨i0, hi, hz0, hz1, hz2⟩ := info_parts infoVote
  obtain ⟨w1, hrun, hown, hg⟩ := run_make_full (P := Try.prog) w w.heap.size 30 44 i0 _ 5 Try.underlying30 hi hz0 hz1 .i64 .i64 n (by rw [hz2]; omega) (by unfold maxLen; omega) (Nat.le_refl _)
  have hb1 : Below w.heap.size w w1 := (Below.refl _ _).grown hg (Nat.le_refl _) (fun k hk => by cases hk)
  have HL := Lib.hid hl
  have HO := Lib.hid (Laid.start voteC 5 l n hown)
  have HB := Lib.hid hb1
  clear hl hown hb1 hg hi hz0 hz1 hz2
  go_enter Try.func34, Try.ntmps34
  go_wp2_with fail
  clear hrun
  go_loopw [4] (fun i wr => ∃ k : Nat, k ≤ n ∧ i = .int .i64 k ∧ Below w.heap.size w wr ∧ w.heap.size < wr.heap.size ∧ Laid voteC 5 l k n wr w.heap.size 44) (fun i _ => n - (intOf i).toNat)
  case atStart =>
    obtain ⟨cur, h1, _⟩ := HO.out
    exact ⟨0, by omega, rfl, HB.out, h1.lt, HO.out⟩
  case round =>
    obtain ⟨k, hk, rfl, hb, hz, cur, h1, h2, h3⟩ := hrel
    have H1 := Lib.hid h1; have H2 := Lib.hid h2; have H3 := Lib.hid h3
    clear h1 h2 h3
    by_cases hkn : k < n
    · obtain ⟨b, off, p, rfl, hb1, hp, c0, c1, c2, c3, c4⟩ := vote_cells (HL.out.below hb (Nat.le_refl _)) hkn
      have HP := Lib.hid hp; clear hp
      have hsz : k * 5 + 5 ≤ cur.size := by rw [H2.out]; have := Nat.mul_le_mul_right 5 hkn; omega
      go_wp2_with (go_at_call 21; (with_reducible refine (toVote_any _ _ _ _ _ _).mono ?_); rintro e w2 ⟨rfl, hb2⟩; have HQ := Lib.hid (H1.out.below hb2 hz); have q0 := HQ.out.has (k * 5) (by omega); have q1 := HQ.out.has (k * 5 + 1) (by omega); have q2 := HQ.out.has (k * 5 + 2) (by omega); have q3 := HQ.out.has (k * 5 + 3) (by omega); have q4 := HQ.out.has (k * 5 + 4) (by omega); have qf := HQ.out.frozen)
      have hz2 := hb2.size
      go_roundw
      case rel => exact ⟨k + 1, by omega, by go_num, (((((hb.trans (hb2.mono (Nat.le_of_lt hz))).setCell (Nat.le_refl _) _).setCell (Nat.le_refl _) _).setCell (Nat.le_refl _) _).setCell (Nat.le_refl _) _).setCell (Nat.le_refl _) _, by simp; omega,
        Laid.next voteC_len HP.out (((((HQ.out.set_ _ _).set_ _ _).set_ _ _).set_ _ _).set_ _ _) (by simpa using H2.out) (fun j hj => by simp [Array.getElem?_setIfInBounds]; rw [if_neg (by omega), if_neg (by omega), if_neg (by omega), if_neg (by omega), if_neg (by omega)]; exact H3.out j hj)
          (fun j hj => by rcases (by omega : j = 0 ∨ j = 1 ∨ j = 2 ∨ j = 3 ∨ j = 4) with rfl | rfl | rfl | rfl | rfl <;> simp [Array.getElem?_setIfInBounds, voteC] <;> omega)⟩
      case measure => simp [intOf]; omega
    · obtain rfl : k = n := by omega
      go_wp2
      go_ret
      exact ⟨_, rfl, Laid.done voteC_len HL.out.1 (by unfold maxLen; omega) (Nat.le_refl _) ⟨cur, H1.out, H2.out, H3.out⟩, hb⟩

theorem eqVote_same (h' : Int) (r' : Int) (st' : Int) (id' : ByteArray) (v' : Int) (w : World) :
    Calls Try.prog 54 #[.agg #[.int .i64 h', .int .i64 r', .int .i64 st', .string id', .int .i64 v'], .agg #[.int .i64 h', .int .i64 r', .int .i64 st', .string id', .int .i64 v']] w fun e w' => e = .returned (.bool true) ∧ Below w.heap.size w w' := by
  go_enter Try.func54, Try.ntmps54
  go_wp2
  go_ret
  exact ⟨rfl, (by repeat (first | exact Below.refl _ _ | assumption | refine Below.drew ?_ | refine belN ?_ _ | refine Below.alloc ?_ (by first | exact Nat.le_refl _ | (simp; done) | (simp; omega) | omega) _ | refine Below.setCell ?_ (by first | exact Nat.le_refl _ | (simp; done) | (simp; omega) | omega) _ | refine Below.trans ?_ (Below.mono (by assumption) (by first | exact Nat.le_refl _ | (simp; done) | (simp; omega) | omega))))⟩

set_option maxHeartbeats 800000 in
theorem eqVoteS_same (A : Option Addr) (n c : Nat) (A' : Option Addr) (c' : Nat) (l : List VoteD) (w : World) (hl : RdL voteC 5 w w.heap.size A n c l) (hl' : RdL voteC 5 w w.heap.size A' n c' l) :
    Calls Try.prog 39 #[.slice A n c, .slice A' n c'] w fun e w' => e = .returned (.bool true) ∧ Below w.heap.size w w' := by
  have hn := hl.le
  have HL := Lib.hid hl
  have HL' := Lib.hid hl'
  clear hl hl'
  go_enter Try.func39, Try.ntmps39
  go_wp2_with fail
  go_loopw [5] (fun i wr => ∃ k : Nat, k ≤ n ∧ i = .int .i64 k ∧ Below w.heap.size w wr) (fun i _ => n - (intOf i).toNat)
  case atStart => exact ⟨0, by omega, rfl, Below.refl _ _⟩
  case round =>
    obtain ⟨k, hk, rfl, hb⟩ := hrel
    have hz := hb.size
    by_cases hkn : k < n
    · obtain ⟨b, off, p, rfl, hb1, hp, c0, c1, c2, c3, c4⟩ := vote_cells (HL.out.below hb (Nat.le_refl _)) hkn
      obtain ⟨b', off', p', rfl, hb1', hp', d0, d1, d2, d3, d4⟩ := vote_cells (HL'.out.below hb (Nat.le_refl _)) hkn
      obtain rfl : p = p' := by rw [hp] at hp'; injection hp'
      clear hp hp'
      have hlt : b < wr.heap.size := by omega
      have hlt' : b' < wr.heap.size := by omega
      go_wp2_with fail
      refine wp_region_below (by kernel_rfl) (by kernel_rfl) ?_
      repeat (first | go_big_quiet_skip | (go_big_quiet_want; go_big_quiet_op; first | go_big_quiet_on | (apply Exists.intro; refine ⟨fun w1 hC => ?_, ?_⟩; (focus (first | rfl | (go_at_call 54; exact quiet_below hC (eqVote_same _ _ _ _ _ _)) | (simp [(bcell hC).1, hlt, hlt', c0, c1, c2, c3, c4, d0, d1, d2, d3, d4]; done) | (simp [(bcell hC).1, hlt, hlt', c0, c1, c2, c3, c4, d0, d1, d2, d3, d4]; rfl))); go_big_quiet_on)))
      refine wpQuiet_nil ?_
      intro w2 hb2
      obtain ⟨hc2, hf2, hz2⟩ := bcell hb2
      go_wp2
      go_roundw
      case rel => exact ⟨k + 1, by omega, by go_num, hb.trans (hb2.mono hz)⟩
      case measure => simp [intOf]; omega
    · obtain rfl : k = n := by omega
      go_wp2
      go_ret
      exact ⟨rfl, hb⟩
end Go.Proofs.Yteifmlmmfghjjaa
