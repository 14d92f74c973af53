/- The family of small functions on Val: copies, sizes, comparisons (written by wip/fam.py). -/
import Derived.Test.YtelnnegfkdfpiaaGreatDoorM
import Derived.Laws.NewBlocks
import Derived.WalkKit
import Derived.WalkSpells
import Derived.WalkLawsBesides
import Derived.Lib.Hide
namespace Go.Proofs.YtelnnegfkdfpiaaGreatDoor
open Go.RowKit

structure ValD where
  id : Int
  pw : Int
def valC (p : ValD) : List Value := [.int .i64 p.id, .int .i64 p.pw]
theorem valC_len (p : ValD) : (valC p).length = 2 := rfl

theorem val_cells {w : World} {B : Nat} {A : Option Addr} {n c : Nat} {l : List ValD} (h : RdL valC 2 w B A n c l) {k : Nat} (hk : k < n) :
    ∃ b off p, A = some ⟨b, off, none⟩ ∧ b < B ∧ l[k]? = some p ∧ w.cell? ⟨b, off + k * 2, none⟩ = some (.int .i64 p.id) ∧ w.cell? ⟨b, off + k * 2 + 1, none⟩ = some (.int .i64 p.pw) := by
  obtain ⟨b, off, p, e, hb, hp, hc⟩ := h.at_ valC_len hk
  exact ⟨b, off, p, e, hb, hp, hc 0 (by omega), hc 1 (by omega)⟩

theorem toVal_any (id' : Int) (pw' : Int) (w : World) :
    Calls Tryz.prog 55 #[.agg #[.int .i64 id', .int .i64 pw']] w fun e w' => e = .returned (.agg #[.int .i64 id', .int .i64 pw']) ∧ Below w.heap.size w w' := by
  go_enter Tryz.func55, Tryz.ntmps55
  go_wp2
  exact bodyPost_ret (v := .agg #[.int .i64 id', .int .i64 pw']) (by simp [results, Tryz.results55, go_sem]) rfl ⟨rfl, (by repeat (first | exact Below.refl _ _ | assumption | refine Below.drew ?_ | refine belN ?_ _ | refine Below.alloc ?_ (by first | exact Nat.le_refl _ | (simp; done) | (simp; omega) | omega) _ | refine Below.setCell ?_ (by first | exact Nat.le_refl _ | (simp; done) | (simp; omega) | omega) _ | refine Below.trans ?_ (Below.mono (by assumption) (by first | exact Nat.le_refl _ | (simp; done) | (simp; omega) | omega))))⟩

theorem infoVal : (Tryz.prog.info? 84).map (fun i => (i.zero, i.size, i.bytes)) = some (some (.agg #[.int .i64 0, .int .i64 0]), 2, 16) := by kernel_rfl

set_option maxHeartbeats 800000 in
theorem toValS_any (A : Option Addr) (n c : Nat) (l : List ValD) (w : World) (hl : RdL valC 2 w w.heap.size A n c l) (hn : n ≤ 1048576) :
    Calls Tryz.prog 21 #[.slice A n c] w (SlOut valC 2 84 n l w) := by
  obtain ⟨i0, hi, hz0, hz1, hz2⟩ := info_parts infoVal
  obtain ⟨w1, hrun, hown, hg⟩ := run_make_full (P := Tryz.prog) w w.heap.size 28 84 i0 _ 2 Tryz.underlying28 hi hz0 hz1 .i64 .i64 n (by rw [hz2]; omega) (by unfold maxLen; omega) (Nat.le_refl _)
  have hb1 : Below w.heap.size w w1 := (Below.refl _ _).grown hg (Nat.le_refl _) (fun k hk => by cases hk)
  have HL := Lib.hid hl
  have HO := Lib.hid (Laid.start valC 2 l n hown)
  have HB := Lib.hid hb1
  clear hl hown hb1 hg hi hz0 hz1 hz2
  go_enter Tryz.func21, Tryz.ntmps21
  go_wp2_with fail
  clear hrun
  go_loopw [4] (fun i wr => ∃ k : Nat, k ≤ n ∧ i = .int .i64 k ∧ Below w.heap.size w wr ∧ w.heap.size < wr.heap.size ∧ Laid valC 2 l k n wr w.heap.size 84) (fun i _ => n - (intOf i).toNat)
  case atStart =>
    obtain ⟨cur, h1, _⟩ := HO.out
    exact ⟨0, by omega, rfl, HB.out, h1.lt, HO.out⟩
  case round =>
    obtain ⟨k, hk, rfl, hb, hz, cur, h1, h2, h3⟩ := hrel
    have H1 := Lib.hid h1; have H2 := Lib.hid h2; have H3 := Lib.hid h3
    clear h1 h2 h3
    by_cases hkn : k < n
    · obtain ⟨b, off, p, rfl, hb1, hp, c0, c1⟩ := val_cells (HL.out.below hb (Nat.le_refl _)) hkn
      have HP := Lib.hid hp; clear hp
      have hsz : k * 2 + 2 ≤ cur.size := by rw [H2.out]; have := Nat.mul_le_mul_right 2 hkn; omega
      go_wp2_with (go_at_call 55; (with_reducible refine (toVal_any _ _ _).mono ?_); rintro e w2 ⟨rfl, hb2⟩; have HQ := Lib.hid (H1.out.below hb2 hz); have q0 := HQ.out.has (k * 2) (by omega); have q1 := HQ.out.has (k * 2 + 1) (by omega); have qf := HQ.out.frozen)
      have hz2 := hb2.size
      go_roundw
      case rel => exact ⟨k + 1, by omega, by go_num, ((hb.trans (hb2.mono (Nat.le_of_lt hz))).setCell (Nat.le_refl _) _).setCell (Nat.le_refl _) _, by simp; omega,
        Laid.next valC_len HP.out ((HQ.out.set_ _ _).set_ _ _) (by simpa using H2.out) (fun j hj => by simp [Array.getElem?_setIfInBounds]; rw [if_neg (by omega), if_neg (by omega)]; exact H3.out j hj)
          (fun j hj => by rcases (by omega : j = 0 ∨ j = 1) with rfl | rfl <;> simp [Array.getElem?_setIfInBounds, valC] <;> omega)⟩
      case measure => simp [intOf]; omega
    · obtain rfl : k = n := by omega
      go_wp2
      go_ret
      exact ⟨_, rfl, Laid.done valC_len HL.out.1 (by unfold maxLen; omega) (Nat.le_refl _) ⟨cur, H1.out, H2.out, H3.out⟩, hb⟩

theorem eqVal_same (id' : Int) (pw' : Int) (w : World) :
    Calls Tryz.prog 58 #[.agg #[.int .i64 id', .int .i64 pw'], .agg #[.int .i64 id', .int .i64 pw']] w fun e w' => e = .returned (.bool true) ∧ Below w.heap.size w w' := by
  go_enter Tryz.func58, Tryz.ntmps58
  go_wp2
  go_ret
  exact ⟨rfl, (by repeat (first | exact Below.refl _ _ | assumption | refine Below.drew ?_ | refine belN ?_ _ | refine Below.alloc ?_ (by first | exact Nat.le_refl _ | (simp; done) | (simp; omega) | omega) _ | refine Below.setCell ?_ (by first | exact Nat.le_refl _ | (simp; done) | (simp; omega) | omega) _ | refine Below.trans ?_ (Below.mono (by assumption) (by first | exact Nat.le_refl _ | (simp; done) | (simp; omega) | omega))))⟩

set_option maxHeartbeats 800000 in
theorem eqValS_same (A : Option Addr) (n c : Nat) (A' : Option Addr) (c' : Nat) (l : List ValD) (w : World) (hl : RdL valC 2 w w.heap.size A n c l) (hl' : RdL valC 2 w w.heap.size A' n c' l) :
    Calls Tryz.prog 24 #[.slice A n c, .slice A' n c'] w fun e w' => e = .returned (.bool true) ∧ Below w.heap.size w w' := by
  have hn := hl.le
  have HL := Lib.hid hl
  have HL' := Lib.hid hl'
  clear hl hl'
  go_enter Tryz.func24, Tryz.ntmps24
  go_wp2_with fail
  go_loopw [5] (fun i wr => ∃ k : Nat, k ≤ n ∧ i = .int .i64 k ∧ Below w.heap.size w wr) (fun i _ => n - (intOf i).toNat)
  case atStart => exact ⟨0, by omega, rfl, Below.refl _ _⟩
  case round =>
    obtain ⟨k, hk, rfl, hb⟩ := hrel
    have hz := hb.size
    by_cases hkn : k < n
    · obtain ⟨b, off, p, rfl, hb1, hp, c0, c1⟩ := val_cells (HL.out.below hb (Nat.le_refl _)) hkn
      obtain ⟨b', off', p', rfl, hb1', hp', d0, d1⟩ := val_cells (HL'.out.below hb (Nat.le_refl _)) hkn
      obtain rfl : p = p' := by rw [hp] at hp'; injection hp'
      clear hp hp'
      have hlt : b < wr.heap.size := by omega
      have hlt' : b' < wr.heap.size := by omega
      go_wp2_with fail
      refine wp_region_below (by kernel_rfl) (by kernel_rfl) ?_
      repeat (first | go_big_quiet_skip | (go_big_quiet_want; go_big_quiet_op; first | go_big_quiet_on | (apply Exists.intro; refine ⟨fun w1 hC => ?_, ?_⟩; (focus (first | rfl | (go_at_call 58; exact quiet_below hC (eqVal_same _ _ _)) | (simp [(bcell hC).1, hlt, hlt', c0, c1, d0, d1]; done) | (simp [(bcell hC).1, hlt, hlt', c0, c1, d0, d1]; rfl))); go_big_quiet_on)))
      refine wpQuiet_nil ?_
      intro w2 hb2
      obtain ⟨hc2, hf2, hz2⟩ := bcell hb2
      go_wp2
      go_roundw
      case rel => exact ⟨k + 1, by omega, by go_num, hb.trans (hb2.mono hz)⟩
      case measure => simp [intOf]; omega
    · obtain rfl : k = n := by omega
      go_wp2
      go_ret
      exact ⟨rfl, hb⟩

theorem szValS_any (A : Option Addr) (n c : Nat) (left : Int) (w : World) (hn : n ≤ 9223372036854775807) (h0 : 0 ≤ left) (h1 : left ≤ 1048576) :
    Calls Tryz.prog 16 #[.slice A n c, .int .i64 left] w fun e w' => e = .returned (.int .i64 (if left < n then -1 else left - n)) ∧ w = w' := by
  by_cases hc : left < n
  · go_enter Tryz.func16, Tryz.ntmps16
    go_wp2
    go_ret
    exact ⟨rfl, rfl⟩
  · go_enter Tryz.func16, Tryz.ntmps16
    go_wp2
    go_ret
    exact ⟨rfl, rfl⟩
end Go.Proofs.YtelnnegfkdfpiaaGreatDoor
