/- The family of small functions on Header: copies, sizes, comparisons (written by wip/fam.py). -/
import Derived.Test.YtjdknaipmboekaaDoorM
import Derived.Laws.NewBlocks
import Derived.WalkKit
import Derived.WalkSpells
import Derived.WalkLawsBesides
import Derived.Lib.Hide
namespace Go.Proofs.YtjdknaipmboekaaDoor
open Go.RowKit

structure HeaderD where
  h : Int
  t : Int
  last : ByteArray
  vals : ByteArray
  next : ByteArray
  data : ByteArray
def headC (p : HeaderD) : List Value := [.int .i64 p.h, .int .i64 p.t, .string p.last, .string p.vals, .string p.next, .string p.data]
theorem headC_len (p : HeaderD) : (headC p).length = 6 := rfl

theorem head_cells {w : World} {B : Nat} {A : Option Addr} {n c : Nat} {l : List HeaderD} (h : RdL headC 6 w B A n c l) {k : Nat} (hk : k < n) :
    ∃ b off p, A = some ⟨b, off, none⟩ ∧ b < B ∧ l[k]? = some p ∧ w.cell? ⟨b, off + k * 6, none⟩ = some (.int .i64 p.h) ∧ w.cell? ⟨b, off + k * 6 + 1, none⟩ = some (.int .i64 p.t) ∧ w.cell? ⟨b, off + k * 6 + 2, none⟩ = some (.string p.last) ∧ w.cell? ⟨b, off + k * 6 + 3, none⟩ = some (.string p.vals) ∧ w.cell? ⟨b, off + k * 6 + 4, none⟩ = some (.string p.next) ∧ w.cell? ⟨b, off + k * 6 + 5, none⟩ = some (.string p.data) := by
  obtain ⟨b, off, p, e, hb, hp, hc⟩ := h.at_ headC_len hk
  exact ⟨b, off, p, e, hb, hp, hc 0 (by omega), hc 1 (by omega), hc 2 (by omega), hc 3 (by omega), hc 4 (by omega), hc 5 (by omega)⟩

theorem toHeader_any (h' : Int) (t' : Int) (last' : ByteArray) (vals' : ByteArray) (next' : ByteArray) (data' : ByteArray) (w : World) :
    Calls Tryd.prog 26 #[.agg #[.int .i64 h', .int .i64 t', .string last', .string vals', .string next', .string data']] w fun e w' => e = .returned (.agg #[.int .i64 h', .int .i64 t', .string last', .string vals', .string next', .string data']) ∧ Below w.heap.size w w' := by
  go_enter Tryd.func26, Tryd.ntmps26
  go_wp2
  exact bodyPost_ret (v := .agg #[.int .i64 h', .int .i64 t', .string last', .string vals', .string next', .string data']) (by simp [results, Tryd.results26, go_sem]) rfl ⟨rfl, (by repeat (first | exact Below.refl _ _ | assumption | refine Below.drew ?_ | refine belN ?_ _ | refine Below.alloc ?_ (by first | exact Nat.le_refl _ | (simp; done) | (simp; omega) | omega) _ | refine Below.setCell ?_ (by first | exact Nat.le_refl _ | (simp; done) | (simp; omega) | omega) _ | refine Below.trans ?_ (Below.mono (by assumption) (by first | exact Nat.le_refl _ | (simp; done) | (simp; omega) | omega))))⟩

theorem infoHeader : (Tryd.prog.info? 34).map (fun i => (i.zero, i.size, i.bytes)) = some (some (.agg #[.int .i64 0, .int .i64 0, .string ⟨#[]⟩, .string ⟨#[]⟩, .string ⟨#[]⟩, .string ⟨#[]⟩]), 6, 80) := by kernel_rfl

set_option maxHeartbeats 800000 in
theorem toHeaderS_any (A : Option Addr) (n c : Nat) (l : List HeaderD) (w : World) (hl : RdL headC 6 w w.heap.size A n c l) (hn : n ≤ 1048576) :
    Calls Tryd.prog 40 #[.slice A n c] w (SlOut headC 6 34 n l w) := by
  obtain ⟨i0, hi, hz0, hz1, hz2⟩ := info_parts infoHeader
  obtain ⟨w1, hrun, hown, hg⟩ := run_make_full (P := Tryd.prog) w w.heap.size 27 34 i0 _ 6 Tryd.underlying27 hi hz0 hz1 .i64 .i64 n (by rw [hz2]; omega) (by unfold maxLen; omega) (Nat.le_refl _)
  have hb1 : Below w.heap.size w w1 := (Below.refl _ _).grown hg (Nat.le_refl _) (fun k hk => by cases hk)
  have HL := Lib.hid hl
  have HO := Lib.hid (Laid.start headC 6 l n hown)
  have HB := Lib.hid hb1
  clear hl hown hb1 hg hi hz0 hz1 hz2
  go_enter Tryd.func40, Tryd.ntmps40
  go_wp2_with fail
  clear hrun
  go_loopw [4] (fun i wr => ∃ k : Nat, k ≤ n ∧ i = .int .i64 k ∧ Below w.heap.size w wr ∧ w.heap.size < wr.heap.size ∧ Laid headC 6 l k n wr w.heap.size 34) (fun i _ => n - (intOf i).toNat)
  case atStart =>
    obtain ⟨cur, h1, _⟩ := HO.out
    exact ⟨0, by omega, rfl, HB.out, h1.lt, HO.out⟩
  case round =>
    obtain ⟨k, hk, rfl, hb, hz, cur, h1, h2, h3⟩ := hrel
    have H1 := Lib.hid h1; have H2 := Lib.hid h2; have H3 := Lib.hid h3
    clear h1 h2 h3
    by_cases hkn : k < n
    · obtain ⟨b, off, p, rfl, hb1, hp, c0, c1, c2, c3, c4, c5⟩ := head_cells (HL.out.below hb (Nat.le_refl _)) hkn
      have HP := Lib.hid hp; clear hp
      have hsz : k * 6 + 6 ≤ cur.size := by rw [H2.out]; have := Nat.mul_le_mul_right 6 hkn; omega
      go_wp2_with (go_at_call 26; (with_reducible refine (toHeader_any _ _ _ _ _ _ _).mono ?_); rintro e w2 ⟨rfl, hb2⟩; have HQ := Lib.hid (H1.out.below hb2 hz); have q0 := HQ.out.has (k * 6) (by omega); have q1 := HQ.out.has (k * 6 + 1) (by omega); have q2 := HQ.out.has (k * 6 + 2) (by omega); have q3 := HQ.out.has (k * 6 + 3) (by omega); have q4 := HQ.out.has (k * 6 + 4) (by omega); have q5 := HQ.out.has (k * 6 + 5) (by omega); have qf := HQ.out.frozen)
      have hz2 := hb2.size
      go_roundw
      case rel => exact ⟨k + 1, by omega, by go_num, ((((((hb.trans (hb2.mono (Nat.le_of_lt hz))).setCell (Nat.le_refl _) _).setCell (Nat.le_refl _) _).setCell (Nat.le_refl _) _).setCell (Nat.le_refl _) _).setCell (Nat.le_refl _) _).setCell (Nat.le_refl _) _, by simp; omega,
        Laid.next headC_len HP.out ((((((HQ.out.set_ _ _).set_ _ _).set_ _ _).set_ _ _).set_ _ _).set_ _ _) (by simpa using H2.out) (fun j hj => by simp [Array.getElem?_setIfInBounds]; rw [if_neg (by omega), if_neg (by omega), if_neg (by omega), if_neg (by omega), if_neg (by omega), if_neg (by omega)]; exact H3.out j hj)
          (fun j hj => by rcases (by omega : j = 0 ∨ j = 1 ∨ j = 2 ∨ j = 3 ∨ j = 4 ∨ j = 5) with rfl | rfl | rfl | rfl | rfl | rfl <;> simp [Array.getElem?_setIfInBounds, headC] <;> omega)⟩
      case measure => simp [intOf]; omega
    · obtain rfl : k = n := by omega
      go_wp2
      go_ret
      exact ⟨_, rfl, Laid.done headC_len HL.out.1 (by unfold maxLen; omega) (Nat.le_refl _) ⟨cur, H1.out, H2.out, H3.out⟩, hb⟩

theorem eqHeader_same (h' : Int) (t' : Int) (last' : ByteArray) (vals' : ByteArray) (next' : ByteArray) (data' : ByteArray) (w : World) :
    Calls Tryd.prog 17 #[.agg #[.int .i64 h', .int .i64 t', .string last', .string vals', .string next', .string data'], .agg #[.int .i64 h', .int .i64 t', .string last', .string vals', .string next', .string data']] w fun e w' => e = .returned (.bool true) ∧ Below w.heap.size w w' := by
  go_enter Tryd.func17, Tryd.ntmps17
  go_wp2
  go_ret
  exact ⟨rfl, (by repeat (first | exact Below.refl _ _ | assumption | refine Below.drew ?_ | refine belN ?_ _ | refine Below.alloc ?_ (by first | exact Nat.le_refl _ | (simp; done) | (simp; omega) | omega) _ | refine Below.setCell ?_ (by first | exact Nat.le_refl _ | (simp; done) | (simp; omega) | omega) _ | refine Below.trans ?_ (Below.mono (by assumption) (by first | exact Nat.le_refl _ | (simp; done) | (simp; omega) | omega))))⟩

set_option maxHeartbeats 800000 in
theorem eqHeaderS_same (A : Option Addr) (n c : Nat) (A' : Option Addr) (c' : Nat) (l : List HeaderD) (w : World) (hl : RdL headC 6 w w.heap.size A n c l) (hl' : RdL headC 6 w w.heap.size A' n c' l) :
    Calls Tryd.prog 44 #[.slice A n c, .slice A' n c'] w fun e w' => e = .returned (.bool true) ∧ Below w.heap.size w w' := by
  have hn := hl.le
  have HL := Lib.hid hl
  have HL' := Lib.hid hl'
  clear hl hl'
  go_enter Tryd.func44, Tryd.ntmps44
  go_wp2_with fail
  go_loopw [5] (fun i wr => ∃ k : Nat, k ≤ n ∧ i = .int .i64 k ∧ Below w.heap.size w wr) (fun i _ => n - (intOf i).toNat)
  case atStart => exact ⟨0, by omega, rfl, Below.refl _ _⟩
  case round =>
    obtain ⟨k, hk, rfl, hb⟩ := hrel
    have hz := hb.size
    by_cases hkn : k < n
    · obtain ⟨b, off, p, rfl, hb1, hp, c0, c1, c2, c3, c4, c5⟩ := head_cells (HL.out.below hb (Nat.le_refl _)) hkn
      obtain ⟨b', off', p', rfl, hb1', hp', d0, d1, d2, d3, d4, d5⟩ := head_cells (HL'.out.below hb (Nat.le_refl _)) hkn
      obtain rfl : p = p' := by rw [hp] at hp'; injection hp'
      clear hp hp'
      have hlt : b < wr.heap.size := by omega
      have hlt' : b' < wr.heap.size := by omega
      go_wp2_with fail
      refine wp_region_below (by kernel_rfl) (by kernel_rfl) ?_
      repeat (first | go_big_quiet_skip | (go_big_quiet_want; go_big_quiet_op; first | go_big_quiet_on | (apply Exists.intro; refine ⟨fun w1 hC => ?_, ?_⟩; (focus (first | rfl | (go_at_call 17; exact quiet_below hC (eqHeader_same _ _ _ _ _ _ _)) | (simp [(bcell hC).1, hlt, hlt', c0, c1, c2, c3, c4, c5, d0, d1, d2, d3, d4, d5]; done) | (simp [(bcell hC).1, hlt, hlt', c0, c1, c2, c3, c4, c5, d0, d1, d2, d3, d4, d5]; rfl))); go_big_quiet_on)))
      refine wpQuiet_nil ?_
      intro w2 hb2
      obtain ⟨hc2, hf2, hz2⟩ := bcell hb2
      go_wp2
      go_roundw
      case rel => exact ⟨k + 1, by omega, by go_num, hb.trans (hb2.mono hz)⟩
      case measure => simp [intOf]; omega
    · obtain rfl : k = n := by omega
      go_wp2
      go_ret
      exact ⟨rfl, hb⟩
end Go.Proofs.YtjdknaipmboekaaDoor
