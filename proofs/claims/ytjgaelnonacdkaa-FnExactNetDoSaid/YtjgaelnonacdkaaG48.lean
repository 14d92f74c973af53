/- FamNetAct, MkNetAct: joined into one text. -/
import Derived.Laws.NewBlocks
import Derived.WalkKit
import Derived.WalkSpells
import Derived.WalkLawsBesides
import Derived.Lib.Hide
import Derived.Test.YtjgaelnonacdkaaMNetPlay
import Derived.Test.YtjgaelnonacdkaaFamNMsg
import Derived.Test.YtjgaelnonacdkaaG10
namespace Go.Proofs.Ytjgaelnonacdkaa
open Go.RowKit

theorem toNetAct_any (k' : Int) (a' : Int) (b' : Int) (mk' : Int) (mr' : Int) (mv' : Int) (mp' : Int) (mf' : Int) (w : World) :
    Calls Try.prog 19 #[.agg #[.int .i64 k', .int .i64 a', .int .i64 b', .int .i64 mk', .int .i64 mr', .int .i64 mv', .int .i64 mp', .int .i64 mf']] w fun e w' => e = .returned (.agg #[.int .i64 k', .int .i64 a', .int .i64 b', .int .i64 mk', .int .i64 mr', .int .i64 mv', .int .i64 mp', .int .i64 mf']) ∧ Below w.heap.size w w' := by
  go_enter Try.func19, Try.ntmps19
  go_wp2_with fail
  refine (toNMsg_any _ _ _ _ _ _).mono ?_
  rintro e w1 ⟨rfl, hb⟩
  obtain ⟨hc, hf, hz⟩ := bcell hb
  have HW : Hid (Below w.heap.size w w1) := (by repeat (first | exact Below.refl _ _ | assumption | refine Below.drew ?_ | refine belN ?_ _ | refine Below.alloc ?_ (by first | exact Nat.le_refl _ | (simp; done) | (simp; omega) | omega) _ | refine Below.setCell ?_ (by first | exact Nat.le_refl _ | (simp; done) | (simp; omega) | omega) _ | refine Below.trans ?_ (Below.mono (by assumption) (by first | exact Nat.le_refl _ | (simp; done) | (simp; omega) | omega))))
  have hR : Blk w1 (w.heap.size + 1) 51 #[.int .i64 0, .int .i64 0, .int .i64 0, .int .i64 0, .int .i64 0, .int .i64 0, .int .i64 0, .int .i64 0] := by
    have h := heap_alloc_new (w.alloc (.cells #[.int .i64 k', .int .i64 a', .int .i64 b', .int .i64 mk', .int .i64 mr', .int .i64 mv', .int .i64 mp', .int .i64 mf'] 44)) (.cells #[.int .i64 0, .int .i64 0, .int .i64 0, .int .i64 0, .int .i64 0, .int .i64 0, .int .i64 0, .int .i64 0] 51)
    rw [World.size_alloc] at h
    exact ((show Blk _ _ _ _ from h).alloc _).below hb (by first | (simp; done) | (simp; omega))
  clear hb
  have r0 := hR.cell
  clear hR
  simp only [World.size_alloc] at hz
  have hz2 : w.heap.size + 2 < w1.heap.size := by omega
  go_wp2_with fail
  refine bodyPost_ret (v := .agg #[.int .i64 k', .int .i64 a', .int .i64 b', .int .i64 mk', .int .i64 mr', .int .i64 mv', .int .i64 mp', .int .i64 mf']) (by simp [results, Try.results19, go_sem, r0]) rfl ⟨rfl, ?_⟩
  (repeat (first | with_reducible refine Below.setCell ?_ (by first | exact Nat.le_refl _ | (simp; done) | (simp; omega)) _ | with_reducible refine Below.alloc ?_ (by first | exact Nat.le_refl _ | (simp; done) | (simp; omega)) _ | with_reducible refine Below.drew ?_)); (with_reducible exact HW.out)

theorem infoNetAct : (Try.prog.info? 51).map (fun i => (i.zero, i.size, i.bytes)) = some (some (.agg #[.int .i64 0, .int .i64 0, .int .i64 0, .int .i64 0, .int .i64 0, .int .i64 0, .int .i64 0, .int .i64 0]), 8, 64) := by kernel_rfl

set_option maxHeartbeats 800000 in
theorem toNetActS_any (A : Option Addr) (n c : Nat) (l : List ActD) (w : World) (hl : RdL naC 8 w w.heap.size A n c l) (hn : n ≤ 1048576) :
    Calls Try.prog 9 #[.slice A n c] w (SlOut naC 8 51 n l w) := by
  obtain ⟨i0, hi, hz0, hz1, hz2⟩ := info_parts infoNetAct
  obtain ⟨w1, hrun, hown, hg⟩ := run_make_full (P := Try.prog) w w.heap.size 30 51 i0 _ 8 Try.underlying30 hi hz0 hz1 .i64 .i64 n (by rw [hz2]; omega) (by unfold maxLen; omega) (Nat.le_refl _)
  have hb1 : Below w.heap.size w w1 := (Below.refl _ _).grown hg (Nat.le_refl _) (fun k hk => by cases hk)
  have HL := Lib.hid hl
  have HO := Lib.hid (Laid.start naC 8 l n hown)
  have HB := Lib.hid hb1
  clear hl hown hb1 hg hi hz0 hz1 hz2
  go_enter Try.func9, Try.ntmps9
  go_wp2_with fail
  clear hrun
  go_loopw [4] (fun i wr => ∃ k : Nat, k ≤ n ∧ i = .int .i64 k ∧ Below w.heap.size w wr ∧ w.heap.size < wr.heap.size ∧ Laid naC 8 l k n wr w.heap.size 51) (fun i _ => n - (intOf i).toNat)
  case atStart =>
    obtain ⟨cur, h1, _⟩ := HO.out
    exact ⟨0, by omega, rfl, HB.out, h1.lt, HO.out⟩
  case round =>
    obtain ⟨k, hk, rfl, hb, hz, cur, h1, h2, h3⟩ := hrel
    have H1 := Lib.hid h1; have H2 := Lib.hid h2; have H3 := Lib.hid h3
    clear h1 h2 h3
    by_cases hkn : k < n
    · obtain ⟨b, off, p, rfl, hb1, hp, c0, c1, c2, c3, c4, c5, c6, c7⟩ := na_cells (HL.out.below hb (Nat.le_refl _)) hkn
      have HP := Lib.hid hp; clear hp
      have hsz : k * 8 + 8 ≤ cur.size := by rw [H2.out]; have := Nat.mul_le_mul_right 8 hkn; omega
      go_wp2_with (go_at_call 19; (with_reducible refine (toNetAct_any _ _ _ _ _ _ _ _ _).mono ?_); rintro e w2 ⟨rfl, hb2⟩; have HQ := Lib.hid (H1.out.below hb2 hz); have q0 := HQ.out.has (k * 8) (by omega); have q1 := HQ.out.has (k * 8 + 1) (by omega); have q2 := HQ.out.has (k * 8 + 2) (by omega); have q3 := HQ.out.has (k * 8 + 3) (by omega); have q4 := HQ.out.has (k * 8 + 4) (by omega); have q5 := HQ.out.has (k * 8 + 5) (by omega); have q6 := HQ.out.has (k * 8 + 6) (by omega); have q7 := HQ.out.has (k * 8 + 7) (by omega); have qf := HQ.out.frozen)
      have hz2 := hb2.size
      go_roundw
      case rel => exact ⟨k + 1, by omega, by go_num, ((((((((hb.trans (hb2.mono (Nat.le_of_lt hz))).setCell (Nat.le_refl _) _).setCell (Nat.le_refl _) _).setCell (Nat.le_refl _) _).setCell (Nat.le_refl _) _).setCell (Nat.le_refl _) _).setCell (Nat.le_refl _) _).setCell (Nat.le_refl _) _).setCell (Nat.le_refl _) _, by simp; omega,
        Laid.next naC_len HP.out ((((((((HQ.out.set_ _ _).set_ _ _).set_ _ _).set_ _ _).set_ _ _).set_ _ _).set_ _ _).set_ _ _) (by simpa using H2.out) (fun j hj => by simp [Array.getElem?_setIfInBounds]; rw [if_neg (by omega), if_neg (by omega), if_neg (by omega), if_neg (by omega), if_neg (by omega), if_neg (by omega), if_neg (by omega), if_neg (by omega)]; exact H3.out j hj)
          (fun j hj => by rcases (by omega : j = 0 ∨ j = 1 ∨ j = 2 ∨ j = 3 ∨ j = 4 ∨ j = 5 ∨ j = 6 ∨ j = 7) with rfl | rfl | rfl | rfl | rfl | rfl | rfl | rfl <;> simp [Array.getElem?_setIfInBounds, naC] <;> omega)⟩
      case measure => simp [intOf]; omega
    · obtain rfl : k = n := by omega
      go_wp2
      go_ret
      exact ⟨_, rfl, Laid.done naC_len HL.out.1 (by unfold maxLen; omega) (Nat.le_refl _) ⟨cur, H1.out, H2.out, H3.out⟩, hb⟩

theorem eqNetAct_same (k' : Int) (a' : Int) (b' : Int) (mk' : Int) (mr' : Int) (mv' : Int) (mp' : Int) (mf' : Int) (w : World) :
    Calls Try.prog 38 #[.agg #[.int .i64 k', .int .i64 a', .int .i64 b', .int .i64 mk', .int .i64 mr', .int .i64 mv', .int .i64 mp', .int .i64 mf'], .agg #[.int .i64 k', .int .i64 a', .int .i64 b', .int .i64 mk', .int .i64 mr', .int .i64 mv', .int .i64 mp', .int .i64 mf']] w fun e w' => e = .returned (.bool true) ∧ Below w.heap.size w w' := by
  go_enter Try.func38, Try.ntmps38
  go_wp2_with fail
  refine (eqNMsg_same _ _ _ _ _ _).mono ?_
  rintro e w1 ⟨rfl, hb⟩
  have HW : Hid (Below w.heap.size w w1) := (by repeat (first | exact Below.refl _ _ | assumption | refine Below.drew ?_ | refine belN ?_ _ | refine Below.alloc ?_ (by first | exact Nat.le_refl _ | (simp; done) | (simp; omega) | omega) _ | refine Below.setCell ?_ (by first | exact Nat.le_refl _ | (simp; done) | (simp; omega) | omega) _ | refine Below.trans ?_ (Below.mono (by assumption) (by first | exact Nat.le_refl _ | (simp; done) | (simp; omega) | omega))))
  clear hb
  go_wp2_with fail
  go_ret
  exact ⟨rfl, HW.out⟩

set_option maxHeartbeats 800000 in
theorem eqNetActS_same (A : Option Addr) (n c : Nat) (A' : Option Addr) (c' : Nat) (l : List ActD) (w : World) (hl : RdL naC 8 w w.heap.size A n c l) (hl' : RdL naC 8 w w.heap.size A' n c' l) :
    Calls Try.prog 12 #[.slice A n c, .slice A' n c'] w fun e w' => e = .returned (.bool true) ∧ Below w.heap.size w w' := by
  have hn := hl.le
  have HL := Lib.hid hl
  have HL' := Lib.hid hl'
  clear hl hl'
  go_enter Try.func12, Try.ntmps12
  go_wp2_with fail
  go_loopw [5] (fun i wr => ∃ k : Nat, k ≤ n ∧ i = .int .i64 k ∧ Below w.heap.size w wr) (fun i _ => n - (intOf i).toNat)
  case atStart => exact ⟨0, by omega, rfl, Below.refl _ _⟩
  case round =>
    obtain ⟨k, hk, rfl, hb⟩ := hrel
    have hz := hb.size
    by_cases hkn : k < n
    · obtain ⟨b, off, p, rfl, hb1, hp, c0, c1, c2, c3, c4, c5, c6, c7⟩ := na_cells (HL.out.below hb (Nat.le_refl _)) hkn
      obtain ⟨b', off', p', rfl, hb1', hp', d0, d1, d2, d3, d4, d5, d6, d7⟩ := na_cells (HL'.out.below hb (Nat.le_refl _)) hkn
      obtain rfl : p = p' := by rw [hp] at hp'; injection hp'
      clear hp hp'
      have hlt : b < wr.heap.size := by omega
      have hlt' : b' < wr.heap.size := by omega
      go_wp2_with fail
      refine wp_region_below (by kernel_rfl) (by kernel_rfl) ?_
      repeat (first | go_big_quiet_skip | (go_big_quiet_want; go_big_quiet_op; first | go_big_quiet_on | (apply Exists.intro; refine ⟨fun w1 hC => ?_, ?_⟩; (focus (first | rfl | (go_at_call 38; exact quiet_below hC (eqNetAct_same _ _ _ _ _ _ _ _ _)) | (simp [(bcell hC).1, hlt, hlt', c0, c1, c2, c3, c4, c5, c6, c7, d0, d1, d2, d3, d4, d5, d6, d7]; done) | (simp [(bcell hC).1, hlt, hlt', c0, c1, c2, c3, c4, c5, c6, c7, d0, d1, d2, d3, d4, d5, d6, d7]; rfl))); go_big_quiet_on)))
      refine wpQuiet_nil ?_
      intro w2 hb2
      obtain ⟨hc2, hf2, hz2⟩ := bcell hb2
      go_wp2
      go_roundw
      case rel => exact ⟨k + 1, by omega, by go_num, hb.trans (hb2.mono hz)⟩
      case measure => simp [intOf]; omega
    · obtain rfl : k = n := by omega
      go_wp2
      go_ret
      exact ⟨rfl, hb⟩

theorem szNetActS_any (A : Option Addr) (n c : Nat) (left : Int) (w : World) (hn : n ≤ 9223372036854775807) (h0 : 0 ≤ left) (h1 : left ≤ 1048576) :
    Calls Try.prog 7 #[.slice A n c, .int .i64 left] w fun e w' => e = .returned (.int .i64 (if left < n then -1 else left - n)) ∧ w = w' := by
  by_cases hc : left < n
  · go_enter Try.func7, Try.ntmps7
    go_wp2
    go_ret
    exact ⟨rfl, rfl⟩
  · go_enter Try.func7, Try.ntmps7
    go_wp2
    go_ret
    exact ⟨rfl, rfl⟩
end Go.Proofs.Ytjgaelnonacdkaa
namespace Go.Proofs.Ytjgaelnonacdkaa
open Go.RowKit

def markNetAct (k : Nat) : ActD := ⟨(k : Int), (k : Int) + 1, (k : Int) + 1 + 1, (k : Int) + 1 + 1 + 1, (k : Int) + 1 + 1 + 1 + 1, (k : Int) + 1 + 1 + 1 + 1 + 1, (k : Int) + 1 + 1 + 1 + 1 + 1 + 1, (k : Int) + 1 + 1 + 1 + 1 + 1 + 1 + 1⟩
def marksNetAct (k n : Nat) : List ActD := (List.range n).map fun i => markNetAct (k + i * 8)
theorem marksNetAct_len (k n : Nat) : (marksNetAct k n).length = n := by simp [marksNetAct]
theorem marksNetAct_at (k n i : Nat) (h : i < n) : (marksNetAct k n)[i]? = some (markNetAct (k + i * 8)) := by simp [marksNetAct, h]

set_option maxHeartbeats 2000000 in
theorem markNetActS_any (T : TypeId) (A : Option Addr) (n c : Nat) (l : List ActD) (lo hi k : Nat) (w : World) (hl : OwnL naC 8 T w lo hi A n c l) (hk0 : 0 < k) (hn : n ≤ 2097152) (hk : k ≤ 100000000) :
    Calls Try.prog 13 #[.slice A n c, .int .i64 k] w (MarkOut naC 8 T lo hi A n c (marksNetAct k n) ((k + n * 8 : Nat) : Int) w) := by
  obtain ⟨hll, h0 | ⟨g, cur, rfl, hg1, hg2, hblk, hnc, hcm, hsz, _⟩⟩ := hl
  · obtain ⟨rfl, rfl, rfl⟩ := h0
    go_enter Try.func13, Try.ntmps13
    go_wp2_with fail
    go_loop [1, 5] (fun kk i => kk = .int .i64 (k : Int) ∧ i = .int .i64 0) (fun _ _ => 0)
    case atStart => exact ⟨rfl, rfl⟩
    case round =>
    obtain ⟨rfl, rfl⟩ := hrel
    go_wp2
    go_ret
    exact ⟨by simp, ⟨by simp [marksNetAct], .inl ⟨rfl, rfl, rfl⟩⟩, Chg.refl _ _ _⟩
  · have hn' : n ≤ 9223372036854775807 := by omega
    have H0 : Hid (Laid naC 8 (marksNetAct k n) 0 c w g T) := ⟨cur, hblk, hsz, fun j hj => absurd hj (by omega)⟩
    have hgw := hblk.lt
    clear hblk hsz
    go_enter Try.func13, Try.ntmps13
    go_wp2_with fail
    go_loopw [1, 5] (fun kk i wr => ∃ j : Nat, j ≤ n ∧ i = .int .i64 j ∧ kk = .int .i64 ((k + j * 8 : Nat) : Int) ∧ Chg lo hi w wr ∧ Laid naC 8 (marksNetAct k n) j c wr g T) (fun _ i _ => n - (intOf i).toNat)
    case atStart => exact ⟨0, by omega, rfl, by simp, Chg.refl _ _ _, H0.out⟩
    case round =>
      obtain ⟨j, hj, rfl, rfl, hb, cur, h1, h2, h3⟩ := hrel
      have H1 := Lib.hid h1; have H2 := Lib.hid h2; have H3 := Lib.hid h3
      have hgr := h1.lt
      have qf := H1.out.frozen
      clear h1 h2 h3 H0
      generalize hq : k + j * 8 = q
      have HQ := Lib.hid hq
      have hq1 : q ≤ 1000000000 := by omega
      have hq0 : 0 < q := by omega
      clear hq
      by_cases hjn : j < n
      · have hsz : j * 8 + 8 ≤ cur.size := by rw [H2.out]; have := Nat.mul_le_mul_right 8 (show j + 1 ≤ c by omega); omega
        have q0 := H1.out.has (j * 8) (by omega)
        have q1 := H1.out.has (j * 8 + 1) (by omega)
        have q2 := H1.out.has (j * 8 + 2) (by omega)
        have q3 := H1.out.has (j * 8 + 3) (by omega)
        have q4 := H1.out.has (j * 8 + 4) (by omega)
        have q5 := H1.out.has (j * 8 + 5) (by omega)
        have q6 := H1.out.has (j * 8 + 6) (by omega)
        have q7 := H1.out.has (j * 8 + 7) (by omega)
        go_wp2
        go_roundw
        case rel => exact ⟨j + 1, by omega, by go_num, by rw [show k + (j + 1) * 8 = q + 8 from by have := HQ.out; omega]; go_num, ((((((((hb.setCell hg1 hg2 _).setCell hg1 hg2 _).setCell hg1 hg2 _).setCell hg1 hg2 _).setCell hg1 hg2 _).setCell hg1 hg2 _).setCell hg1 hg2 _).setCell hg1 hg2 _),
          Laid.next naC_len (marksNetAct_at k n j hjn) ((((((((H1.out.set_ _ _).set_ _ _).set_ _ _).set_ _ _).set_ _ _).set_ _ _).set_ _ _).set_ _ _) (by simpa using H2.out) (fun i hi => by simp [Array.getElem?_setIfInBounds]; rw [if_neg (by omega), if_neg (by omega), if_neg (by omega), if_neg (by omega), if_neg (by omega), if_neg (by omega), if_neg (by omega), if_neg (by omega)]; exact H3.out i hi)
            (fun i hi => by rw [HQ.out]; rcases (by omega : i = 0 ∨ i = 1 ∨ i = 2 ∨ i = 3 ∨ i = 4 ∨ i = 5 ∨ i = 6 ∨ i = 7) with rfl | rfl | rfl | rfl | rfl | rfl | rfl | rfl <;> simp [Array.getElem?_setIfInBounds, naC, markNetAct, Nat.add_assoc] <;> omega)⟩
        case measure => simp [intOf]; omega
      · obtain rfl : j = n := by omega
        go_wp2
        go_ret
        exact ⟨by rw [HQ.out]; rfl, ⟨marksNetAct_len _ _, .inr ⟨g, cur, rfl, hg1, hg2, H1.out, hnc, hcm, H2.out, H3.out⟩⟩, hb⟩

end Go.Proofs.Ytjgaelnonacdkaa
