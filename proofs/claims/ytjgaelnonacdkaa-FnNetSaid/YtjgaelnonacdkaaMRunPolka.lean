/- l16Polka of the reference. -/
import Derived.WalkKit
import Derived.WalkSpells
import Derived.WalkLawsBesides
import Derived.Lib.Hide
import Derived.Test.YtjgaelnonacdkaaMRunProp
namespace Go.Proofs.Ytjgaelnonacdkaa
open Go.RowKit

def polF (x : RunS) : Option RunS := if (x.s.step == 1 || x.s.polka == x.s.round) = true then none else (match propBy x (P5 x.l x.s.round) with | some m => some (polkaR x m.v) | none => none)

set_option maxRecDepth 100000 in
set_option maxHeartbeats 16000000 in
theorem l16Polka_any (P : Nat → Prop) (A : Option Addr) (c : Nat) (B : Option Addr) (d : Nat) (x : RunS) (w : World) (hx : Rows w P A c B d x) (hl : x.l.length ≤ 1000) (ho : x.o.length ≤ 1000) (hok : msgsOk x.l = true) :
    Calls Try.prog 138 #[runV x A c B d] w (RunOutB P A c B d ((polF x).getD x) (polF x).isSome w) := by
  have HR := Lib.hid hx
  have HOK := Lib.hid hok
  have hcm := hx.rl.2.2.2.1
  unfold maxLen at hcm
  clear hx hok
  unfold runV
  go_enter Try.func138, Try.ntmps138
  go_upto_region 1 with fail
  obtain ⟨w2, hw2⟩ : ∃ q, q = (w.alloc (.cells #[.int .i64 x.s.me, .int .i64 x.s.round, .int .i64 x.s.step, .int .i64 x.s.lv, .int .i64 x.s.lr, .int .i64 x.s.vv, .int .i64 x.s.vr, .int .i64 x.s.polka, .int .i64 x.s.dec, .slice A x.l.length c, .slice B x.o.length d] 120)).alloc (.cells #[.int .i64 0, .int .i64 0, .int .i64 0, .int .i64 0, .int .i64 0, .int .i64 0, .int .i64 0, .int .i64 0, .int .i64 0, .slice none 0 0, .slice none 0 0] 120) := ⟨_, rfl⟩
  rw [← hw2]
  have HX2 : Hid (RunAt w2 (fun q => P q ∨ q = w.heap.size + 1) w.heap.size A c B d x) := by show RunAt _ _ _ _ _ _ _ _; rw [hw2]; exact (run_open HR.out).1
  have HZ2 : Hid (Blk w2 (w.heap.size + 1) 120 #[.int .i64 0, .int .i64 0, .int .i64 0, .int .i64 0, .int .i64 0, .int .i64 0, .int .i64 0, .int .i64 0, .int .i64 0, .slice none 0 0, .slice none 0 0]) := by show Blk _ _ _ _; rw [hw2]; exact (run_open HR.out).2.1
  have HK2 : Hid (Keep P w w2) := by show Keep _ _ _; rw [hw2]; exact (run_open HR.out).2.2
  have hnb : ¬ P w.heap.size := fun h => by have := HR.out.lt _ h; omega
  have hnz : ¬ P (w.heap.size + 1) := fun h => by have := HR.out.lt _ h; omega
  have hne : w.heap.size + 1 ≠ w.heap.size := by omega
  clear hw2
  have tb := HX2.out.cells
  have tbf := HX2.out.free
  have tz := HZ2.out.cell
  have tzf := HZ2.out.frozen
  have hltb := HX2.out.lt
  have hltz := HZ2.out.lt
  cases hst : (x.s.step == 1)
  rotate_left
  · have HE : Hid (polF x = none) := by show _ = _; unfold polF; rw [hst]; rfl
    have HE2 : Hid ((polF x).isSome = false) := by show _ = _; rw [HE.out]; rfl
    have HE3 : Hid ((polF x).getD x = x) := by show _ = _; rw [HE.out]; rfl
    go_wp2_with fail
    rw [HE2.out]
    refine bodyPost_ret (v := .tuple #[runV x A c B d, .bool false]) (by unfold runV; first | (simp [results, Try.results138, go_sem, tz]; done) | (simp [results, Try.results138, go_sem, tz]; repeat' (first | rfl | constructor))) rfl ?_
    refine ⟨A, c, B, d, by rw [HE3.out] <;> rfl, ?_, ?_, fun h => by first | exact ⟨rfl, rfl, rfl, rfl⟩ | cases h⟩
    · rw [HE3.out]
      show Rows (fillR w2 (w.heap.size + 1) A c B d x) P A c B d x
      exact (fillR_rows HX2.out.rows (.inl (.inr rfl))).mono fun q hq => .inl (.inl hq)
    · show Keep P w (fillR w2 (w.heap.size + 1) A c B d x)
      exact fillR_keep HK2.out hnz
  cases hpk : (x.s.polka == x.s.round)
  rotate_left
  · have HE : Hid (polF x = none) := by show _ = _; unfold polF; rw [hst, hpk]; rfl
    have HE2 : Hid ((polF x).isSome = false) := by show _ = _; rw [HE.out]; rfl
    have HE3 : Hid ((polF x).getD x = x) := by show _ = _; rw [HE.out]; rfl
    go_wp2_with fail
    rw [HE2.out]
    refine bodyPost_ret (v := .tuple #[runV x A c B d, .bool false]) (by unfold runV; first | (simp [results, Try.results138, go_sem, tz]; done) | (simp [results, Try.results138, go_sem, tz]; repeat' (first | rfl | constructor))) rfl ?_
    refine ⟨A, c, B, d, by rw [HE3.out] <;> rfl, ?_, ?_, fun h => by first | exact ⟨rfl, rfl, rfl, rfl⟩ | cases h⟩
    · rw [HE3.out]
      show Rows (fillR w2 (w.heap.size + 1) A c B d x) P A c B d x
      exact (fillR_rows HX2.out.rows (.inl (.inr rfl))).mono fun q hq => .inl (.inl hq)
    · show Keep P w (fillR w2 (w.heap.size + 1) A c B d x)
      exact fillR_keep HK2.out hnz
  have HPF : Hid (polF x = match propBy x (P5 x.l x.s.round) with | some m => some (polkaR x m.v) | none => none) := by show _ = _; unfold polF; rw [hst, hpk]; rfl
  go_wp2_with fail
  go_loopw [4] (fun i wr => ∃ k : Nat, k ≤ x.l.length ∧ i = .int .i64 k ∧ Below w2.heap.size w2 wr ∧ noneTo (propP x.s (P5 x.l x.s.round)) x.l k = true) (fun i _ => x.l.length - (intOf i).toNat)
  case atStart => exact ⟨0, by omega, rfl, Below.refl _ _, noneTo_zero _ _⟩
  case round =>
    obtain ⟨k, hk, rfl, hb, hno⟩ := hrel
    have HN := Lib.hid hno
    have HW := Lib.hid hb
    have HX := Lib.hid (HX2.out.below hb)
    have HZ := Lib.hid (HZ2.out.below hb hltz)
    have hsz := hb.size
    clear hno hb tb tbf tz tzf
    have tb := HX.out.cells
    have hltb' := HX.out.lt
    by_cases hkn : k < x.l.length
    · obtain ⟨b, off, p, rfl, hb1, hp, c0, c1, c2, c3, c4⟩ := msg_cells HX.out.rows.rl hkn
      have HP := Lib.hid hp
      clear hp
      go_upto_region 7 with fail
      obtain ⟨w3, hw3⟩ : ∃ q, q = wr.alloc (.cells #[.int .i64 p.k, .int .i64 p.r, .int .i64 p.v, .int .i64 p.p, .int .i64 p.f] 49) := ⟨_, rfl⟩
      rw [← hw3]
      have HM3 : Hid (Blk w3 wr.heap.size 49 #[.int .i64 p.k, .int .i64 p.r, .int .i64 p.v, .int .i64 p.p, .int .i64 p.f]) := by show Blk _ _ _ _; rw [hw3]; exact heap_alloc_new wr _
      have HX3 : Hid (RunAt w3 (fun q => (P q ∨ q = w.heap.size + 1) ∨ q = wr.heap.size) w.heap.size (some ⟨b, off, none⟩) c B d x) := by show RunAt _ _ _ _ _ _ _ _; rw [hw3]; exact HX.out.new _
      have HZ3 : Hid (Blk w3 (w.heap.size + 1) 120 #[.int .i64 0, .int .i64 0, .int .i64 0, .int .i64 0, .int .i64 0, .int .i64 0, .int .i64 0, .int .i64 0, .int .i64 0, .slice none 0 0, .slice none 0 0]) := by show Blk _ _ _ _; rw [hw3]; exact HZ.out.alloc _
      have HW3 : Hid (Below w2.heap.size w2 w3) := by show Below _ _ _; rw [hw3]; exact HW.out.alloc hsz _
      have HK3 : Hid (Keep P w w3) := HK2.out.trans (Keep.of_below HW3.out fun q hq => HX2.out.ltP q (.inl hq))
      have hs3 : wr.heap.size < w3.heap.size := HM3.out.lt
      have hnm : ¬ P wr.heap.size := fun h => by have := HR.out.lt _ h; have := HX2.out.lt; omega
      have hneM : wr.heap.size ≠ w.heap.size := by have := HX2.out.lt; omega
      clear hw3 c0 c1 c2 c3 c4 tb hltb'
      have tb := HX3.out.cells
      have tm := HM3.out.cell
      have hltb3 := HX3.out.lt
      have hltm3 := HM3.out.lt
      have hltz3 := HZ3.out.lt
      have hw23 : w2.heap.size ≤ w3.heap.size := by omega
      have H4 := Lib.hid (froms4_of HOK.out)
      cases g1 : (p.k == 1)
      · have g1' : (p.k != 1) = true := by unfold bne; rw [g1]; rfl
        have HE : Hid (propP x.s (P5 x.l x.s.round) p = false) := by show _ = _; unfold propP; rw [g1]; rfl
        go_wp2
        go_roundw
        case rel => exact ⟨k + 1, by omega, by go_num, HW3.out, noneTo_succ HP.out HN.out HE.out⟩
        case measure => simp [intOf]; omega
      have g1' : (p.k != 1) = false := by unfold bne; rw [g1]; rfl
      cases g2 : (p.r == x.s.round)
      · have g2' : (p.r != x.s.round) = true := by unfold bne; rw [g2]; rfl
        have HE : Hid (propP x.s (P5 x.l x.s.round) p = false) := by show _ = _; unfold propP; rw [g1, g2]; rfl
        go_wp2
        go_roundw
        case rel => exact ⟨k + 1, by omega, by go_num, HW3.out, noneTo_succ HP.out HN.out HE.out⟩
        case measure => simp [intOf]; omega
      have hpr := beq_iff_eq.1 g2
      have HG := Lib.hid (And.intro g1 g2)
      rw [hpr] at tm HM3
      clear hpr g2
      cases g4 : decide (countN x.l 2 x.s.round p.v < 3)
      rotate_left
      · have HE : Hid (propP x.s (P5 x.l x.s.round) p = false) := by
          show _ = _
          rw [decide_eq_true_eq] at g4
          unfold propP P5; rw [decide_eq_false (by omega : ¬ 3 ≤ countN x.l 2 x.s.round p.v), Bool.and_false, Bool.and_false]
        go_wp2_with (go_at_call 62; (refine (l16Count_any _ x.l.length c x.l 2 x.s.round p.v _ (by exact HX3.out.rows.rl) (by omega) H4.out).mono ?_); rintro e4 w4 ⟨rfl, hb4⟩)
        go_roundw
        case rel => exact ⟨k + 1, by omega, by go_num, HW3.out.trans (hb4.mono (by omega)), noneTo_succ HP.out HN.out HE.out⟩
        case measure => simp [intOf]; omega
      have HF : Hid (propBy x (P5 x.l x.s.round) = some p) := hit_find HP.out HN.out (by
        rw [decide_eq_false_iff_not] at g4
        unfold propP P5; rw [HG.out.1, HG.out.2, decide_eq_true (by omega : 3 ≤ countN x.l 2 x.s.round p.v)]; rfl)
      have HE : Hid (polF x = some (polkaR x p.v)) := by show _ = _; rw [HPF.out, HF.out]
      have HE2 : Hid ((polF x).isSome = true) := by show _ = _; rw [HE.out]; rfl
      have HE3 : Hid ((polF x).getD x = polkaR x p.v) := by show _ = _; rw [HE.out]; rfl
      go_upto_region 8 with (go_at_call 62; (refine (l16Count_any _ x.l.length c x.l 2 x.s.round p.v _ (by exact HX3.out.rows.rl) (by omega) H4.out).mono ?_); rintro e4 w4 ⟨rfl, hb4⟩)
      have HX4 := Lib.hid (HX3.out.below hb4)
      have HZ4 := Lib.hid (HZ3.out.below hb4 hltz3)
      have HM4 := Lib.hid (HM3.out.below hb4 hltm3)
      have HK4 := Lib.hid (HK3.out.trans (Keep.of_below hb4 fun q hq => HX3.out.ltP q (.inl (.inl hq))))
      clear hb4 tm tb
      have tb := HX4.out.cells
      have tbf := HX4.out.free
      have tm := HM4.out.cell
      have tz := HZ4.out.cell
      have tzf := HZ4.out.frozen
      cases s2 : (x.s.step == 2)
      · have HY : Hid (polkaR x p.v = ⟨withValid x.s p.v x.s.round, x.l, x.o⟩) := by show _ = _; unfold polkaR; rw [s2]; rfl
        have HX5 := Lib.hid (((HX4.out.put 5 (.int .i64 p.v) ⟨x.s.me, x.s.round, x.s.step, x.s.lv, x.s.lr, p.v, x.s.vr, x.s.polka, x.s.dec⟩ rfl).put 6 (.int .i64 x.s.round) ⟨x.s.me, x.s.round, x.s.step, x.s.lv, x.s.lr, p.v, x.s.round, x.s.polka, x.s.dec⟩ rfl).put 7 (.int .i64 x.s.round) (withValid x.s p.v x.s.round) rfl)
        go_wp2_with fail
        rw [HE2.out]
        have HE4 := Lib.hid (HE3.out.trans HY.out)
        refine bodyPost_ret (v := .tuple #[runV ⟨withValid x.s p.v x.s.round, x.l, x.o⟩ (some ⟨b, off, none⟩) c B d, .bool true]) (by unfold runV; first | (simp [results, Try.results138, go_sem, tz]; done) | (simp [results, Try.results138, go_sem, tz]; repeat' (first | rfl | constructor))) rfl ?_
        refine ⟨(some ⟨b, off, none⟩), c, B, d, by rw [HE4.out] <;> rfl, ?_, ?_, fun h => by first | exact ⟨rfl, rfl, rfl, rfl⟩ | cases h⟩
        · rw [HE4.out]
          show Rows (fillR (((w4.setCell ⟨w.heap.size, 5, none⟩ (.int .i64 p.v)).setCell ⟨w.heap.size, 6, none⟩ (.int .i64 x.s.round)).setCell ⟨w.heap.size, 7, none⟩ (.int .i64 x.s.round)) (w.heap.size + 1) (some ⟨b, off, none⟩) c B d ⟨withValid x.s p.v x.s.round, x.l, x.o⟩) P (some ⟨b, off, none⟩) c B d ⟨withValid x.s p.v x.s.round, x.l, x.o⟩
          exact (fillR_rows (HX5.out.rows.mono (Q := fun q => (P q ∨ q = w.heap.size + 1) ∨ q = w.heap.size) fun q hq => hq.elim (fun h => .inl (.inl h)) .inr) (.inl (.inr rfl))).mono fun q hq => .inl (.inl hq)
        · show Keep P w (fillR (((w4.setCell ⟨w.heap.size, 5, none⟩ (.int .i64 p.v)).setCell ⟨w.heap.size, 6, none⟩ (.int .i64 x.s.round)).setCell ⟨w.heap.size, 7, none⟩ (.int .i64 x.s.round)) (w.heap.size + 1) (some ⟨b, off, none⟩) c B d ⟨withValid x.s p.v x.s.round, x.l, x.o⟩)
          exact fillR_keep (((HK4.out.setCell hnb _).setCell hnb _).setCell hnb _) hnz
      · go_upto_region 11 with fail
        obtain ⟨w5, hw5⟩ : ∃ q, q = (w4.setCell ⟨w.heap.size, 3, none⟩ (.int .i64 p.v)).setCell ⟨w.heap.size, 4, none⟩ (.int .i64 x.s.round) := ⟨_, rfl⟩
        rw [← hw5]
        have HX5 : Hid (RunAt w5 (fun q => (P q ∨ q = w.heap.size + 1) ∨ q = wr.heap.size) w.heap.size (some ⟨b, off, none⟩) c B d (lockR x p.v)) := by
          show RunAt _ _ _ _ _ _ _ _
          rw [hw5]
          exact (HX4.out.put 3 (.int .i64 p.v) ⟨x.s.me, x.s.round, x.s.step, p.v, x.s.lr, x.s.vv, x.s.vr, x.s.polka, x.s.dec⟩ rfl).put 4 (.int .i64 x.s.round) (withLock x.s p.v x.s.round) rfl
        have HZ5 : Hid (Blk w5 (w.heap.size + 1) 120 #[.int .i64 0, .int .i64 0, .int .i64 0, .int .i64 0, .int .i64 0, .int .i64 0, .int .i64 0, .int .i64 0, .int .i64 0, .slice none 0 0, .slice none 0 0]) := by show Blk _ _ _ _; rw [hw5]; exact (HZ4.out.far hne _).far hne _
        have HM5 : Hid (Blk w5 wr.heap.size 49 #[.int .i64 p.k, .int .i64 x.s.round, .int .i64 p.v, .int .i64 p.p, .int .i64 p.f]) := by show Blk _ _ _ _; rw [hw5]; exact (HM4.out.far hneM _).far hneM _
        have HK5 : Hid (Keep P w w5) := by show Keep _ _ _; rw [hw5]; exact (HK4.out.setCell hnb _).setCell hnb _
        clear hw5 tb tbf tm tz tzf
        have tb := HX5.out.cells
        simp only [lockR, withLock] at tb
        have tm := HM5.out.cell
        go_wp2_with fail
        refine (l16Precommit_any (fun q => ((P q ∨ q = w.heap.size + 1) ∨ q = wr.heap.size) ∨ q = w.heap.size) _ c B d (lockR x p.v) p.v _ HX5.out.rows hl ho).mono ?_
        rintro e w6 ⟨A6, c6, B6, d6, rfl, hr6, hk6⟩
        unfold runV
        have HR6 := Lib.hid hr6
        have HK6 := Lib.hid hk6
        clear tb tm hr6 hk6
        have HB6 := Lib.hid (HK6.out.blk (.inr rfl) HX5.out.blk)
        have HZ6 := Lib.hid (HK6.out.blk (.inl (.inl (.inr rfl))) HZ5.out)
        have HM6 := Lib.hid (HK6.out.blk (.inl (.inr rfl)) HM5.out)
        have tb := HB6.out.cell
        unfold actC at tb
        have tbf := HB6.out.frozen
        go_upto_region 12 with fail
        have HY : Hid (polkaR x p.v = validR (precommitR (lockR x p.v) p.v) p.v) := by show _ = _; unfold polkaR; rw [s2]; rfl
        obtain ⟨y, hy⟩ : ∃ y, y = precommitR (lockR x p.v) p.v := ⟨_, rfl⟩
        have hyr : y.s.round = x.s.round := by rw [hy]; rfl
        rw [← hy] at HY HR6 ⊢
        clear hy
        obtain ⟨w7, hw7⟩ : ∃ q, q = fillR w6 w.heap.size A6 c6 B6 d6 y := ⟨_, rfl⟩
        have HX7 : Hid (RunAt w7 (fun q => (P q ∨ q = w.heap.size + 1) ∨ q = wr.heap.size) w.heap.size A6 c6 B6 d6 y) := by show RunAt _ _ _ _ _ _ _ _; rw [hw7]; exact fillR_at HR6.out HB6.out rfl (fun k hk => hk) HX5.out.np
        have HZ7 : Hid (Blk w7 (w.heap.size + 1) 120 #[.int .i64 0, .int .i64 0, .int .i64 0, .int .i64 0, .int .i64 0, .int .i64 0, .int .i64 0, .int .i64 0, .int .i64 0, .slice none 0 0, .slice none 0 0]) := by show Blk _ _ _ _; rw [hw7]; exact fillR_far HZ6.out hne
        have HM7 : Hid (Blk w7 wr.heap.size 49 #[.int .i64 p.k, .int .i64 x.s.round, .int .i64 p.v, .int .i64 p.p, .int .i64 p.f]) := by show Blk _ _ _ _; rw [hw7]; exact fillR_far HM6.out hneM
        have HK7 : Hid (Keep P w w7) := by show Keep _ _ _; rw [hw7]; exact fillR_keep (HK5.out.trans (HK6.out.mono fun q hq => .inl (.inl (.inl hq)))) hnb
        unfold fillR at hw7
        rw [← hw7]
        have HYR := Lib.hid hyr
        clear hw7 tb tbf hyr
        have tb := HX7.out.cells
        have tbf := HX7.out.free
        have tm := HM7.out.cell
        have tz := HZ7.out.cell
        have tzf := HZ7.out.frozen
        have HX8 := Lib.hid (((HX7.out.put 5 (.int .i64 p.v) ⟨y.s.me, y.s.round, y.s.step, y.s.lv, y.s.lr, p.v, y.s.vr, y.s.polka, y.s.dec⟩ rfl).put 6 (.int .i64 x.s.round) ⟨y.s.me, y.s.round, y.s.step, y.s.lv, y.s.lr, p.v, x.s.round, y.s.polka, y.s.dec⟩ rfl).put 7 (.int .i64 x.s.round) (withValid y.s p.v x.s.round) rfl)
        have HY2 : Hid (polkaR x p.v = ⟨withValid y.s p.v x.s.round, y.l, y.o⟩) := by show _ = _; rw [HY.out]; unfold validR; rw [HYR.out]
        go_wp2_with fail
        rw [HE2.out]
        have HE4 := Lib.hid (HE3.out.trans HY2.out)
        refine bodyPost_ret (v := .tuple #[runV ⟨withValid y.s p.v x.s.round, y.l, y.o⟩ A6 c6 B6 d6, .bool true]) (by unfold runV; first | (simp [results, Try.results138, go_sem, tz]; done) | (simp [results, Try.results138, go_sem, tz]; repeat' (first | rfl | constructor))) rfl ?_
        refine ⟨A6, c6, B6, d6, by rw [HE4.out] <;> rfl, ?_, ?_, fun h => by first | exact ⟨rfl, rfl, rfl, rfl⟩ | cases h⟩
        · rw [HE4.out]
          show Rows (fillR (((w7.setCell ⟨w.heap.size, 5, none⟩ (.int .i64 p.v)).setCell ⟨w.heap.size, 6, none⟩ (.int .i64 x.s.round)).setCell ⟨w.heap.size, 7, none⟩ (.int .i64 x.s.round)) (w.heap.size + 1) A6 c6 B6 d6 ⟨withValid y.s p.v x.s.round, y.l, y.o⟩) P A6 c6 B6 d6 ⟨withValid y.s p.v x.s.round, y.l, y.o⟩
          exact (fillR_rows (HX8.out.rows.mono (Q := fun q => (P q ∨ q = w.heap.size + 1) ∨ q = w.heap.size) fun q hq => hq.elim (fun h => .inl (.inl h)) .inr) (.inl (.inr rfl))).mono fun q hq => .inl (.inl hq)
        · show Keep P w (fillR (((w7.setCell ⟨w.heap.size, 5, none⟩ (.int .i64 p.v)).setCell ⟨w.heap.size, 6, none⟩ (.int .i64 x.s.round)).setCell ⟨w.heap.size, 7, none⟩ (.int .i64 x.s.round)) (w.heap.size + 1) A6 c6 B6 d6 ⟨withValid y.s p.v x.s.round, y.l, y.o⟩)
          exact fillR_keep (((HK7.out.setCell hnb _).setCell hnb _).setCell hnb _) hnz
    · obtain rfl : k = x.l.length := by omega
      have hnf : propBy x (P5 x.l x.s.round) = none := noneTo_find HN.out
      have HE : Hid (polF x = none) := by show _ = _; rw [HPF.out, hnf]
      have HE2 : Hid ((polF x).isSome = false) := by show _ = _; rw [HE.out]; rfl
      have HE3 : Hid ((polF x).getD x = x) := by show _ = _; rw [HE.out]; rfl
      have HKr : Hid (Keep P w wr) := HK2.out.trans (Keep.of_below HW.out fun q hq => HX2.out.ltP q (.inl hq))
      clear hnf
      have tz := HZ.out.cell
      have tzf := HZ.out.frozen
      have hltz' := HZ.out.lt
      go_wp2_with fail
      rw [HE2.out]
      refine bodyPost_ret (v := .tuple #[runV x A c B d, .bool false]) (by unfold runV; first | (simp [results, Try.results138, go_sem, tz]; done) | (simp [results, Try.results138, go_sem, tz]; repeat' (first | rfl | constructor))) rfl ?_
      refine ⟨A, c, B, d, by rw [HE3.out] <;> rfl, ?_, ?_, fun h => by first | exact ⟨rfl, rfl, rfl, rfl⟩ | cases h⟩
      · rw [HE3.out]
        show Rows (fillR wr (w.heap.size + 1) A c B d x) P A c B d x
        exact (fillR_rows HX.out.rows (.inl (.inr rfl))).mono fun q hq => .inl (.inl hq)
      · show Keep P w (fillR wr (w.heap.size + 1) A c B d x)
        exact fillR_keep HKr.out hnz
end Go.Proofs.Ytjgaelnonacdkaa
