/- l16Propose of the reference, for both values of its bool (written by wip/runprop.py). -/
import Derived.WalkKit
import Derived.WalkSpells
import Derived.WalkLawsBesides
import Derived.Lib.Hide
import Derived.Test.YtjgaelnonacdkaaG26
namespace Go.Proofs.Ytjgaelnonacdkaa
open Go.RowKit

def propF (x : RunS) : Option RunS := if (x.s.step == 1) = true then (match propBy x P3 with | some m => some (prevoteR x (if (x.s.lr == -1 || x.s.lv == m.v) = true then m.v else 0)) | none => none) else none
def propT (x : RunS) : Option RunS := if (x.s.step == 1) = true then (match propBy x (P4 x.l) with | some m => some (prevoteR x (if (decide (x.s.lr ≤ m.p) || x.s.lv == m.v) = true then m.v else 0)) | none => none) else none

set_option maxRecDepth 100000 in
set_option maxHeartbeats 16000000 in
theorem l16Propose_false (P : Nat → Prop) (A : Option Addr) (c : Nat) (B : Option Addr) (d : Nat) (x : RunS) (w : World) (hx : Rows w P A c B d x) (hl : x.l.length ≤ 1000) (ho : x.o.length ≤ 1000) (hok : msgsOk x.l = true) (hlr : -1 ≤ x.s.lr) :
    Calls Try.prog 137 #[runV x A c B d, .bool false] w (RunOutB P A c B d ((propF x).getD x) (propF x).isSome w) := by
  have HR := Lib.hid hx
  have HOK := Lib.hid hok
  have hcm := hx.rl.2.2.2.1
  unfold maxLen at hcm
  clear hx hok
  unfold runV
  go_enter Try.func137, Try.ntmps137
  go_upto_region 1 with fail
  obtain ⟨w2, hw2⟩ : ∃ q, q = (w.alloc (.cells #[.int .i64 x.s.me, .int .i64 x.s.round, .int .i64 x.s.step, .int .i64 x.s.lv, .int .i64 x.s.lr, .int .i64 x.s.vv, .int .i64 x.s.vr, .int .i64 x.s.polka, .int .i64 x.s.dec, .slice A x.l.length c, .slice B x.o.length d] 120)).alloc (.cells #[.int .i64 0, .int .i64 0, .int .i64 0, .int .i64 0, .int .i64 0, .int .i64 0, .int .i64 0, .int .i64 0, .int .i64 0, .slice none 0 0, .slice none 0 0] 120) := ⟨_, rfl⟩
  rw [← hw2]
  have HX2 : Hid (RunAt w2 (fun q => P q ∨ q = w.heap.size + 1) w.heap.size A c B d x) := by show RunAt _ _ _ _ _ _ _ _; rw [hw2]; exact (run_open HR.out).1
  have HZ2 : Hid (Blk w2 (w.heap.size + 1) 120 #[.int .i64 0, .int .i64 0, .int .i64 0, .int .i64 0, .int .i64 0, .int .i64 0, .int .i64 0, .int .i64 0, .int .i64 0, .slice none 0 0, .slice none 0 0]) := by show Blk _ _ _ _; rw [hw2]; exact (run_open HR.out).2.1
  have HK2 : Hid (Keep P w w2) := by show Keep _ _ _; rw [hw2]; exact (run_open HR.out).2.2
  have hnb : ¬ P w.heap.size := fun h => by have := HR.out.lt _ h; omega
  have hnz : ¬ P (w.heap.size + 1) := fun h => by have := HR.out.lt _ h; omega
  have hne : w.heap.size + 1 ≠ w.heap.size := by omega
  clear hw2
  have tb := HX2.out.cells
  have tbf := HX2.out.free
  have tz := HZ2.out.cell
  have tzf := HZ2.out.frozen
  have hltb := HX2.out.lt
  have hltz := HZ2.out.lt
  cases hst : (x.s.step == 1)
  · have hst' : (x.s.step != 1) = true := by unfold bne; rw [hst]; rfl
    have HE : Hid (propF x = none) := by show _ = _; unfold propF; rw [hst]; rfl
    have HE2 : Hid ((propF x).isSome = false) := by show _ = _; rw [HE.out]; rfl
    have HE3 : Hid ((propF x).getD x = x) := by show _ = _; rw [HE.out]; rfl
    go_wp2_with fail
    rw [HE2.out]
    refine bodyPost_ret (v := .tuple #[runV x A c B d, .bool false]) (by unfold runV; first | (simp [results, Try.results137, go_sem, tz]; done) | (simp [results, Try.results137, go_sem, tz]; repeat' (first | rfl | constructor))) rfl ?_
    refine ⟨A, c, B, d, by rw [HE3.out] <;> rfl, ?_, ?_, fun h => by first | exact ⟨rfl, rfl, rfl, rfl⟩ | cases h⟩
    · rw [HE3.out]
      show Rows (fillR w2 (w.heap.size + 1) A c B d x) P A c B d x
      exact (fillR_rows HX2.out.rows (.inl (.inr rfl))).mono fun q hq => .inl (.inl hq)
    · show Keep P w (fillR w2 (w.heap.size + 1) A c B d x)
      exact fillR_keep HK2.out hnz
  have hst' : (x.s.step != 1) = false := by unfold bne; rw [hst]; rfl
  go_wp2_with fail
  go_loopw [6] (fun i wr => ∃ k : Nat, k ≤ x.l.length ∧ i = .int .i64 k ∧ Below w2.heap.size w2 wr ∧ noneTo (propP x.s P3) x.l k = true) (fun i _ => x.l.length - (intOf i).toNat)
  case atStart => exact ⟨0, by omega, rfl, Below.refl _ _, noneTo_zero _ _⟩
  case round =>
    obtain ⟨k, hk, rfl, hb, hno⟩ := hrel
    have HN := Lib.hid hno
    have HW := Lib.hid hb
    have HX := Lib.hid (HX2.out.below hb)
    have HZ := Lib.hid (HZ2.out.below hb hltz)
    have hsz := hb.size
    clear hno hb tb tbf tz tzf
    have tb := HX.out.cells
    have hltb' := HX.out.lt
    by_cases hkn : k < x.l.length
    · obtain ⟨b, off, p, rfl, hb1, hp, c0, c1, c2, c3, c4⟩ := msg_cells HX.out.rows.rl hkn
      have HP := Lib.hid hp
      have hpo := (okMsg_iff p).1 (msgsOk_mem HOK.out (List.mem_of_getElem? hp))
      have hpp : -1 ≤ p.p := by
        by_cases h1 : p.k = 1
        · exact (hpo.2.2.2.1 h1).2.2.1
        · have := (hpo.2.2.2.2 h1).2; omega
      clear hp hpo
      go_upto_region 7 with fail
      obtain ⟨w3, hw3⟩ : ∃ q, q = wr.alloc (.cells #[.int .i64 p.k, .int .i64 p.r, .int .i64 p.v, .int .i64 p.p, .int .i64 p.f] 49) := ⟨_, rfl⟩
      rw [← hw3]
      have HM3 : Hid (Blk w3 wr.heap.size 49 #[.int .i64 p.k, .int .i64 p.r, .int .i64 p.v, .int .i64 p.p, .int .i64 p.f]) := by show Blk _ _ _ _; rw [hw3]; exact heap_alloc_new wr _
      have HX3 : Hid (RunAt w3 (fun q => P q ∨ q = w.heap.size + 1) w.heap.size (some ⟨b, off, none⟩) c B d x) := by show RunAt _ _ _ _ _ _ _ _; rw [hw3]; exact HX.out.alloc _
      have HZ3 : Hid (Blk w3 (w.heap.size + 1) 120 #[.int .i64 0, .int .i64 0, .int .i64 0, .int .i64 0, .int .i64 0, .int .i64 0, .int .i64 0, .int .i64 0, .int .i64 0, .slice none 0 0, .slice none 0 0]) := by show Blk _ _ _ _; rw [hw3]; exact HZ.out.alloc _
      have HW3 : Hid (Below w2.heap.size w2 w3) := by show Below _ _ _; rw [hw3]; exact HW.out.alloc hsz _
      have HK3 : Hid (Keep P w w3) := HK2.out.trans (Keep.of_below HW3.out fun q hq => HX2.out.ltP q (.inl hq))
      have hs3 : wr.heap.size < w3.heap.size := HM3.out.lt
      clear hw3 c0 c1 c2 c3 c4 tb hltb'
      have tb := HX3.out.cells
      have tm := HM3.out.cell
      have hltb3 := HX3.out.lt
      have hltm3 := HM3.out.lt
      have hltz3 := HZ3.out.lt
      have hw23 : w2.heap.size ≤ w3.heap.size := by omega
      cases g1 : (p.k == 1)
      · have g1' : (p.k != 1) = true := by unfold bne; rw [g1]; rfl
        have HE : Hid (propP x.s P3 p = false) := by show _ = _; unfold propP; rw [g1]; rfl
        go_wp2
        go_roundw
        case rel => exact ⟨k + 1, by omega, by go_num, HW3.out, noneTo_succ HP.out HN.out HE.out⟩
        case measure => simp [intOf]; omega
      have g1' : (p.k != 1) = false := by unfold bne; rw [g1]; rfl
      cases g2 : (p.r == x.s.round)
      · have g2' : (p.r != x.s.round) = true := by unfold bne; rw [g2]; rfl
        have HE : Hid (propP x.s P3 p = false) := by show _ = _; unfold propP; rw [g1, g2]; rfl
        go_wp2
        go_roundw
        case rel => exact ⟨k + 1, by omega, by go_num, HW3.out, noneTo_succ HP.out HN.out HE.out⟩
        case measure => simp [intOf]; omega
      have g2' : (p.r != x.s.round) = false := by unfold bne; rw [g2]; rfl
      cases g3 : decide (0 ≤ p.p)
      rotate_left
      · have HP3 : Hid (P3 p = false) := by show _ = _; rw [decide_eq_true_eq] at g3; unfold P3; exact beq_eq_false_iff_ne.2 (by omega)
        have HE : Hid (propP x.s P3 p = false) := by show _ = _; unfold propP; rw [g1, g2, HP3.out]; rfl
        go_wp2
        go_roundw
        case rel => exact ⟨k + 1, by omega, by go_num, HW3.out, noneTo_succ HP.out HN.out HE.out⟩
        case measure => simp [intOf]; omega
      have hpm : p.p = -1 := by rw [decide_eq_false_iff_not] at g3; omega
      have HF : Hid (propBy x P3 = some p) := hit_find HP.out HN.out (by unfold propP P3; rw [g1, g2, hpm]; rfl)
      have HPM := Lib.hid hpm
      clear hpm
      go_upto_region 8 with fail
      cases q1 : decide (x.s.lr ≤ p.p)
      · have QC : Hid ((x.s.lr == -1) = false) := by show _ = _; have hpm := HPM.out; rw [decide_eq_false_iff_not] at q1; exact beq_eq_false_iff_ne.2 (by omega)
        cases q2 : (x.s.lv == p.v)
        · have HE : Hid (propF x = some (prevoteR x 0)) := by show _ = _; unfold propF; rw [hst, if_pos rfl, HF.out]; simp only; rw [QC.out, q2]; rfl
          have HE2 : Hid ((propF x).isSome = true) := by show _ = _; rw [HE.out]; rfl
          have HE3 : Hid ((propF x).getD x = prevoteR x 0) := by show _ = _; rw [HE.out]; rfl
          go_wp2_with fail
          refine (l16Prevote_any (fun q => (P q ∨ q = w.heap.size + 1) ∨ q = w.heap.size) _ c B d x 0 _ HX3.out.rows hl ho).mono ?_
          rintro e w9 ⟨A9, c9, B9, d9, rfl, hr9, hk9⟩
          unfold runV
          have HZ9 := Lib.hid (hk9.blk (.inl (.inr rfl)) HZ3.out)
          have tz := HZ9.out.cell
          have tzf := HZ9.out.frozen
          go_wp2_with fail
          rw [HE2.out]
          refine bodyPost_ret (v := .tuple #[runV (prevoteR x 0) A9 c9 B9 d9, .bool true]) (by unfold runV; first | (simp [results, Try.results137, go_sem, tz]; done) | (simp [results, Try.results137, go_sem, tz]; repeat' (first | rfl | constructor))) rfl ?_
          refine ⟨A9, c9, B9, d9, by rw [HE3.out] <;> rfl, ?_, ?_, fun h => by first | exact ⟨rfl, rfl, rfl, rfl⟩ | cases h⟩
          · rw [HE3.out]
            show Rows (fillR w9 (w.heap.size + 1) A9 c9 B9 d9 (prevoteR x 0)) P A9 c9 B9 d9 (prevoteR x 0)
            exact (fillR_rows hr9 (.inl (.inr rfl))).mono fun q hq => .inl (.inl hq)
          · show Keep P w (fillR w9 (w.heap.size + 1) A9 c9 B9 d9 (prevoteR x 0))
            exact fillR_keep (HK3.out.trans (hk9.mono fun q hq => .inl (.inl hq))) hnz
        · have HE : Hid (propF x = some (prevoteR x p.v)) := by show _ = _; unfold propF; rw [hst, if_pos rfl, HF.out]; simp only; rw [QC.out, q2]; rfl
          have HE2 : Hid ((propF x).isSome = true) := by show _ = _; rw [HE.out]; rfl
          have HE3 : Hid ((propF x).getD x = prevoteR x p.v) := by show _ = _; rw [HE.out]; rfl
          go_wp2_with fail
          refine (l16Prevote_any (fun q => (P q ∨ q = w.heap.size + 1) ∨ q = w.heap.size) _ c B d x p.v _ HX3.out.rows hl ho).mono ?_
          rintro e w9 ⟨A9, c9, B9, d9, rfl, hr9, hk9⟩
          unfold runV
          have HZ9 := Lib.hid (hk9.blk (.inl (.inr rfl)) HZ3.out)
          have tz := HZ9.out.cell
          have tzf := HZ9.out.frozen
          go_wp2_with fail
          rw [HE2.out]
          refine bodyPost_ret (v := .tuple #[runV (prevoteR x p.v) A9 c9 B9 d9, .bool true]) (by unfold runV; first | (simp [results, Try.results137, go_sem, tz]; done) | (simp [results, Try.results137, go_sem, tz]; repeat' (first | rfl | constructor))) rfl ?_
          refine ⟨A9, c9, B9, d9, by rw [HE3.out] <;> rfl, ?_, ?_, fun h => by first | exact ⟨rfl, rfl, rfl, rfl⟩ | cases h⟩
          · rw [HE3.out]
            show Rows (fillR w9 (w.heap.size + 1) A9 c9 B9 d9 (prevoteR x p.v)) P A9 c9 B9 d9 (prevoteR x p.v)
            exact (fillR_rows hr9 (.inl (.inr rfl))).mono fun q hq => .inl (.inl hq)
          · show Keep P w (fillR w9 (w.heap.size + 1) A9 c9 B9 d9 (prevoteR x p.v))
            exact fillR_keep (HK3.out.trans (hk9.mono fun q hq => .inl (.inl hq))) hnz
      · have QC : Hid ((x.s.lr == -1) = true) := by show _ = _; have hpm := HPM.out; rw [decide_eq_true_eq] at q1; exact beq_iff_eq.2 (by omega)
        have HE : Hid (propF x = some (prevoteR x p.v)) := by show _ = _; unfold propF; rw [hst, if_pos rfl, HF.out]; simp only; rw [QC.out]; rfl
        have HE2 : Hid ((propF x).isSome = true) := by show _ = _; rw [HE.out]; rfl
        have HE3 : Hid ((propF x).getD x = prevoteR x p.v) := by show _ = _; rw [HE.out]; rfl
        go_wp2_with fail
        refine (l16Prevote_any (fun q => (P q ∨ q = w.heap.size + 1) ∨ q = w.heap.size) _ c B d x p.v _ HX3.out.rows hl ho).mono ?_
        rintro e w9 ⟨A9, c9, B9, d9, rfl, hr9, hk9⟩
        unfold runV
        have HZ9 := Lib.hid (hk9.blk (.inl (.inr rfl)) HZ3.out)
        have tz := HZ9.out.cell
        have tzf := HZ9.out.frozen
        go_wp2_with fail
        rw [HE2.out]
        refine bodyPost_ret (v := .tuple #[runV (prevoteR x p.v) A9 c9 B9 d9, .bool true]) (by unfold runV; first | (simp [results, Try.results137, go_sem, tz]; done) | (simp [results, Try.results137, go_sem, tz]; repeat' (first | rfl | constructor))) rfl ?_
        refine ⟨A9, c9, B9, d9, by rw [HE3.out] <;> rfl, ?_, ?_, fun h => by first | exact ⟨rfl, rfl, rfl, rfl⟩ | cases h⟩
        · rw [HE3.out]
          show Rows (fillR w9 (w.heap.size + 1) A9 c9 B9 d9 (prevoteR x p.v)) P A9 c9 B9 d9 (prevoteR x p.v)
          exact (fillR_rows hr9 (.inl (.inr rfl))).mono fun q hq => .inl (.inl hq)
        · show Keep P w (fillR w9 (w.heap.size + 1) A9 c9 B9 d9 (prevoteR x p.v))
          exact fillR_keep (HK3.out.trans (hk9.mono fun q hq => .inl (.inl hq))) hnz
    · obtain rfl : k = x.l.length := by omega
      have hnf : propBy x P3 = none := noneTo_find HN.out
      have HE : Hid (propF x = none) := by show _ = _; unfold propF; rw [hst, if_pos rfl, hnf]
      have HE2 : Hid ((propF x).isSome = false) := by show _ = _; rw [HE.out]; rfl
      have HE3 : Hid ((propF x).getD x = x) := by show _ = _; rw [HE.out]; rfl
      have HKr : Hid (Keep P w wr) := HK2.out.trans (Keep.of_below HW.out fun q hq => HX2.out.ltP q (.inl hq))
      clear hnf
      have tz := HZ.out.cell
      have tzf := HZ.out.frozen
      have hltz' := HZ.out.lt
      go_wp2_with fail
      rw [HE2.out]
      refine bodyPost_ret (v := .tuple #[runV x A c B d, .bool false]) (by unfold runV; first | (simp [results, Try.results137, go_sem, tz]; done) | (simp [results, Try.results137, go_sem, tz]; repeat' (first | rfl | constructor))) rfl ?_
      refine ⟨A, c, B, d, by rw [HE3.out] <;> rfl, ?_, ?_, fun h => by first | exact ⟨rfl, rfl, rfl, rfl⟩ | cases h⟩
      · rw [HE3.out]
        show Rows (fillR wr (w.heap.size + 1) A c B d x) P A c B d x
        exact (fillR_rows HX.out.rows (.inl (.inr rfl))).mono fun q hq => .inl (.inl hq)
      · show Keep P w (fillR wr (w.heap.size + 1) A c B d x)
        exact fillR_keep HKr.out hnz

set_option maxRecDepth 100000 in
set_option maxHeartbeats 16000000 in
theorem l16Propose_true (P : Nat → Prop) (A : Option Addr) (c : Nat) (B : Option Addr) (d : Nat) (x : RunS) (w : World) (hx : Rows w P A c B d x) (hl : x.l.length ≤ 1000) (ho : x.o.length ≤ 1000) (hok : msgsOk x.l = true) (_ : -1 ≤ x.s.lr) :
    Calls Try.prog 137 #[runV x A c B d, .bool true] w (RunOutB P A c B d ((propT x).getD x) (propT x).isSome w) := by
  have HR := Lib.hid hx
  have HOK := Lib.hid hok
  have hcm := hx.rl.2.2.2.1
  unfold maxLen at hcm
  clear hx hok
  unfold runV
  go_enter Try.func137, Try.ntmps137
  go_upto_region 1 with fail
  obtain ⟨w2, hw2⟩ : ∃ q, q = (w.alloc (.cells #[.int .i64 x.s.me, .int .i64 x.s.round, .int .i64 x.s.step, .int .i64 x.s.lv, .int .i64 x.s.lr, .int .i64 x.s.vv, .int .i64 x.s.vr, .int .i64 x.s.polka, .int .i64 x.s.dec, .slice A x.l.length c, .slice B x.o.length d] 120)).alloc (.cells #[.int .i64 0, .int .i64 0, .int .i64 0, .int .i64 0, .int .i64 0, .int .i64 0, .int .i64 0, .int .i64 0, .int .i64 0, .slice none 0 0, .slice none 0 0] 120) := ⟨_, rfl⟩
  rw [← hw2]
  have HX2 : Hid (RunAt w2 (fun q => P q ∨ q = w.heap.size + 1) w.heap.size A c B d x) := by show RunAt _ _ _ _ _ _ _ _; rw [hw2]; exact (run_open HR.out).1
  have HZ2 : Hid (Blk w2 (w.heap.size + 1) 120 #[.int .i64 0, .int .i64 0, .int .i64 0, .int .i64 0, .int .i64 0, .int .i64 0, .int .i64 0, .int .i64 0, .int .i64 0, .slice none 0 0, .slice none 0 0]) := by show Blk _ _ _ _; rw [hw2]; exact (run_open HR.out).2.1
  have HK2 : Hid (Keep P w w2) := by show Keep _ _ _; rw [hw2]; exact (run_open HR.out).2.2
  have hnb : ¬ P w.heap.size := fun h => by have := HR.out.lt _ h; omega
  have hnz : ¬ P (w.heap.size + 1) := fun h => by have := HR.out.lt _ h; omega
  have hne : w.heap.size + 1 ≠ w.heap.size := by omega
  clear hw2
  have tb := HX2.out.cells
  have tbf := HX2.out.free
  have tz := HZ2.out.cell
  have tzf := HZ2.out.frozen
  have hltb := HX2.out.lt
  have hltz := HZ2.out.lt
  cases hst : (x.s.step == 1)
  · have hst' : (x.s.step != 1) = true := by unfold bne; rw [hst]; rfl
    have HE : Hid (propT x = none) := by show _ = _; unfold propT; rw [hst]; rfl
    have HE2 : Hid ((propT x).isSome = false) := by show _ = _; rw [HE.out]; rfl
    have HE3 : Hid ((propT x).getD x = x) := by show _ = _; rw [HE.out]; rfl
    go_wp2_with fail
    rw [HE2.out]
    refine bodyPost_ret (v := .tuple #[runV x A c B d, .bool false]) (by unfold runV; first | (simp [results, Try.results137, go_sem, tz]; done) | (simp [results, Try.results137, go_sem, tz]; repeat' (first | rfl | constructor))) rfl ?_
    refine ⟨A, c, B, d, by rw [HE3.out] <;> rfl, ?_, ?_, fun h => by first | exact ⟨rfl, rfl, rfl, rfl⟩ | cases h⟩
    · rw [HE3.out]
      show Rows (fillR w2 (w.heap.size + 1) A c B d x) P A c B d x
      exact (fillR_rows HX2.out.rows (.inl (.inr rfl))).mono fun q hq => .inl (.inl hq)
    · show Keep P w (fillR w2 (w.heap.size + 1) A c B d x)
      exact fillR_keep HK2.out hnz
  have hst' : (x.s.step != 1) = false := by unfold bne; rw [hst]; rfl
  go_wp2_with fail
  go_loopw [6] (fun i wr => ∃ k : Nat, k ≤ x.l.length ∧ i = .int .i64 k ∧ Below w2.heap.size w2 wr ∧ noneTo (propP x.s (P4 x.l)) x.l k = true) (fun i _ => x.l.length - (intOf i).toNat)
  case atStart => exact ⟨0, by omega, rfl, Below.refl _ _, noneTo_zero _ _⟩
  case round =>
    obtain ⟨k, hk, rfl, hb, hno⟩ := hrel
    have HN := Lib.hid hno
    have HW := Lib.hid hb
    have HX := Lib.hid (HX2.out.below hb)
    have HZ := Lib.hid (HZ2.out.below hb hltz)
    have hsz := hb.size
    clear hno hb tb tbf tz tzf
    have tb := HX.out.cells
    have hltb' := HX.out.lt
    by_cases hkn : k < x.l.length
    · obtain ⟨b, off, p, rfl, hb1, hp, c0, c1, c2, c3, c4⟩ := msg_cells HX.out.rows.rl hkn
      have HP := Lib.hid hp
      have hpo := (okMsg_iff p).1 (msgsOk_mem HOK.out (List.mem_of_getElem? hp))
      have hpp : -1 ≤ p.p := by
        by_cases h1 : p.k = 1
        · exact (hpo.2.2.2.1 h1).2.2.1
        · have := (hpo.2.2.2.2 h1).2; omega
      clear hp hpo
      go_upto_region 7 with fail
      obtain ⟨w3, hw3⟩ : ∃ q, q = wr.alloc (.cells #[.int .i64 p.k, .int .i64 p.r, .int .i64 p.v, .int .i64 p.p, .int .i64 p.f] 49) := ⟨_, rfl⟩
      rw [← hw3]
      have HM3 : Hid (Blk w3 wr.heap.size 49 #[.int .i64 p.k, .int .i64 p.r, .int .i64 p.v, .int .i64 p.p, .int .i64 p.f]) := by show Blk _ _ _ _; rw [hw3]; exact heap_alloc_new wr _
      have HX3 : Hid (RunAt w3 (fun q => P q ∨ q = w.heap.size + 1) w.heap.size (some ⟨b, off, none⟩) c B d x) := by show RunAt _ _ _ _ _ _ _ _; rw [hw3]; exact HX.out.alloc _
      have HZ3 : Hid (Blk w3 (w.heap.size + 1) 120 #[.int .i64 0, .int .i64 0, .int .i64 0, .int .i64 0, .int .i64 0, .int .i64 0, .int .i64 0, .int .i64 0, .int .i64 0, .slice none 0 0, .slice none 0 0]) := by show Blk _ _ _ _; rw [hw3]; exact HZ.out.alloc _
      have HW3 : Hid (Below w2.heap.size w2 w3) := by show Below _ _ _; rw [hw3]; exact HW.out.alloc hsz _
      have HK3 : Hid (Keep P w w3) := HK2.out.trans (Keep.of_below HW3.out fun q hq => HX2.out.ltP q (.inl hq))
      have hs3 : wr.heap.size < w3.heap.size := HM3.out.lt
      clear hw3 c0 c1 c2 c3 c4 tb hltb'
      have tb := HX3.out.cells
      have tm := HM3.out.cell
      have hltb3 := HX3.out.lt
      have hltm3 := HM3.out.lt
      have hltz3 := HZ3.out.lt
      have hw23 : w2.heap.size ≤ w3.heap.size := by omega
      have H4 := Lib.hid (froms4_of HOK.out)
      cases g1 : (p.k == 1)
      · have g1' : (p.k != 1) = true := by unfold bne; rw [g1]; rfl
        have HE : Hid (propP x.s (P4 x.l) p = false) := by show _ = _; unfold propP; rw [g1]; rfl
        go_wp2
        go_roundw
        case rel => exact ⟨k + 1, by omega, by go_num, HW3.out, noneTo_succ HP.out HN.out HE.out⟩
        case measure => simp [intOf]; omega
      have g1' : (p.k != 1) = false := by unfold bne; rw [g1]; rfl
      cases g2 : (p.r == x.s.round)
      · have g2' : (p.r != x.s.round) = true := by unfold bne; rw [g2]; rfl
        have HE : Hid (propP x.s (P4 x.l) p = false) := by show _ = _; unfold propP; rw [g1, g2]; rfl
        go_wp2
        go_roundw
        case rel => exact ⟨k + 1, by omega, by go_num, HW3.out, noneTo_succ HP.out HN.out HE.out⟩
        case measure => simp [intOf]; omega
      have g2' : (p.r != x.s.round) = false := by unfold bne; rw [g2]; rfl
      cases g3 : decide (0 ≤ p.p)
      · have HP4 : Hid (P4 x.l p = false) := by show _ = _; unfold P4; rw [g3]; rfl
        have HE : Hid (propP x.s (P4 x.l) p = false) := by show _ = _; unfold propP; rw [g1, g2, HP4.out]; rfl
        go_wp2
        go_roundw
        case rel => exact ⟨k + 1, by omega, by go_num, HW3.out, noneTo_succ HP.out HN.out HE.out⟩
        case measure => simp [intOf]; omega
      cases g4 : decide (countN x.l 2 p.p p.v < 3)
      rotate_left
      · have HP4 : Hid (P4 x.l p = false) := by
          show _ = _
          rw [decide_eq_true_eq] at g4
          unfold P4; rw [decide_eq_false (by omega : ¬ 3 ≤ countN x.l 2 p.p p.v), Bool.and_false]
        have HE : Hid (propP x.s (P4 x.l) p = false) := by show _ = _; unfold propP; rw [g1, g2, HP4.out]; rfl
        go_wp2_with (go_at_call 62; (refine (l16Count_any _ x.l.length c x.l 2 p.p p.v _ (by exact HX3.out.rows.rl) (by omega) H4.out).mono ?_); rintro e4 w4 ⟨rfl, hb4⟩)
        go_roundw
        case rel => exact ⟨k + 1, by omega, by go_num, HW3.out.trans (hb4.mono (by omega)), noneTo_succ HP.out HN.out HE.out⟩
        case measure => simp [intOf]; omega
      have HP4 : Hid (P4 x.l p = true) := by
        show _ = _
        rw [decide_eq_false_iff_not] at g4
        unfold P4; rw [g3, decide_eq_true (by omega : 3 ≤ countN x.l 2 p.p p.v)]; rfl
      have HF : Hid (propBy x (P4 x.l) = some p) := hit_find HP.out HN.out (by unfold propP; rw [g1, g2, HP4.out]; rfl)
      go_upto_region 8 with (go_at_call 62; (refine (l16Count_any _ x.l.length c x.l 2 p.p p.v _ (by exact HX3.out.rows.rl) (by omega) H4.out).mono ?_); rintro e4 w4 ⟨rfl, hb4⟩)
      have HX4 := Lib.hid (HX3.out.below hb4)
      have HZ4 := Lib.hid (HZ3.out.below hb4 hltz3)
      have HK4 := Lib.hid (HK3.out.trans (Keep.of_below hb4 fun q hq => HX3.out.ltP q (.inl hq)))
      have tm4 : ∀ o, w4.cell? ⟨wr.heap.size, o, none⟩ = _ := fun o => ((bcell hb4).1 _ _ hltm3).trans (tm o)
      clear hb4 tm tb
      have tb := HX4.out.cells
      cases q1 : decide (x.s.lr ≤ p.p)
      · cases q2 : (x.s.lv == p.v)
        · have HE : Hid (propT x = some (prevoteR x 0)) := by show _ = _; unfold propT; rw [hst, if_pos rfl, HF.out]; simp only; rw [q1, q2]; rfl
          have HE2 : Hid ((propT x).isSome = true) := by show _ = _; rw [HE.out]; rfl
          have HE3 : Hid ((propT x).getD x = prevoteR x 0) := by show _ = _; rw [HE.out]; rfl
          go_wp2_with fail
          refine (l16Prevote_any (fun q => (P q ∨ q = w.heap.size + 1) ∨ q = w.heap.size) _ c B d x 0 _ HX4.out.rows hl ho).mono ?_
          rintro e w9 ⟨A9, c9, B9, d9, rfl, hr9, hk9⟩
          unfold runV
          have HZ9 := Lib.hid (hk9.blk (.inl (.inr rfl)) HZ4.out)
          have tz := HZ9.out.cell
          have tzf := HZ9.out.frozen
          go_wp2_with fail
          rw [HE2.out]
          refine bodyPost_ret (v := .tuple #[runV (prevoteR x 0) A9 c9 B9 d9, .bool true]) (by unfold runV; first | (simp [results, Try.results137, go_sem, tz]; done) | (simp [results, Try.results137, go_sem, tz]; repeat' (first | rfl | constructor))) rfl ?_
          refine ⟨A9, c9, B9, d9, by rw [HE3.out] <;> rfl, ?_, ?_, fun h => by first | exact ⟨rfl, rfl, rfl, rfl⟩ | cases h⟩
          · rw [HE3.out]
            show Rows (fillR w9 (w.heap.size + 1) A9 c9 B9 d9 (prevoteR x 0)) P A9 c9 B9 d9 (prevoteR x 0)
            exact (fillR_rows hr9 (.inl (.inr rfl))).mono fun q hq => .inl (.inl hq)
          · show Keep P w (fillR w9 (w.heap.size + 1) A9 c9 B9 d9 (prevoteR x 0))
            exact fillR_keep (HK4.out.trans (hk9.mono fun q hq => .inl (.inl hq))) hnz
        · have HE : Hid (propT x = some (prevoteR x p.v)) := by show _ = _; unfold propT; rw [hst, if_pos rfl, HF.out]; simp only; rw [q1, q2]; rfl
          have HE2 : Hid ((propT x).isSome = true) := by show _ = _; rw [HE.out]; rfl
          have HE3 : Hid ((propT x).getD x = prevoteR x p.v) := by show _ = _; rw [HE.out]; rfl
          go_wp2_with fail
          refine (l16Prevote_any (fun q => (P q ∨ q = w.heap.size + 1) ∨ q = w.heap.size) _ c B d x p.v _ HX4.out.rows hl ho).mono ?_
          rintro e w9 ⟨A9, c9, B9, d9, rfl, hr9, hk9⟩
          unfold runV
          have HZ9 := Lib.hid (hk9.blk (.inl (.inr rfl)) HZ4.out)
          have tz := HZ9.out.cell
          have tzf := HZ9.out.frozen
          go_wp2_with fail
          rw [HE2.out]
          refine bodyPost_ret (v := .tuple #[runV (prevoteR x p.v) A9 c9 B9 d9, .bool true]) (by unfold runV; first | (simp [results, Try.results137, go_sem, tz]; done) | (simp [results, Try.results137, go_sem, tz]; repeat' (first | rfl | constructor))) rfl ?_
          refine ⟨A9, c9, B9, d9, by rw [HE3.out] <;> rfl, ?_, ?_, fun h => by first | exact ⟨rfl, rfl, rfl, rfl⟩ | cases h⟩
          · rw [HE3.out]
            show Rows (fillR w9 (w.heap.size + 1) A9 c9 B9 d9 (prevoteR x p.v)) P A9 c9 B9 d9 (prevoteR x p.v)
            exact (fillR_rows hr9 (.inl (.inr rfl))).mono fun q hq => .inl (.inl hq)
          · show Keep P w (fillR w9 (w.heap.size + 1) A9 c9 B9 d9 (prevoteR x p.v))
            exact fillR_keep (HK4.out.trans (hk9.mono fun q hq => .inl (.inl hq))) hnz
      · have HE : Hid (propT x = some (prevoteR x p.v)) := by show _ = _; unfold propT; rw [hst, if_pos rfl, HF.out]; simp only; rw [q1]; rfl
        have HE2 : Hid ((propT x).isSome = true) := by show _ = _; rw [HE.out]; rfl
        have HE3 : Hid ((propT x).getD x = prevoteR x p.v) := by show _ = _; rw [HE.out]; rfl
        go_wp2_with fail
        refine (l16Prevote_any (fun q => (P q ∨ q = w.heap.size + 1) ∨ q = w.heap.size) _ c B d x p.v _ HX4.out.rows hl ho).mono ?_
        rintro e w9 ⟨A9, c9, B9, d9, rfl, hr9, hk9⟩
        unfold runV
        have HZ9 := Lib.hid (hk9.blk (.inl (.inr rfl)) HZ4.out)
        have tz := HZ9.out.cell
        have tzf := HZ9.out.frozen
        go_wp2_with fail
        rw [HE2.out]
        refine bodyPost_ret (v := .tuple #[runV (prevoteR x p.v) A9 c9 B9 d9, .bool true]) (by unfold runV; first | (simp [results, Try.results137, go_sem, tz]; done) | (simp [results, Try.results137, go_sem, tz]; repeat' (first | rfl | constructor))) rfl ?_
        refine ⟨A9, c9, B9, d9, by rw [HE3.out] <;> rfl, ?_, ?_, fun h => by first | exact ⟨rfl, rfl, rfl, rfl⟩ | cases h⟩
        · rw [HE3.out]
          show Rows (fillR w9 (w.heap.size + 1) A9 c9 B9 d9 (prevoteR x p.v)) P A9 c9 B9 d9 (prevoteR x p.v)
          exact (fillR_rows hr9 (.inl (.inr rfl))).mono fun q hq => .inl (.inl hq)
        · show Keep P w (fillR w9 (w.heap.size + 1) A9 c9 B9 d9 (prevoteR x p.v))
          exact fillR_keep (HK4.out.trans (hk9.mono fun q hq => .inl (.inl hq))) hnz
    · obtain rfl : k = x.l.length := by omega
      have hnf : propBy x (P4 x.l) = none := noneTo_find HN.out
      have HE : Hid (propT x = none) := by show _ = _; unfold propT; rw [hst, if_pos rfl, hnf]
      have HE2 : Hid ((propT x).isSome = false) := by show _ = _; rw [HE.out]; rfl
      have HE3 : Hid ((propT x).getD x = x) := by show _ = _; rw [HE.out]; rfl
      have HKr : Hid (Keep P w wr) := HK2.out.trans (Keep.of_below HW.out fun q hq => HX2.out.ltP q (.inl hq))
      clear hnf
      have tz := HZ.out.cell
      have tzf := HZ.out.frozen
      have hltz' := HZ.out.lt
      go_wp2_with fail
      rw [HE2.out]
      refine bodyPost_ret (v := .tuple #[runV x A c B d, .bool false]) (by unfold runV; first | (simp [results, Try.results137, go_sem, tz]; done) | (simp [results, Try.results137, go_sem, tz]; repeat' (first | rfl | constructor))) rfl ?_
      refine ⟨A, c, B, d, by rw [HE3.out] <;> rfl, ?_, ?_, fun h => by first | exact ⟨rfl, rfl, rfl, rfl⟩ | cases h⟩
      · rw [HE3.out]
        show Rows (fillR wr (w.heap.size + 1) A c B d x) P A c B d x
        exact (fillR_rows HX.out.rows (.inl (.inr rfl))).mono fun q hq => .inl (.inl hq)
      · show Keep P w (fillR wr (w.heap.size + 1) A c B d x)
        exact fillR_keep HKr.out hnz
end Go.Proofs.Ytjgaelnonacdkaa
