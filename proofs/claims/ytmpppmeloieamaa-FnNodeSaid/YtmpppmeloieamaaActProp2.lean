/- proposal of an acting node, at the three closures of its rules (written by wip/prop.py). -/
import Derived.Test.YtmpppmeloieamaaActProp
import Derived.WalkKit
import Derived.WalkSpells
import Derived.WalkLawsBesides
import Derived.Lib.Hide
namespace Go.Proofs.Ytmpppmeloieamaa
open Go.RowKit

set_option maxRecDepth 100000 in
set_option maxHeartbeats 2000000 in
theorem proposal1_any (P : Nat → Prop) (g : Nat) (A : Option Addr) (c : Nat) (B : Option Addr) (d : Nat) (x : RunS) (w : World) (hx : ActAt w P g A c B d x) (hl : x.l.length ≤ 1000) :
    Calls Try.prog 72 #[.pointer (some ⟨g, 0, none⟩), .func (.func 73) #[] #[]] w fun e w' => e = .returned (propV (propBy x P3)) ∧ Below w.heap.size w w' := by
  have HX := Lib.hid hx
  have hc := hx.cells
  have hlt := hx.lt
  have HR1 := Lib.hid hx.rows.rl
  have hcm := HR1.out.2.2.2.1
  unfold maxLen at hcm
  clear hx
  go_enter Try.func72, Try.ntmps72
  go_wp2_with fail
  go_loopw [14] (fun i wr => ∃ k : Nat, k ≤ x.l.length ∧ i = .int .i64 k ∧ Below w.heap.size w wr ∧ Blk wr w.heap.size 40 #[.int .i64 0, .int .i64 0, .int .i64 0, .int .i64 0, .int .i64 0] ∧ noneTo (propP x.s P3) x.l k = true) (fun i _ => x.l.length - (intOf i).toNat)
  case atStart => exact ⟨0, by omega, rfl, (Below.refl _ _).alloc (Nat.le_refl _) _, heap_alloc_new w _, noneTo_zero _ _⟩
  case round =>
    obtain ⟨k, hk, rfl, hb, hz0, hno⟩ := hrel
    have HN := Lib.hid hno
    have HW0 := Lib.hid hb
    have HZ0 := Lib.hid hz0
    have tz0 := hz0.cell
    have tf0 := hz0.frozen
    have hzlt := hz0.lt
    have hz0s : w.heap.size ≤ wr.heap.size := hb.size
    have hzf := hz0.frozen
    clear hno hb hz0
    by_cases hkn : k < x.l.length
    · obtain ⟨b, off, p, rfl, hb1, hp, c0, c1, c2, c3, c4⟩ := msg_cells (HR1.out.below HW0.out (Nat.le_refl _)) hkn
      have HP := Lib.hid hp
      clear hp
      go_upto_region 4 with fail
      obtain ⟨w1, hw1⟩ : ∃ q, q = wr.alloc (.cells #[.int .i64 p.k, .int .i64 p.r, .int .i64 p.v, .int .i64 p.p, .int .i64 p.f] 40) := ⟨_, rfl⟩
      rw [← hw1]
      have HM : Hid (Blk w1 wr.heap.size 40 #[.int .i64 p.k, .int .i64 p.r, .int .i64 p.v, .int .i64 p.p, .int .i64 p.f]) := by show Blk _ _ _ _; rw [hw1]; exact heap_alloc_new wr _
      have HW : Hid (Below w.heap.size w w1) := by show Below _ _ _; rw [hw1]; exact HW0.out.alloc hz0s _
      have HZ : Hid (Blk w1 w.heap.size 40 #[.int .i64 0, .int .i64 0, .int .i64 0, .int .i64 0, .int .i64 0]) := by show Blk _ _ _ _; rw [hw1]; exact HZ0.out.alloc _
      have hs1 : wr.heap.size < w1.heap.size := HM.out.lt
      clear hw1 tz0 tf0 c0 c1 c2 c3 c4
      have tm := HM.out.cell
      have tz := HZ.out.cell
      have tc : ∀ i, w1.cell? ⟨g, i, none⟩ = _ := fun i => (HW.out.cell (p := ⟨g, i, none⟩) hlt).trans (hc i)
      have hg1 : g < w1.heap.size := by omega
      cases g1 : (p.k == 1)
      · have HE : Hid (propP x.s P3 p = false) := by show _ = _; unfold propP; rw [g1]; rfl
        refine wp_region_below (by kernel_rfl) (by kernel_rfl) ?_
        repeat (first | go_big_quiet_skip | (go_big_quiet_want; go_big_quiet_op; first | go_big_quiet_on | (apply Exists.intro; refine ⟨fun w1 hC => ?_, ?_⟩; (focus (first | rfl | fail | (simp [(bcell hC).1, hs1, hg1, tm, tc]; done) | (simp [(bcell hC).1, hs1, hg1, tm, tc]; rfl))); go_big_quiet_on)))
        refine wpQuiet_nil ?_
        intro w2 hb2
        obtain ⟨hc2, hf2, hz2⟩ := bcell hb2
        go_wp2
        go_roundw
        case rel => exact ⟨k + 1, by omega, by go_num, HW.out.trans (hb2.mono (by omega)), HZ.out.below hb2 (by omega), noneTo_succ HP.out HN.out HE.out⟩
        case measure => simp [intOf]; omega
      cases g2 : (p.r == x.s.round)
      · have HE : Hid (propP x.s P3 p = false) := by show _ = _; unfold propP; rw [g1, g2]; rfl
        refine wp_region_below (by kernel_rfl) (by kernel_rfl) ?_
        repeat (first | go_big_quiet_skip | (go_big_quiet_want; go_big_quiet_op; first | go_big_quiet_on | (apply Exists.intro; refine ⟨fun w1 hC => ?_, ?_⟩; (focus (first | rfl | fail | (simp [(bcell hC).1, hs1, hg1, tm, tc]; done) | (simp [(bcell hC).1, hs1, hg1, tm, tc]; rfl))); go_big_quiet_on)))
        refine wpQuiet_nil ?_
        intro w2 hb2
        obtain ⟨hc2, hf2, hz2⟩ := bcell hb2
        go_wp2
        go_roundw
        case rel => exact ⟨k + 1, by omega, by go_num, HW.out.trans (hb2.mono (by omega)), HZ.out.below hb2 (by omega), noneTo_succ HP.out HN.out HE.out⟩
        case measure => simp [intOf]; omega
      cases g3 : P3 p
      · have HE : Hid (propP x.s P3 p = false) := by show _ = _; unfold propP; rw [g1, g2, g3]; rfl
        refine wp_region_below (by kernel_rfl) (by kernel_rfl) ?_
        repeat (first | go_big_quiet_skip | (go_big_quiet_want; go_big_quiet_op; first | go_big_quiet_on | (apply Exists.intro; refine ⟨fun w1 hC => ?_, ?_⟩; (focus (first | rfl | (go_at_call 73; have HC := HW.out.trans (hC.mono (by omega)); have HCS := HC.size; refine (clo1_any p _).mono ?_; rw [g3]; rintro e w9 ⟨rfl, hb9⟩; exact ⟨rfl, hC.trans (hb9.mono hC.size)⟩) | (simp [(bcell hC).1, hs1, hg1, tm, tc]; done) | (simp [(bcell hC).1, hs1, hg1, tm, tc]; rfl))); go_big_quiet_on)))
        refine wpQuiet_nil ?_
        intro w2 hb2
        obtain ⟨hc2, hf2, hz2⟩ := bcell hb2
        go_wp2
        go_roundw
        case rel => exact ⟨k + 1, by omega, by go_num, HW.out.trans (hb2.mono (by omega)), HZ.out.below hb2 (by omega), noneTo_succ HP.out HN.out HE.out⟩
        case measure => simp [intOf]; omega
      · have HE : Hid (propBy x P3 = some p) := hit_find HP.out HN.out (by unfold propP; rw [g1, g2, g3]; rfl)
        refine wp_region_below (by kernel_rfl) (by kernel_rfl) ?_
        repeat (first | go_big_quiet_skip | (go_big_quiet_want; go_big_quiet_op; first | go_big_quiet_on | (apply Exists.intro; refine ⟨fun w1 hC => ?_, ?_⟩; (focus (first | rfl | (go_at_call 73; have HC := HW.out.trans (hC.mono (by omega)); have HCS := HC.size; refine (clo1_any p _).mono ?_; rw [g3]; rintro e w9 ⟨rfl, hb9⟩; exact ⟨rfl, hC.trans (hb9.mono hC.size)⟩) | (simp [(bcell hC).1, hs1, hg1, tm, tc]; done) | (simp [(bcell hC).1, hs1, hg1, tm, tc]; rfl))); go_big_quiet_on)))
        refine wpQuiet_nil ?_
        intro w2 hb2
        obtain ⟨hc2, hf2, hz2⟩ := bcell hb2
        have hlz : w.heap.size < w1.heap.size := HZ.out.lt
        have tm2 : ∀ o, w2.cell? ⟨wr.heap.size, o, none⟩ = _ := fun o => (hc2 _ _ hs1).trans (tm o)
        have tz2 : ∀ o, w2.cell? ⟨w.heap.size, o, none⟩ = _ := fun o => (hc2 _ _ hlz).trans (tz o)
        have tf2 : ∀ o, w2.frozen? ⟨w.heap.size, o, none⟩ = false := fun o => (hf2 _ _ hlz).trans (HZ.out.frozen o)
        have hw0 : w.heap.size ≤ w1.heap.size := by omega
        have HB2 : Hid (Below w.heap.size w w2) := HW.out.trans (hb2.mono hw0)
        clear hc2 hf2 hb2 tm tz tc
        go_wp2
        refine bodyPost_ret (v := .tuple #[.agg #[.int .i64 p.k, .int .i64 p.r, .int .i64 p.v, .int .i64 p.p, .int .i64 p.f], .bool true]) (by simp [results, Try.results72, go_sem, tz2]) rfl ⟨by rw [HE.out]; rfl, ?_⟩
        repeat with_reducible refine Below.setCell ?_ (by with_reducible exact Nat.le_refl _) _
        with_reducible exact HB2.out
    · obtain rfl : k = x.l.length := by omega
      have HE : Hid (propBy x P3 = none) := noneTo_find HN.out
      go_wp2
      refine bodyPost_ret (v := .tuple #[.agg #[.int .i64 0, .int .i64 0, .int .i64 0, .int .i64 0, .int .i64 0], .bool false]) (by simp [results, Try.results72, go_sem, tz0]) rfl ⟨by rw [HE.out]; rfl, ?_⟩
      repeat with_reducible refine Below.setCell ?_ (by with_reducible exact Nat.le_refl _) _
      with_reducible exact HW0.out

set_option maxRecDepth 100000 in
set_option maxHeartbeats 2000000 in
theorem proposal2_any (P : Nat → Prop) (g : Nat) (A : Option Addr) (c : Nat) (B : Option Addr) (d : Nat) (x : RunS) (w : World) (hx : ActAt w P g A c B d x) (hl : x.l.length ≤ 1000) (nb : Nat) (hn : w.cell? ⟨nb, 0, none⟩ = some (.pointer (some ⟨g, 0, none⟩))) (hnl : nb < w.heap.size) :
    Calls Try.prog 72 #[.pointer (some ⟨g, 0, none⟩), .func (.func 74) #[] #[.pointer (some ⟨nb, 0, none⟩)]] w fun e w' => e = .returned (propV (propBy x (P4 x.l))) ∧ Below w.heap.size w w' := by
  have HX := Lib.hid hx
  have hc := hx.cells
  have hlt := hx.lt
  have HR1 := Lib.hid hx.rows.rl
  have hcm := HR1.out.2.2.2.1
  unfold maxLen at hcm
  clear hx
  go_enter Try.func72, Try.ntmps72
  go_wp2_with fail
  go_loopw [14] (fun i wr => ∃ k : Nat, k ≤ x.l.length ∧ i = .int .i64 k ∧ Below w.heap.size w wr ∧ Blk wr w.heap.size 40 #[.int .i64 0, .int .i64 0, .int .i64 0, .int .i64 0, .int .i64 0] ∧ noneTo (propP x.s (P4 x.l)) x.l k = true) (fun i _ => x.l.length - (intOf i).toNat)
  case atStart => exact ⟨0, by omega, rfl, (Below.refl _ _).alloc (Nat.le_refl _) _, heap_alloc_new w _, noneTo_zero _ _⟩
  case round =>
    obtain ⟨k, hk, rfl, hb, hz0, hno⟩ := hrel
    have HN := Lib.hid hno
    have HW0 := Lib.hid hb
    have HZ0 := Lib.hid hz0
    have tz0 := hz0.cell
    have tf0 := hz0.frozen
    have hzlt := hz0.lt
    have hz0s : w.heap.size ≤ wr.heap.size := hb.size
    have hzf := hz0.frozen
    clear hno hb hz0
    by_cases hkn : k < x.l.length
    · obtain ⟨b, off, p, rfl, hb1, hp, c0, c1, c2, c3, c4⟩ := msg_cells (HR1.out.below HW0.out (Nat.le_refl _)) hkn
      have HP := Lib.hid hp
      clear hp
      go_upto_region 4 with fail
      obtain ⟨w1, hw1⟩ : ∃ q, q = wr.alloc (.cells #[.int .i64 p.k, .int .i64 p.r, .int .i64 p.v, .int .i64 p.p, .int .i64 p.f] 40) := ⟨_, rfl⟩
      rw [← hw1]
      have HM : Hid (Blk w1 wr.heap.size 40 #[.int .i64 p.k, .int .i64 p.r, .int .i64 p.v, .int .i64 p.p, .int .i64 p.f]) := by show Blk _ _ _ _; rw [hw1]; exact heap_alloc_new wr _
      have HW : Hid (Below w.heap.size w w1) := by show Below _ _ _; rw [hw1]; exact HW0.out.alloc hz0s _
      have HZ : Hid (Blk w1 w.heap.size 40 #[.int .i64 0, .int .i64 0, .int .i64 0, .int .i64 0, .int .i64 0]) := by show Blk _ _ _ _; rw [hw1]; exact HZ0.out.alloc _
      have hs1 : wr.heap.size < w1.heap.size := HM.out.lt
      clear hw1 tz0 tf0 c0 c1 c2 c3 c4
      have tm := HM.out.cell
      have tz := HZ.out.cell
      have tc : ∀ i, w1.cell? ⟨g, i, none⟩ = _ := fun i => (HW.out.cell (p := ⟨g, i, none⟩) hlt).trans (hc i)
      have hg1 : g < w1.heap.size := by omega
      cases g1 : (p.k == 1)
      · have HE : Hid (propP x.s (P4 x.l) p = false) := by show _ = _; unfold propP; rw [g1]; rfl
        refine wp_region_below (by kernel_rfl) (by kernel_rfl) ?_
        repeat (first | go_big_quiet_skip | (go_big_quiet_want; go_big_quiet_op; first | go_big_quiet_on | (apply Exists.intro; refine ⟨fun w1 hC => ?_, ?_⟩; (focus (first | rfl | fail | (simp [(bcell hC).1, hs1, hg1, tm, tc]; done) | (simp [(bcell hC).1, hs1, hg1, tm, tc]; rfl))); go_big_quiet_on)))
        refine wpQuiet_nil ?_
        intro w2 hb2
        obtain ⟨hc2, hf2, hz2⟩ := bcell hb2
        go_wp2
        go_roundw
        case rel => exact ⟨k + 1, by omega, by go_num, HW.out.trans (hb2.mono (by omega)), HZ.out.below hb2 (by omega), noneTo_succ HP.out HN.out HE.out⟩
        case measure => simp [intOf]; omega
      cases g2 : (p.r == x.s.round)
      · have HE : Hid (propP x.s (P4 x.l) p = false) := by show _ = _; unfold propP; rw [g1, g2]; rfl
        refine wp_region_below (by kernel_rfl) (by kernel_rfl) ?_
        repeat (first | go_big_quiet_skip | (go_big_quiet_want; go_big_quiet_op; first | go_big_quiet_on | (apply Exists.intro; refine ⟨fun w1 hC => ?_, ?_⟩; (focus (first | rfl | fail | (simp [(bcell hC).1, hs1, hg1, tm, tc]; done) | (simp [(bcell hC).1, hs1, hg1, tm, tc]; rfl))); go_big_quiet_on)))
        refine wpQuiet_nil ?_
        intro w2 hb2
        obtain ⟨hc2, hf2, hz2⟩ := bcell hb2
        go_wp2
        go_roundw
        case rel => exact ⟨k + 1, by omega, by go_num, HW.out.trans (hb2.mono (by omega)), HZ.out.below hb2 (by omega), noneTo_succ HP.out HN.out HE.out⟩
        case measure => simp [intOf]; omega
      cases g3 : (P4 x.l) p
      · have HE : Hid (propP x.s (P4 x.l) p = false) := by show _ = _; unfold propP; rw [g1, g2, g3]; rfl
        refine wp_region_below (by kernel_rfl) (by kernel_rfl) ?_
        repeat (first | go_big_quiet_skip | (go_big_quiet_want; go_big_quiet_op; first | go_big_quiet_on | (apply Exists.intro; refine ⟨fun w1 hC => ?_, ?_⟩; (focus (first | rfl | (go_at_call 74; have HC := HW.out.trans (hC.mono (by omega)); have HCS := HC.size; refine (clo2_any nb g _ x.l.length c x.l p _ (by exact (HC.cell (p := ⟨nb, 0, none⟩) hnl).trans hn) (by exact (HC.cell (p := ⟨g, 9, none⟩) hlt).trans (hc 9)) (by omega) (by omega) (by exact (HR1.out.below HC (Nat.le_refl _)).more HCS) (by omega)).mono ?_; rw [g3]; rintro e w9 ⟨rfl, hb9⟩; exact ⟨rfl, hC.trans (hb9.mono hC.size)⟩) | (simp [(bcell hC).1, hs1, hg1, tm, tc]; done) | (simp [(bcell hC).1, hs1, hg1, tm, tc]; rfl))); go_big_quiet_on)))
        refine wpQuiet_nil ?_
        intro w2 hb2
        obtain ⟨hc2, hf2, hz2⟩ := bcell hb2
        go_wp2
        go_roundw
        case rel => exact ⟨k + 1, by omega, by go_num, HW.out.trans (hb2.mono (by omega)), HZ.out.below hb2 (by omega), noneTo_succ HP.out HN.out HE.out⟩
        case measure => simp [intOf]; omega
      · have HE : Hid (propBy x (P4 x.l) = some p) := hit_find HP.out HN.out (by unfold propP; rw [g1, g2, g3]; rfl)
        refine wp_region_below (by kernel_rfl) (by kernel_rfl) ?_
        repeat (first | go_big_quiet_skip | (go_big_quiet_want; go_big_quiet_op; first | go_big_quiet_on | (apply Exists.intro; refine ⟨fun w1 hC => ?_, ?_⟩; (focus (first | rfl | (go_at_call 74; have HC := HW.out.trans (hC.mono (by omega)); have HCS := HC.size; refine (clo2_any nb g _ x.l.length c x.l p _ (by exact (HC.cell (p := ⟨nb, 0, none⟩) hnl).trans hn) (by exact (HC.cell (p := ⟨g, 9, none⟩) hlt).trans (hc 9)) (by omega) (by omega) (by exact (HR1.out.below HC (Nat.le_refl _)).more HCS) (by omega)).mono ?_; rw [g3]; rintro e w9 ⟨rfl, hb9⟩; exact ⟨rfl, hC.trans (hb9.mono hC.size)⟩) | (simp [(bcell hC).1, hs1, hg1, tm, tc]; done) | (simp [(bcell hC).1, hs1, hg1, tm, tc]; rfl))); go_big_quiet_on)))
        refine wpQuiet_nil ?_
        intro w2 hb2
        obtain ⟨hc2, hf2, hz2⟩ := bcell hb2
        have hlz : w.heap.size < w1.heap.size := HZ.out.lt
        have tm2 : ∀ o, w2.cell? ⟨wr.heap.size, o, none⟩ = _ := fun o => (hc2 _ _ hs1).trans (tm o)
        have tz2 : ∀ o, w2.cell? ⟨w.heap.size, o, none⟩ = _ := fun o => (hc2 _ _ hlz).trans (tz o)
        have tf2 : ∀ o, w2.frozen? ⟨w.heap.size, o, none⟩ = false := fun o => (hf2 _ _ hlz).trans (HZ.out.frozen o)
        have hw0 : w.heap.size ≤ w1.heap.size := by omega
        have HB2 : Hid (Below w.heap.size w w2) := HW.out.trans (hb2.mono hw0)
        clear hc2 hf2 hb2 tm tz tc
        go_wp2
        refine bodyPost_ret (v := .tuple #[.agg #[.int .i64 p.k, .int .i64 p.r, .int .i64 p.v, .int .i64 p.p, .int .i64 p.f], .bool true]) (by simp [results, Try.results72, go_sem, tz2]) rfl ⟨by rw [HE.out]; rfl, ?_⟩
        repeat with_reducible refine Below.setCell ?_ (by with_reducible exact Nat.le_refl _) _
        with_reducible exact HB2.out
    · obtain rfl : k = x.l.length := by omega
      have HE : Hid (propBy x (P4 x.l) = none) := noneTo_find HN.out
      go_wp2
      refine bodyPost_ret (v := .tuple #[.agg #[.int .i64 0, .int .i64 0, .int .i64 0, .int .i64 0, .int .i64 0], .bool false]) (by simp [results, Try.results72, go_sem, tz0]) rfl ⟨by rw [HE.out]; rfl, ?_⟩
      repeat with_reducible refine Below.setCell ?_ (by with_reducible exact Nat.le_refl _) _
      with_reducible exact HW0.out

set_option maxRecDepth 100000 in
set_option maxHeartbeats 2000000 in
theorem proposal3_any (P : Nat → Prop) (g : Nat) (A : Option Addr) (c : Nat) (B : Option Addr) (d : Nat) (x : RunS) (w : World) (hx : ActAt w P g A c B d x) (hl : x.l.length ≤ 1000) (nb : Nat) (hn : w.cell? ⟨nb, 0, none⟩ = some (.pointer (some ⟨g, 0, none⟩))) (hnl : nb < w.heap.size) :
    Calls Try.prog 72 #[.pointer (some ⟨g, 0, none⟩), .func (.func 75) #[] #[.pointer (some ⟨nb, 0, none⟩)]] w fun e w' => e = .returned (propV (propBy x (P5 x.l x.s.round))) ∧ Below w.heap.size w w' := by
  have HX := Lib.hid hx
  have hc := hx.cells
  have hlt := hx.lt
  have HR1 := Lib.hid hx.rows.rl
  have hcm := HR1.out.2.2.2.1
  unfold maxLen at hcm
  clear hx
  go_enter Try.func72, Try.ntmps72
  go_wp2_with fail
  go_loopw [14] (fun i wr => ∃ k : Nat, k ≤ x.l.length ∧ i = .int .i64 k ∧ Below w.heap.size w wr ∧ Blk wr w.heap.size 40 #[.int .i64 0, .int .i64 0, .int .i64 0, .int .i64 0, .int .i64 0] ∧ noneTo (propP x.s (P5 x.l x.s.round)) x.l k = true) (fun i _ => x.l.length - (intOf i).toNat)
  case atStart => exact ⟨0, by omega, rfl, (Below.refl _ _).alloc (Nat.le_refl _) _, heap_alloc_new w _, noneTo_zero _ _⟩
  case round =>
    obtain ⟨k, hk, rfl, hb, hz0, hno⟩ := hrel
    have HN := Lib.hid hno
    have HW0 := Lib.hid hb
    have HZ0 := Lib.hid hz0
    have tz0 := hz0.cell
    have tf0 := hz0.frozen
    have hzlt := hz0.lt
    have hz0s : w.heap.size ≤ wr.heap.size := hb.size
    have hzf := hz0.frozen
    clear hno hb hz0
    by_cases hkn : k < x.l.length
    · obtain ⟨b, off, p, rfl, hb1, hp, c0, c1, c2, c3, c4⟩ := msg_cells (HR1.out.below HW0.out (Nat.le_refl _)) hkn
      have HP := Lib.hid hp
      clear hp
      go_upto_region 4 with fail
      obtain ⟨w1, hw1⟩ : ∃ q, q = wr.alloc (.cells #[.int .i64 p.k, .int .i64 p.r, .int .i64 p.v, .int .i64 p.p, .int .i64 p.f] 40) := ⟨_, rfl⟩
      rw [← hw1]
      have HM : Hid (Blk w1 wr.heap.size 40 #[.int .i64 p.k, .int .i64 p.r, .int .i64 p.v, .int .i64 p.p, .int .i64 p.f]) := by show Blk _ _ _ _; rw [hw1]; exact heap_alloc_new wr _
      have HW : Hid (Below w.heap.size w w1) := by show Below _ _ _; rw [hw1]; exact HW0.out.alloc hz0s _
      have HZ : Hid (Blk w1 w.heap.size 40 #[.int .i64 0, .int .i64 0, .int .i64 0, .int .i64 0, .int .i64 0]) := by show Blk _ _ _ _; rw [hw1]; exact HZ0.out.alloc _
      have hs1 : wr.heap.size < w1.heap.size := HM.out.lt
      clear hw1 tz0 tf0 c0 c1 c2 c3 c4
      have tm := HM.out.cell
      have tz := HZ.out.cell
      have tc : ∀ i, w1.cell? ⟨g, i, none⟩ = _ := fun i => (HW.out.cell (p := ⟨g, i, none⟩) hlt).trans (hc i)
      have hg1 : g < w1.heap.size := by omega
      cases g1 : (p.k == 1)
      · have HE : Hid (propP x.s (P5 x.l x.s.round) p = false) := by show _ = _; unfold propP; rw [g1]; rfl
        refine wp_region_below (by kernel_rfl) (by kernel_rfl) ?_
        repeat (first | go_big_quiet_skip | (go_big_quiet_want; go_big_quiet_op; first | go_big_quiet_on | (apply Exists.intro; refine ⟨fun w1 hC => ?_, ?_⟩; (focus (first | rfl | fail | (simp [(bcell hC).1, hs1, hg1, tm, tc]; done) | (simp [(bcell hC).1, hs1, hg1, tm, tc]; rfl))); go_big_quiet_on)))
        refine wpQuiet_nil ?_
        intro w2 hb2
        obtain ⟨hc2, hf2, hz2⟩ := bcell hb2
        go_wp2
        go_roundw
        case rel => exact ⟨k + 1, by omega, by go_num, HW.out.trans (hb2.mono (by omega)), HZ.out.below hb2 (by omega), noneTo_succ HP.out HN.out HE.out⟩
        case measure => simp [intOf]; omega
      cases g2 : (p.r == x.s.round)
      · have HE : Hid (propP x.s (P5 x.l x.s.round) p = false) := by show _ = _; unfold propP; rw [g1, g2]; rfl
        refine wp_region_below (by kernel_rfl) (by kernel_rfl) ?_
        repeat (first | go_big_quiet_skip | (go_big_quiet_want; go_big_quiet_op; first | go_big_quiet_on | (apply Exists.intro; refine ⟨fun w1 hC => ?_, ?_⟩; (focus (first | rfl | fail | (simp [(bcell hC).1, hs1, hg1, tm, tc]; done) | (simp [(bcell hC).1, hs1, hg1, tm, tc]; rfl))); go_big_quiet_on)))
        refine wpQuiet_nil ?_
        intro w2 hb2
        obtain ⟨hc2, hf2, hz2⟩ := bcell hb2
        go_wp2
        go_roundw
        case rel => exact ⟨k + 1, by omega, by go_num, HW.out.trans (hb2.mono (by omega)), HZ.out.below hb2 (by omega), noneTo_succ HP.out HN.out HE.out⟩
        case measure => simp [intOf]; omega
      cases g3 : (P5 x.l x.s.round) p
      · have HE : Hid (propP x.s (P5 x.l x.s.round) p = false) := by show _ = _; unfold propP; rw [g1, g2, g3]; rfl
        refine wp_region_below (by kernel_rfl) (by kernel_rfl) ?_
        repeat (first | go_big_quiet_skip | (go_big_quiet_want; go_big_quiet_op; first | go_big_quiet_on | (apply Exists.intro; refine ⟨fun w1 hC => ?_, ?_⟩; (focus (first | rfl | (go_at_call 75; have HC := HW.out.trans (hC.mono (by omega)); have HCS := HC.size; refine (clo3_any nb g _ x.l.length c x.l x.s.round p _ (by exact (HC.cell (p := ⟨nb, 0, none⟩) hnl).trans hn) (by exact (HC.cell (p := ⟨g, 1, none⟩) hlt).trans (hc 1)) (by exact (HC.cell (p := ⟨g, 9, none⟩) hlt).trans (hc 9)) (by omega) (by omega) (by exact (HR1.out.below HC (Nat.le_refl _)).more HCS) (by omega)).mono ?_; rw [g3]; rintro e w9 ⟨rfl, hb9⟩; exact ⟨rfl, hC.trans (hb9.mono hC.size)⟩) | (simp [(bcell hC).1, hs1, hg1, tm, tc]; done) | (simp [(bcell hC).1, hs1, hg1, tm, tc]; rfl))); go_big_quiet_on)))
        refine wpQuiet_nil ?_
        intro w2 hb2
        obtain ⟨hc2, hf2, hz2⟩ := bcell hb2
        go_wp2
        go_roundw
        case rel => exact ⟨k + 1, by omega, by go_num, HW.out.trans (hb2.mono (by omega)), HZ.out.below hb2 (by omega), noneTo_succ HP.out HN.out HE.out⟩
        case measure => simp [intOf]; omega
      · have HE : Hid (propBy x (P5 x.l x.s.round) = some p) := hit_find HP.out HN.out (by unfold propP; rw [g1, g2, g3]; rfl)
        refine wp_region_below (by kernel_rfl) (by kernel_rfl) ?_
        repeat (first | go_big_quiet_skip | (go_big_quiet_want; go_big_quiet_op; first | go_big_quiet_on | (apply Exists.intro; refine ⟨fun w1 hC => ?_, ?_⟩; (focus (first | rfl | (go_at_call 75; have HC := HW.out.trans (hC.mono (by omega)); have HCS := HC.size; refine (clo3_any nb g _ x.l.length c x.l x.s.round p _ (by exact (HC.cell (p := ⟨nb, 0, none⟩) hnl).trans hn) (by exact (HC.cell (p := ⟨g, 1, none⟩) hlt).trans (hc 1)) (by exact (HC.cell (p := ⟨g, 9, none⟩) hlt).trans (hc 9)) (by omega) (by omega) (by exact (HR1.out.below HC (Nat.le_refl _)).more HCS) (by omega)).mono ?_; rw [g3]; rintro e w9 ⟨rfl, hb9⟩; exact ⟨rfl, hC.trans (hb9.mono hC.size)⟩) | (simp [(bcell hC).1, hs1, hg1, tm, tc]; done) | (simp [(bcell hC).1, hs1, hg1, tm, tc]; rfl))); go_big_quiet_on)))
        refine wpQuiet_nil ?_
        intro w2 hb2
        obtain ⟨hc2, hf2, hz2⟩ := bcell hb2
        have hlz : w.heap.size < w1.heap.size := HZ.out.lt
        have tm2 : ∀ o, w2.cell? ⟨wr.heap.size, o, none⟩ = _ := fun o => (hc2 _ _ hs1).trans (tm o)
        have tz2 : ∀ o, w2.cell? ⟨w.heap.size, o, none⟩ = _ := fun o => (hc2 _ _ hlz).trans (tz o)
        have tf2 : ∀ o, w2.frozen? ⟨w.heap.size, o, none⟩ = false := fun o => (hf2 _ _ hlz).trans (HZ.out.frozen o)
        have hw0 : w.heap.size ≤ w1.heap.size := by omega
        have HB2 : Hid (Below w.heap.size w w2) := HW.out.trans (hb2.mono hw0)
        clear hc2 hf2 hb2 tm tz tc
        go_wp2
        refine bodyPost_ret (v := .tuple #[.agg #[.int .i64 p.k, .int .i64 p.r, .int .i64 p.v, .int .i64 p.p, .int .i64 p.f], .bool true]) (by simp [results, Try.results72, go_sem, tz2]) rfl ⟨by rw [HE.out]; rfl, ?_⟩
        repeat with_reducible refine Below.setCell ?_ (by with_reducible exact Nat.le_refl _) _
        with_reducible exact HB2.out
    · obtain rfl : k = x.l.length := by omega
      have HE : Hid (propBy x (P5 x.l x.s.round) = none) := noneTo_find HN.out
      go_wp2
      refine bodyPost_ret (v := .tuple #[.agg #[.int .i64 0, .int .i64 0, .int .i64 0, .int .i64 0, .int .i64 0], .bool false]) (by simp [results, Try.results72, go_sem, tz0]) rfl ⟨by rw [HE.out]; rfl, ?_⟩
      repeat with_reducible refine Below.setCell ?_ (by with_reducible exact Nat.le_refl _) _
      with_reducible exact HW0.out
end Go.Proofs.Ytmpppmeloieamaa
