/- send of an acting node. -/
import Derived.Deep.DeepMust
import Derived.Deep.RegionWith
import Derived.Deep.RegionLaw
import Derived.Deep.DeepCutAuto
import Derived.WalkKit
import Derived.WalkSpells
import Derived.WalkLawsBesides
import Derived.Lib.Hide
import Derived.Test.YtjgaelnonacdkaaG14
namespace Go.Proofs.Ytjgaelnonacdkaa
open Go.RowKit

theorem infoMsg : (Try.prog.info? 49).map (fun i => (i.zero, i.size, i.bytes)) = some (some (.agg #[.int .i64 0, .int .i64 0, .int .i64 0, .int .i64 0, .int .i64 0]), 5, 40) := by kernel_rfl
theorem Rd.one5 (w : World) (m : NMsgD) (g : Nat) (hg : g = w.heap.size) : Rd (w.alloc (.cells #[.int .i64 m.k, .int .i64 m.r, .int .i64 m.v, .int .i64 m.p, .int .i64 m.f] 49)) (w.heap.size + 1) (some ⟨g, 0, none⟩) 1 1 5 (msgC m) := by
  subst hg
  refine ⟨rfl, Nat.le_refl _, by unfold maxLen; omega, fun _ => ⟨w.heap.size, 0, rfl, by omega, fun j hj => ?_⟩⟩
  have hb : Blk (w.alloc (.cells #[.int .i64 m.k, .int .i64 m.r, .int .i64 m.v, .int .i64 m.p, .int .i64 m.f] 49)) w.heap.size 49 #[.int .i64 m.k, .int .i64 m.r, .int .i64 m.v, .int .i64 m.p, .int .i64 m.f] := heap_alloc_new w _
  rw [hb.cell, Nat.zero_add]; simp [msgC]
theorem msgC_one (m : NMsgD) : ∀ u ∈ msgC m, u.oneCell' = true := by
  intro u hu
  simp only [msgC, List.mem_cons, List.not_mem_nil, or_false] at hu
  rcases hu with rfl | rfl | rfl | rfl | rfl <;> rfl

set_option maxRecDepth 100000 in
set_option maxHeartbeats 1000000 in
theorem send_any (P : Nat → Prop) (g : Nat) (A : Option Addr) (c : Nat) (B : Option Addr) (d : Nat) (x : RunS) (k v p : Int) (w : World) (hx : ActAt w P g A c B d x) (hl : x.l.length ≤ 1000) (ho : x.o.length ≤ 1000) :
    Calls Try.prog 104 #[.pointer (some ⟨g, 0, none⟩), .int .i64 k, .int .i64 v, .int .i64 p] w (ActOut P g (sendR x k v p) (.tuple #[]) w) := by
  obtain ⟨hblk, hnp, hrows⟩ := hx
  have HR := Lib.hid hrows
  have HB := Lib.hid hblk
  have hlt := hblk.lt
  have hc := hblk.cell
  unfold actC at hc
  have hf := hblk.frozen
  clear hblk hrows
  obtain ⟨i0, hi, hz0, hz1, hz2⟩ := info_parts infoMsg
  have hdm := HR.out.ob.rd msgC_len |>.2.2.2.1
  have hcm := HR.out.la.rd msgC_len |>.2.2.2.1
  go_enter Try.func104, Try.ntmps104
  go_wp2_with fail
  go_region
  go_upto_region 1 with fail
  obtain ⟨w1, hw1⟩ : ∃ q, q = (w.alloc (Obj.cells #[.int .i64 k, .int .i64 x.s.round, .int .i64 v, .int .i64 p, .int .i64 x.s.me] 49)).drew := ⟨_, rfl⟩
  rw [← hw1]
  have HR1 : Hid (Rows w1 (fun q => (P q ∨ q = g) ∨ q = w.heap.size) A c B d x) := by show Rows _ _ _ _ _ _ _; rw [hw1]; exact (HR.out.new _).drew
  have HB1 : Hid (Blk w1 g 125 (actC x A c B d)) := by show Blk _ _ _ _; rw [hw1]; exact (HB.out.alloc _).drew
  have HM1 : Hid (Blk w1 w.heap.size 49 #[.int .i64 k, .int .i64 x.s.round, .int .i64 v, .int .i64 p, .int .i64 x.s.me]) := by show Blk _ _ _ _; rw [hw1]; exact (show Blk _ _ _ _ from heap_alloc_new w _).drew
  have HK1 : Hid (Keep P w w1) := by show Keep _ _ _; rw [hw1]; exact ((Keep.refl P w).alloc (fun q hq => HR.out.lt q (.inl hq)) _).drew
  have hs1 : w.heap.size < w1.heap.size := by rw [hw1]; simp
  clear hw1 hc hf
  have hc := HB1.out.cell
  unfold actC at hc
  have hf := HB1.out.frozen
  have hm := HM1.out.cell
  have hne : g ≠ w.heap.size := by omega
  have hlt1 : g < w1.heap.size := by omega
  go_cut [30] (fun _ wx => ∃ B2 d2, Blk wx g 125 (actC ⟨x.s, x.l, x.o ++ [msgOf x.s k v p]⟩ A c B2 d2) ∧ Rows wx (fun q => (P q ∨ q = g) ∨ q = w.heap.size) A c B2 d2 ⟨x.s, x.l, x.o ++ [msgOf x.s k v p]⟩ ∧ Blk wx w.heap.size 49 #[.int .i64 k, .int .i64 x.s.round, .int .i64 v, .int .i64 p, .int .i64 x.s.me] ∧ Keep P w wx)
  case first =>
    go_region_law (first
      | ((refine step_app_rd _ rfl _ _ _ rfl 0 49 i0 _ 5 40 Try.underlying25 hi hz0 hz1 hz2 rfl (by decide) (.slice B x.o.length d) x.o.length (x.o.flatMap msgC) rfl (by exact (HR1.out.drew.alloc _).ob.owns msgC_len) _ _ 1 1 _ rfl (by exact Rd.one5 w1.drew (msgOf x.s k v p) _ (by first | rfl | simp)) (msgC_one _) (by unfold maxLen; omega) (by omega) (by first | (simp; done) | (simp; omega)) ?_)
         intro v2 w2 hown hg hat
         obtain ⟨B2, d2, rfl, hr2, hk2⟩ := (HR1.out.drew.alloc _).appO (m := msgOf x.s k v p) hown hg hat
         have HB2 : Hid (Blk w2 g 125 (actC x A c B d)) := hk2.blk (.inl (.inr rfl)) (HB1.out.drew.alloc _)
         have HM2 : Hid (Blk w2 w.heap.size 49 #[.int .i64 k, .int .i64 x.s.round, .int .i64 v, .int .i64 p, .int .i64 x.s.me]) := hk2.blk (.inr rfl) (HM1.out.drew.alloc _)
         have HR2 := Lib.hid hr2
         have HK2 : Hid (Keep P w w2) := HK1.out.trans ((((Keep.refl P w1).drew).alloc (fun q hq => HR1.out.lt q (.inl (.inl hq))) _).trans (hk2.mono fun q hq => .inl (.inl hq)))
         clear hown hg hat hr2 hk2
         have hc2 := HB2.out.cell
         unfold actC at hc2
         have hf2 := HB2.out.frozen))
    all_goals
      go_wp2_with fail
      go_meet
      case rel =>
        refine ⟨B2, d2, ?_, HR2.out.keeps (.inl (.inr rfl)) _, HM2.out.far (by exact hne.symm) _, HK2.out.setCell (by exact hnp) _⟩
        have h := HB2.out.set_ 10 (.slice B2 (x.o.length + 1) d2)
        simpa [actC] using h
  case rest =>
  obtain ⟨B2, d2, hb3, hr3, hm3, hk3⟩ := hcut
  obtain ⟨w3, hwc⟩ : ∃ q, q = wc := ⟨_, rfl⟩
  subst hwc
  have HR3 := Lib.hid hr3
  have HB3 := Lib.hid hb3
  have HM3 := Lib.hid hm3
  have HK3 := Lib.hid hk3
  clear hb3 hr3 hm3 hk3 hc hf hm
  have hs3 : w.heap.size < w3.heap.size := HM3.out.lt
  go_upto_region 2 with fail
  have hc := HB3.out.cell
  unfold actC at hc
  have hf := HB3.out.frozen
  have hm := HM3.out.cell
  have hlt3 : g < w3.heap.size := by omega
  cases hhas : hasB x.l (msgOf x.s k v p)
  · by_cases hlen : x.l.length < 90
    · have hE : Hid (sendR x k v p = ⟨x.s, x.l ++ [msgOf x.s k v p], x.o ++ [msgOf x.s k v p]⟩) := by show _ = _; simp [sendR, addM, hhas, hlen]
      refine wp_region_below (by kernel_rfl) (by kernel_rfl) ?_
      repeat (first | go_big_quiet_skip | (go_big_quiet_want; go_big_quiet_op; first | go_big_quiet_on | (apply Exists.intro; refine ⟨fun w1 hC => ?_, ?_⟩; (focus (first | rfl | (go_at_call 74; exact quiet_below hC (ContainsMsg_any _ _ _ x.l (msgOf x.s k v p) _ (by exact (HR3.out.below hC).rl))) | (simp [(bcell hC).1, hlt3, hs3, hc, hm]; done) | (simp [(bcell hC).1, hlt3, hs3, hc, hm]; rfl))); go_big_quiet_on)))
      refine wpQuiet_nil ?_
      intro w2 hb2
      obtain ⟨hc2, hf2, hz2⟩ := bcell hb2
      have HR4 := Lib.hid (HR3.out.below hb2)
      have HB4 := Lib.hid (HB3.out.below hb2 hlt3)
      have HM4 := Lib.hid (HM3.out.below hb2 hs3)
      have HK4 := Lib.hid (HK3.out.trans (Keep.of_below hb2 (fun q hq => HR3.out.lt q (.inl (.inl hq)))))
      obtain ⟨w4, hw4⟩ : ∃ q, q = w2 := ⟨_, rfl⟩
      subst hw4
      clear hc hf hm hb2 hc2 hf2 hz2
      have hc := HB4.out.cell
      unfold actC at hc
      have hf := HB4.out.frozen
      have hm := HM4.out.cell
      have hlt4 : g < w4.heap.size := HB4.out.lt
      have hs4 : w.heap.size < w4.heap.size := HM4.out.lt
      go_upto_region 3 with fail
      go_region_law (first
        | ((refine step_app_rd _ rfl _ _ _ rfl 0 49 i0 _ 5 40 Try.underlying25 hi hz0 hz1 hz2 rfl (by decide) (.slice A x.l.length c) x.l.length (x.l.flatMap msgC) rfl (by exact (HR4.out.drew.alloc _).la.owns msgC_len) _ _ 1 1 _ rfl (by exact Rd.one5 w4.drew (msgOf x.s k v p) _ (by first | rfl | simp)) (msgC_one _) (by unfold maxLen; omega) (by omega) (by first | (simp; done) | (simp; omega)) ?_)
           intro v2 w5 hown hg hat
           obtain ⟨A2, c2, rfl, hr2, hk2⟩ := (HR4.out.drew.alloc _).appL (m := msgOf x.s k v p) hown hg hat
           have HB5 : Hid (Blk w5 g 125 (actC ⟨x.s, x.l, x.o ++ [msgOf x.s k v p]⟩ A c B2 d2)) := hk2.blk (.inl (.inr rfl)) (HB4.out.drew.alloc _)
           have HR5 := Lib.hid hr2
           have HK5 : Hid (Keep P w w5) := HK4.out.trans ((((Keep.refl P w4).drew).alloc (fun q hq => HR4.out.lt q (.inl (.inl hq))) _).trans (hk2.mono fun q hq => .inl (.inl hq)))
           clear hown hg hat hr2 hk2
           have hc2 := HB5.out.cell
           unfold actC at hc2
           have hf2 := HB5.out.frozen))
      all_goals
        go_wp2_with fail
        go_end0
        refine ⟨A2, c2, B2, d2, rfl, ?_, HK5.out.setCell (by exact hnp) _⟩
        rw [hE.out]
        refine ⟨?_, hnp, (HR5.out.keeps (.inl (.inr rfl)) _).mono fun q hq => .inl hq⟩
        have h := HB5.out.set_ 9 (.slice A2 (x.l.length + 1) c2)
        simpa [actC] using h
    · have hE : Hid (sendR x k v p = ⟨x.s, x.l, x.o ++ [msgOf x.s k v p]⟩) := by show _ = _; simp [sendR, addM, hlen]
      refine wp_region_below (by kernel_rfl) (by kernel_rfl) ?_
      repeat (first | go_big_quiet_skip | (go_big_quiet_want; go_big_quiet_op; first | go_big_quiet_on | (apply Exists.intro; refine ⟨fun w1 hC => ?_, ?_⟩; (focus (first | rfl | (go_at_call 74; exact quiet_below hC (ContainsMsg_any _ _ _ x.l (msgOf x.s k v p) _ (by exact (HR3.out.below hC).rl))) | (simp [(bcell hC).1, hlt3, hs3, hc, hm]; done) | (simp [(bcell hC).1, hlt3, hs3, hc, hm]; rfl))); go_big_quiet_on)))
      refine wpQuiet_nil ?_
      intro w2 hb2
      obtain ⟨hc2, hf2, hz2⟩ := bcell hb2
      have HB4 := Lib.hid (HB3.out.below hb2 hlt3)
      have HR4 := Lib.hid (HR3.out.below hb2)
      have HK4 := Lib.hid (HK3.out.trans (Keep.of_below hb2 (fun q hq => HR3.out.lt q (.inl (.inl hq)))))
      go_wp2
      go_end0
      exact ⟨A, c, B2, d2, rfl, by rw [hE.out]; exact ⟨HB4.out, hnp, HR4.out.mono fun q hq => .inl hq⟩, HK4.out⟩
  · have hE : Hid (sendR x k v p = ⟨x.s, x.l, x.o ++ [msgOf x.s k v p]⟩) := by show _ = _; simp [sendR, addM, hhas]
    refine wp_region_below (by kernel_rfl) (by kernel_rfl) ?_
    repeat (first | go_big_quiet_skip | (go_big_quiet_want; go_big_quiet_op; first | go_big_quiet_on | (apply Exists.intro; refine ⟨fun w1 hC => ?_, ?_⟩; (focus (first | rfl | (go_at_call 74; exact quiet_below hC (ContainsMsg_any _ _ _ x.l (msgOf x.s k v p) _ (by exact (HR3.out.below hC).rl))) | (simp [(bcell hC).1, hlt3, hs3, hc, hm]; done) | (simp [(bcell hC).1, hlt3, hs3, hc, hm]; rfl))); go_big_quiet_on)))
    refine wpQuiet_nil ?_
    intro w2 hb2
    obtain ⟨hc2, hf2, hz2⟩ := bcell hb2
    have HB4 := Lib.hid (HB3.out.below hb2 hlt3)
    have HR4 := Lib.hid (HR3.out.below hb2)
    have HK4 := Lib.hid (HK3.out.trans (Keep.of_below hb2 (fun q hq => HR3.out.lt q (.inl (.inl hq)))))
    go_wp2
    go_end0
    exact ⟨A, c, B2, d2, rfl, by rw [hE.out]; exact ⟨HB4.out, hnp, HR4.out.mono fun q hq => .inl hq⟩, HK4.out⟩
end Go.Proofs.Ytjgaelnonacdkaa
