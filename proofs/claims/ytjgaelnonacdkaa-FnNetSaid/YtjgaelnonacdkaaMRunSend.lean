/- l16Send, l16Prevote, l16Precommit, l16Begin of the reference. -/
import Derived.Deep.DeepMust
import Derived.Deep.RegionWith
import Derived.Deep.DeepCutAuto
import Derived.WalkKit
import Derived.WalkSpells
import Derived.WalkLawsBesides
import Derived.Lib.Hide
import Derived.Test.YtjgaelnonacdkaaG14
namespace Go.Proofs.Ytjgaelnonacdkaa
open Go.RowKit

theorem infoMsgS : (Try.prog.info? 49).map (fun i => (i.zero, i.size, i.bytes)) = some (some (.agg #[.int .i64 0, .int .i64 0, .int .i64 0, .int .i64 0, .int .i64 0]), 5, 40) := by kernel_rfl
theorem Rd.one5S (w : World) (m : NMsgD) (g : Nat) (hg : g = w.heap.size) : Rd (w.alloc (.cells #[.int .i64 m.k, .int .i64 m.r, .int .i64 m.v, .int .i64 m.p, .int .i64 m.f] 49)) (w.heap.size + 1) (some ⟨g, 0, none⟩) 1 1 5 (msgC m) := by
  subst hg
  refine ⟨rfl, Nat.le_refl _, by unfold maxLen; omega, fun _ => ⟨w.heap.size, 0, rfl, by omega, fun j hj => ?_⟩⟩
  have hb : Blk (w.alloc (.cells #[.int .i64 m.k, .int .i64 m.r, .int .i64 m.v, .int .i64 m.p, .int .i64 m.f] 49)) w.heap.size 49 #[.int .i64 m.k, .int .i64 m.r, .int .i64 m.v, .int .i64 m.p, .int .i64 m.f] := heap_alloc_new w _
  rw [hb.cell, Nat.zero_add]; simp [msgC]
theorem msgC_oneS (m : NMsgD) : ∀ u ∈ msgC m, u.oneCell' = true := by
  intro u hu
  simp only [msgC, List.mem_cons, List.not_mem_nil, or_false] at hu
  rcases hu with rfl | rfl | rfl | rfl | rfl <;> rfl
/-- a run by value -/
def runV (x : RunS) (A : Option Addr) (c : Nat) (B : Option Addr) (d : Nat) : Value :=
  .agg #[.int .i64 x.s.me, .int .i64 x.s.round, .int .i64 x.s.step, .int .i64 x.s.lv, .int .i64 x.s.lr, .int .i64 x.s.vv, .int .i64 x.s.vr, .int .i64 x.s.polka, .int .i64 x.s.dec, .slice A x.l.length c, .slice B x.o.length d]
def RunOut (P : Nat → Prop) (y : RunS) (w : World) (e : Ending) (w' : World) : Prop :=
  ∃ A c B d, e = .returned (runV y A c B d) ∧ Rows w' P A c B d y ∧ Keep P w w'
def RunOutB (P : Nat → Prop) (A0 : Option Addr) (c0 : Nat) (B0 : Option Addr) (d0 : Nat) (y : RunS) (b : Bool) (w : World) (e : Ending) (w' : World) : Prop :=
  ∃ A c B d, e = .returned (.tuple #[runV y A c B d, .bool b]) ∧ Rows w' P A c B d y ∧ Keep P w w' ∧ (b = false → A = A0 ∧ c = c0 ∧ B = B0 ∧ d = d0)
def runZ : Array Value := #[.int .i64 0, .int .i64 0, .int .i64 0, .int .i64 0, .int .i64 0, .int .i64 0, .int .i64 0, .int .i64 0, .int .i64 0, .slice none 0 0, .slice none 0 0]

set_option maxRecDepth 100000 in
set_option maxHeartbeats 4000000 in
theorem l16Send_any (P : Nat → Prop) (A : Option Addr) (c : Nat) (B : Option Addr) (d : Nat) (x : RunS) (k v p : Int) (w : World) (hx : Rows w P A c B d x) (hl : x.l.length ≤ 1000) (ho : x.o.length ≤ 1000) :
    Calls Try.prog 109 #[runV x A c B d, .int .i64 k, .int .i64 v, .int .i64 p] w (RunOut P (sendR x k v p) w) := by
  have HR := Lib.hid hx
  obtain ⟨i0, hi, hz0, hz1, hz2⟩ := info_parts infoMsgS
  have hdm := HR.out.ob.rd msgC_len |>.2.2.2.1
  have hcm := HR.out.la.rd msgC_len |>.2.2.2.1
  clear hx
  unfold runV
  go_enter Try.func109, Try.ntmps109
  go_upto_region 2 with fail
  obtain ⟨w3, hw3⟩ : ∃ q, q = ((w.alloc (.cells #[.int .i64 x.s.me, .int .i64 x.s.round, .int .i64 x.s.step, .int .i64 x.s.lv, .int .i64 x.s.lr, .int .i64 x.s.vv, .int .i64 x.s.vr, .int .i64 x.s.polka, .int .i64 x.s.dec, .slice A x.l.length c, .slice B x.o.length d] 120)).alloc (.cells #[.int .i64 0, .int .i64 0, .int .i64 0, .int .i64 0, .int .i64 0, .int .i64 0, .int .i64 0, .int .i64 0, .int .i64 0, .slice none 0 0, .slice none 0 0] 120)).alloc (.cells #[.int .i64 k, .int .i64 x.s.round, .int .i64 v, .int .i64 p, .int .i64 x.s.me] 49) := ⟨_, rfl⟩
  rw [← hw3]
  have HR3 : Hid (Rows w3 (fun q => ((P q ∨ q = w.heap.size) ∨ q = w.heap.size + 1) ∨ q = w.heap.size + 1 + 1) A c B d x) := by show Rows _ _ _ _ _ _ _; rw [hw3]; exact (((HR.out.new _).new _).new _).mono fun q hq => by simpa using hq
  have HB3 : Hid (Blk w3 w.heap.size 120 (actC x A c B d)) := by show Blk _ _ _ _; rw [hw3]; exact ((show Blk _ _ _ _ from heap_alloc_new w _).alloc _).alloc _
  have HZ3 : Hid (Blk w3 (w.heap.size + 1) 120 #[.int .i64 0, .int .i64 0, .int .i64 0, .int .i64 0, .int .i64 0, .int .i64 0, .int .i64 0, .int .i64 0, .int .i64 0, .slice none 0 0, .slice none 0 0]) := by show Blk _ _ _ _; rw [hw3]; exact (show Blk _ _ _ _ from (by have h := heap_alloc_new (w.alloc (.cells #[.int .i64 x.s.me, .int .i64 x.s.round, .int .i64 x.s.step, .int .i64 x.s.lv, .int .i64 x.s.lr, .int .i64 x.s.vv, .int .i64 x.s.vr, .int .i64 x.s.polka, .int .i64 x.s.dec, .slice A x.l.length c, .slice B x.o.length d] 120)) (.cells #[.int .i64 0, .int .i64 0, .int .i64 0, .int .i64 0, .int .i64 0, .int .i64 0, .int .i64 0, .int .i64 0, .int .i64 0, .slice none 0 0, .slice none 0 0] 120); rw [World.size_alloc] at h; exact h)).alloc _
  have HM3 : Hid (Blk w3 (w.heap.size + 1 + 1) 49 #[.int .i64 k, .int .i64 x.s.round, .int .i64 v, .int .i64 p, .int .i64 x.s.me]) := by
    show Blk _ _ _ _
    rw [hw3]
    have h := heap_alloc_new ((w.alloc (.cells #[.int .i64 x.s.me, .int .i64 x.s.round, .int .i64 x.s.step, .int .i64 x.s.lv, .int .i64 x.s.lr, .int .i64 x.s.vv, .int .i64 x.s.vr, .int .i64 x.s.polka, .int .i64 x.s.dec, .slice A x.l.length c, .slice B x.o.length d] 120)).alloc (.cells #[.int .i64 0, .int .i64 0, .int .i64 0, .int .i64 0, .int .i64 0, .int .i64 0, .int .i64 0, .int .i64 0, .int .i64 0, .slice none 0 0, .slice none 0 0] 120)) (.cells #[.int .i64 k, .int .i64 x.s.round, .int .i64 v, .int .i64 p, .int .i64 x.s.me] 49)
    rw [World.size_alloc, World.size_alloc] at h
    exact h
  have HK3 : Hid (Keep P w w3) := by show Keep _ _ _; rw [hw3]; exact Keep.of_below (by exact (by repeat (first | exact Below.refl _ _ | assumption | refine Below.drew ?_ | refine belN ?_ _ | refine Below.alloc ?_ (by first | exact Nat.le_refl _ | (simp; done) | (simp; omega) | omega) _ | refine Below.setCell ?_ (by first | exact Nat.le_refl _ | (simp; done) | (simp; omega) | omega) _ | refine Below.trans ?_ (Below.mono (by assumption) (by first | exact Nat.le_refl _ | (simp; done) | (simp; omega) | omega))))) HR.out.lt
  have hltb : w.heap.size < w3.heap.size := HB3.out.lt
  have hltz : w.heap.size + 1 < w3.heap.size := HZ3.out.lt
  have hltm : w.heap.size + 1 + 1 < w3.heap.size := HM3.out.lt
  have hnb : ¬ P w.heap.size := fun h => by have := HR.out.lt _ h; omega
  have hnz : ¬ P (w.heap.size + 1) := fun h => by have := HR.out.lt _ h; omega
  clear hw3
  have tb := HB3.out.cell
  unfold actC at tb
  have tbf := HB3.out.frozen
  have tm := HM3.out.cell
  go_upto_region 3 with (at_builtin; refine wpList_app_rd _ rfl _ _ _ rfl 0 49 i0 _ 5 40 Try.underlying25 hi hz0 hz1 hz2 rfl (by decide) (.slice B x.o.length d) x.o.length (x.o.flatMap msgC) rfl (by exact (HR3.out.alloc _).ob.owns msgC_len) _ _ 1 1 _ rfl (by exact Rd.one5S w3 (msgOf x.s k v p) _ (by first | rfl | simp)) (msgC_oneS _) (by unfold maxLen; omega) (by omega) (by first | (simp; done) | (simp; omega)) ?_; intro v2 w4 hown hg hat; obtain ⟨B2, d2, rfl, hr4, hk4⟩ := (HR3.out.alloc _).appO (m := msgOf x.s k v p) hown hg hat; have HR4 := Lib.hid hr4; have HK4 := Lib.hid (((Keep.refl _ w3).alloc HR3.out.lt _).trans hk4); clear hown hg hat hr4 hk4; have HB4 := Lib.hid (HK4.out.blk (.inl (.inl (.inr rfl))) HB3.out); have tb4 := HB4.out.cell; unfold actC at tb4; have tbf4 := HB4.out.frozen)
  obtain ⟨w5, hw5⟩ : ∃ q, q = w4.setCell ⟨w.heap.size, 10, none⟩ (.slice B2 (x.o.length + 1) d2) := ⟨_, rfl⟩
  rw [← hw5]
  have HR5 : Hid (Rows w5 (fun q => ((P q ∨ q = w.heap.size) ∨ q = w.heap.size + 1) ∨ q = w.heap.size + 1 + 1) A c B2 d2 ⟨x.s, x.l, x.o ++ [msgOf x.s k v p]⟩) := by show Rows _ _ _ _ _ _ _; rw [hw5]; exact HR4.out.keeps (.inl (.inl (.inr rfl))) _
  have HB5 : Hid (Blk w5 w.heap.size 120 (actC ⟨x.s, x.l, x.o ++ [msgOf x.s k v p]⟩ A c B2 d2)) := by
    show Blk _ _ _ _
    rw [hw5]
    have h := HB4.out.set_ 10 (.slice B2 (x.o.length + 1) d2)
    simpa [actC] using h
  have HZ5 : Hid (Blk w5 (w.heap.size + 1) 120 #[.int .i64 0, .int .i64 0, .int .i64 0, .int .i64 0, .int .i64 0, .int .i64 0, .int .i64 0, .int .i64 0, .int .i64 0, .slice none 0 0, .slice none 0 0]) := by show Blk _ _ _ _; rw [hw5]; exact (HK4.out.blk (.inl (.inr rfl)) HZ3.out).far (by show w.heap.size + 1 ≠ w.heap.size; omega) _
  have HM5 : Hid (Blk w5 (w.heap.size + 1 + 1) 49 #[.int .i64 k, .int .i64 x.s.round, .int .i64 v, .int .i64 p, .int .i64 x.s.me]) := by show Blk _ _ _ _; rw [hw5]; exact (HK4.out.blk (.inr rfl) HM3.out).far (by show w.heap.size + 1 + 1 ≠ w.heap.size; omega) _
  have HK5 : Hid (Keep P w w5) := by show Keep _ _ _; rw [hw5]; exact (HK3.out.trans (HK4.out.mono fun q hq => .inl (.inl (.inl hq)))).setCell hnb _
  clear hw5 tb tbf tb4 tbf4 tm HB4 HR4 HK4 hltb hltz hltm
  have hltb : w.heap.size < w5.heap.size := HB5.out.lt
  have hltz : w.heap.size + 1 < w5.heap.size := HZ5.out.lt
  have hltm : w.heap.size + 1 + 1 < w5.heap.size := HM5.out.lt
  have tb := HB5.out.cell
  unfold actC at tb
  have tm := HM5.out.cell
  have hkP : ∀ q, P q → q < w5.heap.size := fun q hq => HR5.out.lt q (.inl (.inl (.inl hq)))
  have HKP := Lib.hid hkP
  clear hkP
  cases hhas : hasB x.l (msgOf x.s k v p)
  rotate_left
  · have hE : Hid (sendR x k v p = ⟨x.s, x.l, x.o ++ [msgOf x.s k v p]⟩) := by show _ = _; simp [sendR, addM, hhas]
    go_upto_region 5 with (go_at_call 56; (refine (l16Has_any _ _ _ x.l (msgOf x.s k v p) _ (by exact HR5.out.rl)).mono ?_); rw [hhas]; rintro e w6 ⟨rfl, hb6⟩)
    have HR6 := Lib.hid (HR5.out.below hb6)
    have HB6 := Lib.hid (HB5.out.below hb6 hltb)
    have HZ6 := Lib.hid (HZ5.out.below hb6 hltz)
    have HK6 := Lib.hid (HK5.out.trans (Keep.of_below hb6 HKP.out))
    clear hb6 tb tm
    have tb := HB6.out.cell
    unfold actC at tb
    have tz := HZ6.out.cell
    have tzf := HZ6.out.frozen
    go_wp2
    refine bodyPost_ret (v := runV (sendR x k v p) A c B2 d2) (by rw [hE.out]; unfold runV; simp [results, Try.results109, go_sem, tz]) rfl ?_
    refine ⟨A, c, B2, d2, rfl, ?_, ?_⟩
    · rw [hE.out]
      refine Rows.mono (P := (fun q => ((P q ∨ q = w.heap.size) ∨ q = w.heap.size + 1) ∨ q = w.heap.size + 1 + 1)) ?_ fun q hq => .inl (.inl (.inl hq))
      repeat with_reducible refine Rows.keeps ?_ (.inl (.inr rfl)) _
      with_reducible exact HR6.out
    · repeat with_reducible refine Keep.setCell ?_ hnz _
      with_reducible exact HK6.out
  by_cases hlen : x.l.length < 90
  rotate_left
  · have hE : Hid (sendR x k v p = ⟨x.s, x.l, x.o ++ [msgOf x.s k v p]⟩) := by show _ = _; simp [sendR, addM, hlen]
    go_upto_region 5 with (go_at_call 56; (refine (l16Has_any _ _ _ x.l (msgOf x.s k v p) _ (by exact HR5.out.rl)).mono ?_); rw [hhas]; rintro e w6 ⟨rfl, hb6⟩; have tb6 : ∀ o, w6.cell? ⟨w.heap.size, o, none⟩ = _ := fun o => ((bcell hb6).1 _ _ hltb).trans (tb o))
    have HR6 := Lib.hid (HR5.out.below hb6)
    have HB6 := Lib.hid (HB5.out.below hb6 hltb)
    have HZ6 := Lib.hid (HZ5.out.below hb6 hltz)
    have HK6 := Lib.hid (HK5.out.trans (Keep.of_below hb6 HKP.out))
    clear hb6 tb tm tb6
    have tb := HB6.out.cell
    unfold actC at tb
    have tz := HZ6.out.cell
    have tzf := HZ6.out.frozen
    go_wp2
    refine bodyPost_ret (v := runV (sendR x k v p) A c B2 d2) (by rw [hE.out]; unfold runV; simp [results, Try.results109, go_sem, tz]) rfl ?_
    refine ⟨A, c, B2, d2, rfl, ?_, ?_⟩
    · rw [hE.out]
      refine Rows.mono (P := (fun q => ((P q ∨ q = w.heap.size) ∨ q = w.heap.size + 1) ∨ q = w.heap.size + 1 + 1)) ?_ fun q hq => .inl (.inl (.inl hq))
      repeat with_reducible refine Rows.keeps ?_ (.inl (.inr rfl)) _
      with_reducible exact HR6.out
    · repeat with_reducible refine Keep.setCell ?_ hnz _
      with_reducible exact HK6.out
  have hE : Hid (sendR x k v p = ⟨x.s, x.l ++ [msgOf x.s k v p], x.o ++ [msgOf x.s k v p]⟩) := by show _ = _; simp [sendR, addM, hhas, hlen]
  go_upto_region 4 with (go_at_call 56; (refine (l16Has_any _ _ _ x.l (msgOf x.s k v p) _ (by exact HR5.out.rl)).mono ?_); rw [hhas]; rintro e w6 ⟨rfl, hb6⟩; have tb6 : ∀ o, w6.cell? ⟨w.heap.size, o, none⟩ = _ := fun o => ((bcell hb6).1 _ _ hltb).trans (tb o))
  have HR6 := Lib.hid (HR5.out.below hb6)
  have HB6 := Lib.hid (HB5.out.below hb6 hltb)
  have HZ6 := Lib.hid (HZ5.out.below hb6 hltz)
  have HM6 := Lib.hid (HM5.out.below hb6 hltm)
  have HK6 := Lib.hid (HK5.out.trans (Keep.of_below hb6 HKP.out))
  clear hb6 tb tm tb6 hltb hltz hltm
  have hltb := HB6.out.lt
  have hltz := HZ6.out.lt
  have hltm := HM6.out.lt
  have tb := HB6.out.cell
  unfold actC at tb
  have tbf := HB6.out.frozen
  have tm := HM6.out.cell
  go_upto_region 5 with (at_builtin; refine wpList_app_rd _ rfl _ _ _ rfl 0 49 i0 _ 5 40 Try.underlying25 hi hz0 hz1 hz2 rfl (by decide) (.slice A x.l.length c) x.l.length (x.l.flatMap msgC) rfl (by exact (HR6.out.alloc _).la.owns msgC_len) _ _ 1 1 _ rfl (by exact Rd.one5S w6 (msgOf x.s k v p) _ (by first | rfl | simp)) (msgC_oneS _) (by unfold maxLen; omega) (by omega) (by first | (simp; done) | (simp; omega)) ?_; intro v2 w7 hown hg hat; obtain ⟨A2, c2, rfl, hr7, hk7⟩ := (HR6.out.alloc _).appL (m := msgOf x.s k v p) hown hg hat; have HR7 := Lib.hid hr7; have HK7 := Lib.hid (((Keep.refl _ w6).alloc HR6.out.lt _).trans hk7); clear hown hg hat hr7 hk7; have HB7 := Lib.hid (HK7.out.blk (.inl (.inl (.inr rfl))) HB6.out); have tb7 := HB7.out.cell; unfold actC at tb7; have tbf7 := HB7.out.frozen)
  obtain ⟨w8, hw8⟩ : ∃ q, q = w7.setCell ⟨w.heap.size, 9, none⟩ (.slice A2 (x.l.length + 1) c2) := ⟨_, rfl⟩
  rw [← hw8]
  have HR8 : Hid (Rows w8 (fun q => ((P q ∨ q = w.heap.size) ∨ q = w.heap.size + 1) ∨ q = w.heap.size + 1 + 1) A2 c2 B2 d2 ⟨x.s, x.l ++ [msgOf x.s k v p], x.o ++ [msgOf x.s k v p]⟩) := by show Rows _ _ _ _ _ _ _; rw [hw8]; exact HR7.out.keeps (.inl (.inl (.inr rfl))) _
  have HB8 : Hid (Blk w8 w.heap.size 120 (actC ⟨x.s, x.l ++ [msgOf x.s k v p], x.o ++ [msgOf x.s k v p]⟩ A2 c2 B2 d2)) := by
    show Blk _ _ _ _
    rw [hw8]
    have h := HB7.out.set_ 9 (.slice A2 (x.l.length + 1) c2)
    simpa [actC] using h
  have HZ8 : Hid (Blk w8 (w.heap.size + 1) 120 #[.int .i64 0, .int .i64 0, .int .i64 0, .int .i64 0, .int .i64 0, .int .i64 0, .int .i64 0, .int .i64 0, .int .i64 0, .slice none 0 0, .slice none 0 0]) := by show Blk _ _ _ _; rw [hw8]; exact (HK7.out.blk (.inl (.inr rfl)) HZ6.out).far (by show w.heap.size + 1 ≠ w.heap.size; omega) _
  have HK8 : Hid (Keep P w w8) := by show Keep _ _ _; rw [hw8]; exact (HK6.out.trans (HK7.out.mono fun q hq => .inl (.inl (.inl hq)))).setCell hnb _
  clear hw8 tb tbf tb7 tbf7 tm HB7 HR7 HK7 hltb hltz hltm
  have tb := HB8.out.cell
  unfold actC at tb
  have tz := HZ8.out.cell
  have tzf := HZ8.out.frozen
  go_wp2
  refine bodyPost_ret (v := runV (sendR x k v p) A2 c2 B2 d2) (by rw [hE.out]; unfold runV; simp [results, Try.results109, go_sem, tz]) rfl ?_
  refine ⟨A2, c2, B2, d2, rfl, ?_, ?_⟩
  · rw [hE.out]
    refine Rows.mono (P := (fun q => ((P q ∨ q = w.heap.size) ∨ q = w.heap.size + 1) ∨ q = w.heap.size + 1 + 1)) ?_ fun q hq => .inl (.inl (.inl hq))
    repeat with_reducible refine Rows.keeps ?_ (.inl (.inr rfl)) _
    with_reducible exact HR8.out
  · repeat with_reducible refine Keep.setCell ?_ hnz _
    with_reducible exact HK8.out
end Go.Proofs.Ytjgaelnonacdkaa
