/- l16Rules and l16Told of the reference. -/
import Derived.Test.YtmpppmeloieamaaRunOne
import Derived.Test.YtmpppmeloieamaaActRest
import Derived.Test.YtmpppmeloieamaaNodeCopy
import Derived.Deep.RegionLaw
import Derived.WalkKit
import Derived.WalkSpells
import Derived.WalkLawsBesides
import Derived.Lib.Hide
namespace Go.Proofs.Ytmpppmeloieamaa
open Go.RowKit

set_option maxRecDepth 100000 in
set_option maxHeartbeats 4000000 in
theorem l16Rules_any (P : Nat → Prop) (A : Option Addr) (c : Nat) (B : Option Addr) (d : Nat) (x : RunS) (w : World) (hx : Rows w P A c B d x) (hP : NodeP x.s x.l) (ho : x.o.length ≤ 700) :
    Calls Try.prog 58 #[runV x A c B d] w (RunOut P (restR x) w) := by
  have HR := Lib.hid hx
  have HP0 := Lib.hid hP
  clear hx hP
  unfold runV
  go_enter Try.func58, Try.ntmps58
  go_upto_region 1 with fail
  obtain ⟨w2, hw2⟩ : ∃ q, q = (w.alloc (.cells #[.int .i64 x.s.me, .int .i64 x.s.round, .int .i64 x.s.step, .int .i64 x.s.lv, .int .i64 x.s.lr, .int .i64 x.s.vv, .int .i64 x.s.vr, .int .i64 x.s.polka, .int .i64 x.s.dec, .slice A x.l.length c, .slice B x.o.length d] 58)).alloc (.cells #[.int .i64 0, .int .i64 0, .int .i64 0, .int .i64 0, .int .i64 0, .int .i64 0, .int .i64 0, .int .i64 0, .int .i64 0, .slice none 0 0, .slice none 0 0] 58) := ⟨_, rfl⟩
  rw [← hw2]
  have HX2 : Hid (RunAt w2 (fun q => P q ∨ q = w.heap.size + 1) w.heap.size A c B d x) := by show RunAt _ _ _ _ _ _ _ _; rw [hw2]; exact (run_open HR.out).1
  have HZ2 : Hid (Blk w2 (w.heap.size + 1) 58 #[.int .i64 0, .int .i64 0, .int .i64 0, .int .i64 0, .int .i64 0, .int .i64 0, .int .i64 0, .int .i64 0, .int .i64 0, .slice none 0 0, .slice none 0 0]) := by show Blk _ _ _ _; rw [hw2]; exact (run_open HR.out).2.1
  have HK2 : Hid (Keep P w w2) := by show Keep _ _ _; rw [hw2]; exact (run_open HR.out).2.2
  have hnb : ¬ P w.heap.size := fun h => by have := HR.out.lt _ h; omega
  have hnz : ¬ P (w.heap.size + 1) := fun h => by have := HR.out.lt _ h; omega
  have hne : w.heap.size + 1 ≠ w.heap.size := by omega
  clear hw2
  have tb := HX2.out.cells
  have tbf := HX2.out.free
  have tz := HZ2.out.cell
  have tzf := HZ2.out.frozen
  have hltb := HX2.out.lt
  have hltz := HZ2.out.lt
  clear tb tbf tz tzf hltb hltz
  go_loopw [4] (fun _ wr => ∃ (y : RunS) (A : Option Addr) (c : Nat) (B : Option Addr) (d : Nat), RunAt wr (fun q => P q ∨ q = w.heap.size + 1) w.heap.size A c B d y ∧
    Blk wr (w.heap.size + 1) 58 #[.int .i64 0, .int .i64 0, .int .i64 0, .int .i64 0, .int .i64 0, .int .i64 0, .int .i64 0, .int .i64 0, .int .i64 0, .slice none 0 0, .slice none 0 0] ∧ NodeP y.s y.l ∧ restR y = restR x ∧ y.o.length + muR y ≤ x.o.length + muR x ∧ Keep P w wr) (fun _ wr => muOf wr w.heap.size)
  case atStart => exact ⟨x, A, c, B, d, HX2.out, HZ2.out, HP0.out, rfl, Nat.le_refl _, HK2.out⟩
  case round =>
    obtain ⟨y, A1, c1, B1, d1, ha, hz, hp, hre, hlen, hk⟩ := hrel
    have HA := Lib.hid ha
    have HZ := Lib.hid hz
    have HY := Lib.hid hp
    have HE := Lib.hid hre
    have HK := Lib.hid hk
    have HLen := Lib.hid hlen
    have hmu := mu_le HP0.out
    have hyo : y.o.length ≤ 900 := by omega
    have hmuE := Lib.hid (muOf_eq ha.blk)
    clear ha hz hp hre hlen hk hmu
    have tb := HA.out.cells
    have hltb := HA.out.lt
    go_wp2_with fail
    refine (l16One_any (fun q => (P q ∨ q = w.heap.size + 1) ∨ q = w.heap.size) A1 c1 B1 d1 y _ HA.out.rows HY.out hyo).mono ?_
    clear tb
    cases hr : ruleR y with
    | none =>
      have HR1 := Lib.hid hr
      rw [show (none : Option RunS).getD y = y from rfl, show (none : Option RunS).isSome = false from rfl]
      rintro e w3 ⟨A3, c3, B3, d3, rfl, hr3, hk3, hs3⟩
      obtain ⟨rfl, rfl, rfl, rfl⟩ := hs3 rfl
      have HA3 : Hid (RunAt w3 (fun q => P q ∨ q = w.heap.size + 1) w.heap.size A3 c3 B3 d3 y) := ⟨hk3.blk (.inr rfl) HA.out.blk, HA.out.np, hr3⟩
      have HZ3 := Lib.hid (hk3.blk (.inl (.inr rfl)) HZ.out)
      have HK3 := Lib.hid (HK.out.trans (hk3.mono fun q hq => .inl (.inl hq)))
      have HRY : Hid (restR x = y) := by show _ = _; rw [← HE.out, restR_none HR1.out]
      clear hr3 hk3 hs3 hr
      unfold runV
      have tb := HA3.out.cells
      have hltb3 := HA3.out.lt
      have tz := HZ3.out.cell
      have tzf := HZ3.out.frozen
      have hltz3 := HZ3.out.lt
      go_upto_region 3 with fail
      obtain ⟨w4, hw4⟩ : ∃ q, q = w3.alloc (.cells #[.int .i64 y.s.me, .int .i64 y.s.round, .int .i64 y.s.step, .int .i64 y.s.lv, .int .i64 y.s.lr, .int .i64 y.s.vv, .int .i64 y.s.vr, .int .i64 y.s.polka, .int .i64 y.s.dec, .slice A3 y.l.length c3, .slice B3 y.o.length d3] 58) := ⟨_, rfl⟩
      rw [← hw4]
      have HA4 : Hid (RunAt w4 (fun q => P q ∨ q = w.heap.size + 1) w.heap.size A3 c3 B3 d3 y) := by show RunAt _ _ _ _ _ _ _ _; rw [hw4]; exact HA3.out.alloc _
      have HZ4 : Hid (Blk w4 (w.heap.size + 1) 58 #[.int .i64 0, .int .i64 0, .int .i64 0, .int .i64 0, .int .i64 0, .int .i64 0, .int .i64 0, .int .i64 0, .int .i64 0, .slice none 0 0, .slice none 0 0]) := by show Blk _ _ _ _; rw [hw4]; exact HZ3.out.alloc _
      have HK4 : Hid (Keep P w w4) := by show Keep _ _ _; rw [hw4]; exact HK3.out.alloc (fun q hq => HA3.out.ltP q (.inl hq)) _
      clear hw4 tb tz tzf
      have tb := HA4.out.cells
      have tz := HZ4.out.cell
      have tzf := HZ4.out.frozen
      go_wp2_with fail
      refine bodyPost_ret (v := runV y A3 c3 B3 d3) (by unfold runV; first | (simp [results, Try.results58, go_sem, tz]; done) | (simp [results, Try.results58, go_sem, tz]; repeat' (first | rfl | constructor))) rfl ?_
      refine ⟨A3, c3, B3, d3, by rw [HRY.out], ?_, ?_⟩
      · rw [HRY.out]
        show Rows (fillR w4 (w.heap.size + 1) A3 c3 B3 d3 y) P A3 c3 B3 d3 y
        exact (fillR_rows HA4.out.rows (.inl (.inr rfl))).mono fun q hq => .inl (.inl hq)
      · show Keep P w (fillR w4 (w.heap.size + 1) A3 c3 B3 d3 y)
        exact fillR_keep HK4.out hnz
    | some z =>
      have HRO := Lib.hid (rule_ok HY.out hr)
      have HRS := Lib.hid (restR_some HY.out hr)
      rw [show (some z).getD y = z from rfl, show (some z).isSome = true from rfl]
      clear hr
      rintro e w3 ⟨A3, c3, B3, d3, rfl, hr3, hk3, _⟩
      have HB3 := Lib.hid (hk3.blk (.inr rfl) HA.out.blk)
      have HR3 := Lib.hid hr3
      have HZ3 := Lib.hid (hk3.blk (.inl (.inr rfl)) HZ.out)
      have HK3 := Lib.hid (HK.out.trans (hk3.mono fun q hq => .inl (.inl hq)))
      clear hr3 hk3
      unfold runV
      have tb := HB3.out.cell
      unfold actC at tb
      have tbf := HB3.out.frozen
      have hltb3 := HB3.out.lt
      go_upto_region 4 with fail
      obtain ⟨w4, hw4⟩ : ∃ q, q = w3.alloc (.cells #[.int .i64 z.s.me, .int .i64 z.s.round, .int .i64 z.s.step, .int .i64 z.s.lv, .int .i64 z.s.lr, .int .i64 z.s.vv, .int .i64 z.s.vr, .int .i64 z.s.polka, .int .i64 z.s.dec, .slice A3 z.l.length c3, .slice B3 z.o.length d3] 58) := ⟨_, rfl⟩
      rw [← hw4]
      have HR4 : Hid (Rows w4 (fun q => (P q ∨ q = w.heap.size + 1) ∨ q = w.heap.size) A3 c3 B3 d3 z) := by show Rows _ _ _ _ _ _ _; rw [hw4]; exact HR3.out.alloc _
      have HB4 : Hid (Blk w4 w.heap.size 58 (actC y A1 c1 B1 d1)) := by show Blk _ _ _ _; rw [hw4]; exact HB3.out.alloc _
      have HE4 : Hid (Blk w4 w3.heap.size 58 #[.int .i64 z.s.me, .int .i64 z.s.round, .int .i64 z.s.step, .int .i64 z.s.lv, .int .i64 z.s.lr, .int .i64 z.s.vv, .int .i64 z.s.vr, .int .i64 z.s.polka, .int .i64 z.s.dec, .slice A3 z.l.length c3, .slice B3 z.o.length d3]) := by show Blk _ _ _ _; rw [hw4]; exact heap_alloc_new w3 _
      have HZ4 : Hid (Blk w4 (w.heap.size + 1) 58 #[.int .i64 0, .int .i64 0, .int .i64 0, .int .i64 0, .int .i64 0, .int .i64 0, .int .i64 0, .int .i64 0, .int .i64 0, .slice none 0 0, .slice none 0 0]) := by show Blk _ _ _ _; rw [hw4]; exact HZ3.out.alloc _
      have HK4 : Hid (Keep P w w4) := by show Keep _ _ _; rw [hw4]; exact HK3.out.alloc (fun q hq => HR3.out.lt q (.inl (.inl hq))) _
      clear hw4 tb tbf
      have tb := HB4.out.cell
      unfold actC at tb
      have tbf := HB4.out.frozen
      have te := HE4.out.cell
      have HA5 : Hid (RunAt (fillR w4 w.heap.size A3 c3 B3 d3 z) (fun q => P q ∨ q = w.heap.size + 1) w.heap.size A3 c3 B3 d3 z) := fillR_at HR4.out HB4.out rfl (fun k hk => hk) HA.out.np
      have HZ5 : Hid (Blk (fillR w4 w.heap.size A3 c3 B3 d3 z) (w.heap.size + 1) 58 #[.int .i64 0, .int .i64 0, .int .i64 0, .int .i64 0, .int .i64 0, .int .i64 0, .int .i64 0, .int .i64 0, .int .i64 0, .slice none 0 0, .slice none 0 0]) := fillR_far HZ4.out hne
      have HK5 : Hid (Keep P w (fillR w4 w.heap.size A3 c3 B3 d3 z)) := fillR_keep HK4.out hnb
      go_wp2_with fail
      go_roundw
      case rel => exact ⟨z, A3, c3, B3, d3, HA5.out, HZ5.out, HRO.out.ok, by rw [← HE.out, HRS.out], by have h1 := HRO.out.mu; have h2 := HRO.out.out; have h3 := HLen.out; omega, HK5.out⟩
      case measure =>
        show muOf (fillR w4 w.heap.size A3 c3 B3 d3 z) w.heap.size < muOf wr w.heap.size
        rw [muOf_eq HA5.out.blk, hmuE.out]
        exact HRO.out.mu
end Go.Proofs.Ytmpppmeloieamaa
