/- l16One of the reference (written by wip/runone.py). -/
import Derived.WalkKit
import Derived.WalkSpells
import Derived.WalkLawsBesides
import Derived.Lib.Hide
import Derived.Test.YtjgaelnonacdkaaMRunPolka
namespace Go.Proofs.Ytjgaelnonacdkaa
open Go.RowKit

theorem rule_spec {x : RunS} (hd : decide (0 < x.s.dec) = false) (hr : (x.s.round == -1) = false) (hb : bestOf x.l x.l = none) (hs : skipTo x.l x.s.round = none) :
    ruleR x = (match propF x with | some y => some y | none => match propT x with | some y => some y | none => match polF x with | some y => some y | none => rule6 x) := by
  have e : ruleR x = if (x.s.step == 1) = true then rule34 x else rule56 x := by unfold ruleR; rw [hd, hr, hb, hs]; rfl
  rw [e]
  cases hst : (x.s.step == 1)
  · have h1 : propF x = none := by unfold propF; rw [hst]; rfl
    have h2 : propT x = none := by unfold propT; rw [hst]; rfl
    rw [h1, h2, if_neg Bool.false_ne_true]
    unfold rule56 polF
    rw [hst]
    cases hp : (x.s.polka == x.s.round)
    · simp only [Bool.or_self, if_neg Bool.false_ne_true]
      cases h5 : propBy x (P5 x.l x.s.round) <;> rfl
    · rfl
  · have h6 : rule6 x = none := by
      unfold rule6
      rw [beq_iff_eq] at hst
      rw [beq_eq_false_iff_ne.2 (by omega : x.s.step ≠ 2)]; rfl
    have h5 : polF x = none := by unfold polF; rw [hst]; rfl
    rw [h5, h6, if_pos rfl]
    unfold rule34 propF propT
    rw [hst]
    cases h3 : propBy x P3
    · simp only [if_true]
      cases h4 : propBy x (P4 x.l) <;> rfl
    · rfl

set_option maxRecDepth 100000 in
set_option maxHeartbeats 16000000 in
theorem l16One_any (P : Nat → Prop) (A : Option Addr) (c : Nat) (B : Option Addr) (d : Nat) (x : RunS) (w : World) (hx : Rows w P A c B d x) (hP : NodeP x.s x.l) (ho : x.o.length ≤ 900) :
    Calls Try.prog 122 #[runV x A c B d] w (RunOutB P A c B d ((ruleR x).getD x) (ruleR x).isSome w) := by
  have HR := Lib.hid hx
  have hl : x.l.length ≤ 1000 := by have := hP.len; omega
  have ho' : x.o.length ≤ 1000 := by omega
  have hme := hP.me
  have hrd := hP.round
  have hlr := hP.lr.1
  have hvr := hP.vr.1
  have HOK := Lib.hid hP.msgs
  clear hx hP
  unfold runV
  go_enter Try.func122, Try.ntmps122
  go_upto_region 1 with fail
  obtain ⟨w2, hw2⟩ : ∃ q, q = (w.alloc (.cells #[.int .i64 x.s.me, .int .i64 x.s.round, .int .i64 x.s.step, .int .i64 x.s.lv, .int .i64 x.s.lr, .int .i64 x.s.vv, .int .i64 x.s.vr, .int .i64 x.s.polka, .int .i64 x.s.dec, .slice A x.l.length c, .slice B x.o.length d] 120)).alloc (.cells #[.int .i64 0, .int .i64 0, .int .i64 0, .int .i64 0, .int .i64 0, .int .i64 0, .int .i64 0, .int .i64 0, .int .i64 0, .slice none 0 0, .slice none 0 0] 120) := ⟨_, rfl⟩
  rw [← hw2]
  have HX2 : Hid (RunAt w2 (fun q => P q ∨ q = w.heap.size + 1) w.heap.size A c B d x) := by show RunAt _ _ _ _ _ _ _ _; rw [hw2]; exact (run_open HR.out).1
  have HZ2 : Hid (Blk w2 (w.heap.size + 1) 120 #[.int .i64 0, .int .i64 0, .int .i64 0, .int .i64 0, .int .i64 0, .int .i64 0, .int .i64 0, .int .i64 0, .int .i64 0, .slice none 0 0, .slice none 0 0]) := by show Blk _ _ _ _; rw [hw2]; exact (run_open HR.out).2.1
  have HK2 : Hid (Keep P w w2) := by show Keep _ _ _; rw [hw2]; exact (run_open HR.out).2.2
  have hnb : ¬ P w.heap.size := fun h => by have := HR.out.lt _ h; omega
  have hnz : ¬ P (w.heap.size + 1) := fun h => by have := HR.out.lt _ h; omega
  have hne : w.heap.size + 1 ≠ w.heap.size := by omega
  clear hw2
  have tb := HX2.out.cells
  have tbf := HX2.out.free
  have tz := HZ2.out.cell
  have tzf := HZ2.out.frozen
  have hltb := HX2.out.lt
  have hltz := HZ2.out.lt
  cases hd : decide (0 < x.s.dec)
  rotate_left
  · have HE : Hid (ruleR x = none) := by show _ = _; unfold ruleR; rw [hd]; rfl
    have HE2 : Hid ((ruleR x).isSome = false) := by show _ = _; rw [HE.out]; rfl
    have HE3 : Hid ((ruleR x).getD x = x) := by show _ = _; rw [HE.out]; rfl
    go_wp2_with fail
    rw [HE2.out]
    refine bodyPost_ret (v := .tuple #[runV x A c B d, .bool false]) (by unfold runV; first | (simp [results, Try.results122, go_sem, tz]; done) | (simp [results, Try.results122, go_sem, tz]; repeat' (first | rfl | constructor))) rfl ?_
    refine ⟨A, c, B, d, by rw [HE3.out] <;> rfl, ?_, ?_, fun h => by first | exact ⟨rfl, rfl, rfl, rfl⟩ | cases h⟩
    · rw [HE3.out]
      show Rows (fillR w2 (w.heap.size + 1) A c B d x) P A c B d x
      exact (fillR_rows HX2.out.rows (.inl (.inr rfl))).mono fun q hq => .inl (.inl hq)
    · show Keep P w (fillR w2 (w.heap.size + 1) A c B d x)
      exact fillR_keep HK2.out hnz
  cases hr1 : (x.s.round == -1)
  rotate_left
  · have HE : Hid (ruleR x = none) := by show _ = _; unfold ruleR; rw [hd, hr1]; rfl
    have HE2 : Hid ((ruleR x).isSome = false) := by show _ = _; rw [HE.out]; rfl
    have HE3 : Hid ((ruleR x).getD x = x) := by show _ = _; rw [HE.out]; rfl
    have hr9 : x.s.round < 0 := by rw [beq_iff_eq] at hr1; omega
    clear hr1
    go_wp2_with fail
    rw [HE2.out]
    refine bodyPost_ret (v := .tuple #[runV x A c B d, .bool false]) (by unfold runV; first | (simp [results, Try.results122, go_sem, tz]; done) | (simp [results, Try.results122, go_sem, tz]; repeat' (first | rfl | constructor))) rfl ?_
    refine ⟨A, c, B, d, by rw [HE3.out] <;> rfl, ?_, ?_, fun h => by first | exact ⟨rfl, rfl, rfl, rfl⟩ | cases h⟩
    · rw [HE3.out]
      show Rows (fillR w2 (w.heap.size + 1) A c B d x) P A c B d x
      exact (fillR_rows HX2.out.rows (.inl (.inr rfl))).mono fun q hq => .inl (.inl hq)
    · show Keep P w (fillR w2 (w.heap.size + 1) A c B d x)
      exact fillR_keep HK2.out hnz
  have hr9 : 0 ≤ x.s.round := by rw [beq_eq_false_iff_ne] at hr1; omega
  have HRD := Lib.hid (And.intro hd hr1)
  clear hr1
  go_wp2_with fail
  refine (l16Decide_any (fun q => (P q ∨ q = w.heap.size + 1) ∨ q = w.heap.size) A c B d x _ HX2.out.rows hl HOK.out).mono ?_
  clear tz tzf tb tbf
  cases hb : bestOf x.l x.l with
  | some m =>
    obtain ⟨y, hy⟩ : ∃ y, y = decR x := ⟨_, rfl⟩
    have hyd : y = ⟨withDec x.s m.v, x.l, x.o⟩ := by rw [hy]; unfold decR; rw [hb]
    have HE : Hid (ruleR x = some y) := by show _ = _; rw [hyd]; unfold ruleR; rw [HRD.out.1, HRD.out.2, hb]; rfl
    have HE2 : Hid ((ruleR x).isSome = true) := by show _ = _; rw [HE.out]; rfl
    have HE3 : Hid ((ruleR x).getD x = y) := by show _ = _; rw [HE.out]; rfl
    clear hyd
    rw [← hy]
    clear hy hb
    rintro e w3 ⟨A3, c3, B3, d3, rfl, hr3, hk3, _⟩
    have HZ3 := Lib.hid (hk3.blk (.inl (.inr rfl)) HZ2.out)
    have HR3 := Lib.hid hr3
    have HK3 := Lib.hid (HK2.out.trans (hk3.mono fun q hq => .inl (.inl hq)))
    clear hr3 hk3
    unfold runV
    go_upto_region 5 with fail
    obtain ⟨w4, hw4⟩ : ∃ q, q = w3.alloc (.cells #[.int .i64 y.s.me, .int .i64 y.s.round, .int .i64 y.s.step, .int .i64 y.s.lv, .int .i64 y.s.lr, .int .i64 y.s.vv, .int .i64 y.s.vr, .int .i64 y.s.polka, .int .i64 y.s.dec, .slice A3 y.l.length c3, .slice B3 y.o.length d3] 120) := ⟨_, rfl⟩
    rw [← hw4]
    have HR4 : Hid (Rows w4 (fun q => (P q ∨ q = w.heap.size + 1) ∨ q = w.heap.size) A3 c3 B3 d3 y) := by show Rows _ _ _ _ _ _ _; rw [hw4]; exact HR3.out.alloc _
    have HE4 : Hid (Blk w4 w3.heap.size 120 #[.int .i64 y.s.me, .int .i64 y.s.round, .int .i64 y.s.step, .int .i64 y.s.lv, .int .i64 y.s.lr, .int .i64 y.s.vv, .int .i64 y.s.vr, .int .i64 y.s.polka, .int .i64 y.s.dec, .slice A3 y.l.length c3, .slice B3 y.o.length d3]) := by show Blk _ _ _ _; rw [hw4]; exact heap_alloc_new w3 _
    have HZ4 : Hid (Blk w4 (w.heap.size + 1) 120 #[.int .i64 0, .int .i64 0, .int .i64 0, .int .i64 0, .int .i64 0, .int .i64 0, .int .i64 0, .int .i64 0, .int .i64 0, .slice none 0 0, .slice none 0 0]) := by show Blk _ _ _ _; rw [hw4]; exact HZ3.out.alloc _
    have HK4 : Hid (Keep P w w4) := by show Keep _ _ _; rw [hw4]; exact HK3.out.alloc (fun q hq => HR3.out.lt q (.inl (.inl hq))) _
    clear hw4
    have te := HE4.out.cell
    have tz := HZ4.out.cell
    have tzf := HZ4.out.frozen
    go_wp2_with fail
    rw [HE2.out]
    refine bodyPost_ret (v := .tuple #[runV y A3 c3 B3 d3, .bool true]) (by unfold runV; first | (simp [results, Try.results122, go_sem, tz]; done) | (simp [results, Try.results122, go_sem, tz]; repeat' (first | rfl | constructor))) rfl ?_
    refine ⟨A3, c3, B3, d3, by rw [HE3.out] <;> rfl, ?_, ?_, fun h => by first | exact ⟨rfl, rfl, rfl, rfl⟩ | cases h⟩
    · rw [HE3.out]
      show Rows (fillR w4 (w.heap.size + 1) A3 c3 B3 d3 y) P A3 c3 B3 d3 y
      exact (fillR_rows HR4.out (.inl (.inr rfl))).mono fun q hq => .inl (.inl hq)
    · show Keep P w (fillR w4 (w.heap.size + 1) A3 c3 B3 d3 y)
      exact fillR_keep HK4.out hnz
  | none =>
  have HD : Hid (decR x = x) := by show _ = _; unfold decR; rw [hb]
  rw [HD.out]
  rintro e w3 ⟨A3, c3, B3, d3, rfl, hr3, hk3, hs3⟩
  obtain ⟨rfl, rfl, rfl, rfl⟩ := hs3 rfl
  have HX3 : Hid (RunAt w3 (fun q => P q ∨ q = w.heap.size + 1) w.heap.size A3 c3 B3 d3 x) := ⟨hk3.blk (.inr rfl) HX2.out.blk, HX2.out.np, hr3⟩
  have HZ3 := Lib.hid (hk3.blk (.inl (.inr rfl)) HZ2.out)
  have HK3 := Lib.hid (HK2.out.trans (hk3.mono fun q hq => .inl (.inl hq)))
  clear hr3 hk3 hs3
  have tb := HX3.out.cells
  have hltb3 := HX3.out.lt
  unfold runV
  go_upto_region 6 with fail
  obtain ⟨w4, hw4⟩ : ∃ q, q = w3.alloc (.cells #[.int .i64 x.s.me, .int .i64 x.s.round, .int .i64 x.s.step, .int .i64 x.s.lv, .int .i64 x.s.lr, .int .i64 x.s.vv, .int .i64 x.s.vr, .int .i64 x.s.polka, .int .i64 x.s.dec, .slice A3 x.l.length c3, .slice B3 x.o.length d3] 120) := ⟨_, rfl⟩
  rw [← hw4]
  have HX4 : Hid (RunAt w4 (fun q => (P q ∨ q = w.heap.size + 1) ∨ q = w3.heap.size) w.heap.size A3 c3 B3 d3 x) := by show RunAt _ _ _ _ _ _ _ _; rw [hw4]; exact HX3.out.new _
  have HZ4 : Hid (Blk w4 (w.heap.size + 1) 120 #[.int .i64 0, .int .i64 0, .int .i64 0, .int .i64 0, .int .i64 0, .int .i64 0, .int .i64 0, .int .i64 0, .int .i64 0, .slice none 0 0, .slice none 0 0]) := by show Blk _ _ _ _; rw [hw4]; exact HZ3.out.alloc _
  have HE4 : Hid (Blk w4 w3.heap.size 120 #[.int .i64 x.s.me, .int .i64 x.s.round, .int .i64 x.s.step, .int .i64 x.s.lv, .int .i64 x.s.lr, .int .i64 x.s.vv, .int .i64 x.s.vr, .int .i64 x.s.polka, .int .i64 x.s.dec, .slice A3 x.l.length c3, .slice B3 x.o.length d3]) := by show Blk _ _ _ _; rw [hw4]; exact heap_alloc_new w3 _
  have HK4 : Hid (Keep P w w4) := by show Keep _ _ _; rw [hw4]; exact HK3.out.alloc (fun q hq => HX3.out.ltP q (.inl hq)) _
  have hne2 : w3.heap.size ≠ w.heap.size := by have := HX3.out.lt; omega
  have hne3 : w.heap.size + 1 ≠ w3.heap.size := by have := HZ3.out.lt; omega
  have hn3 : ¬ P w3.heap.size := fun h => by have := HX3.out.ltP _ (.inl h); omega
  clear hw4 tb
  have tb := HX4.out.cells
  have hltb4 := HX4.out.lt
  go_wp2_with fail
  cases hs : skipTo x.l x.s.round with
  | some r =>
    obtain ⟨y, hy⟩ : ∃ y, y = skipR x := ⟨_, rfl⟩
    have hyd : y = (startR x r) := by rw [hy]; unfold skipR; rw [hs]
    have HE : Hid (ruleR x = some y) := by show _ = _; rw [hyd]; unfold ruleR; rw [HRD.out.1, HRD.out.2, hb, hs]; rfl
    have HE2 : Hid ((ruleR x).isSome = true) := by show _ = _; rw [HE.out]; rfl
    have HE3 : Hid ((ruleR x).getD x = y) := by show _ = _; rw [HE.out]; rfl
    have HSm : Hid ((skipTo x.l x.s.round).isSome = true) := by show _ = _; rw [hs]; rfl
    refine (l16Skip_any (fun q => ((P q ∨ q = w.heap.size + 1) ∨ q = w3.heap.size) ∨ q = w.heap.size) A3 c3 B3 d3 x _ HX4.out.rows hl ho' HOK.out hrd.1 hrd.2 hme hvr).mono ?_
    clear hyd tb
    rw [← hy, HSm.out]
    clear hy hs
    rintro e w5 ⟨AA, cc, BB, dd, rfl, hr5, hk5, _⟩
    have HZ5 := Lib.hid (hk5.blk (.inl (.inl (.inr rfl))) HZ4.out)
    have HE5 := Lib.hid (hk5.blk (.inl (.inr rfl)) HE4.out)
    have HR5 := Lib.hid hr5
    have HK5 := Lib.hid (HK4.out.trans (hk5.mono fun q hq => .inl (.inl (.inl hq))))
    clear hr5 hk5
    have te := HE5.out.cell
    have tef := HE5.out.frozen
    unfold runV
    go_upto_region 8 with fail
    obtain ⟨w6, hw6⟩ : ∃ q, q = fillR w5 w3.heap.size AA cc BB dd y := ⟨_, rfl⟩
    have HR6 : Hid (Rows w6 (fun q => (P q ∨ q = w.heap.size + 1) ∨ q = w.heap.size) AA cc BB dd y) := by show Rows _ _ _ _ _ _ _; rw [hw6]; exact (fillR_rows HR5.out (.inl (.inr rfl))).mono fun q hq => hq.elim (fun h => .inl (.inl h)) .inr
    have HZ6 : Hid (Blk w6 (w.heap.size + 1) 120 #[.int .i64 0, .int .i64 0, .int .i64 0, .int .i64 0, .int .i64 0, .int .i64 0, .int .i64 0, .int .i64 0, .int .i64 0, .slice none 0 0, .slice none 0 0]) := by show Blk _ _ _ _; rw [hw6]; exact fillR_far HZ5.out hne3
    have HE6 : Hid (Blk w6 w3.heap.size 120 #[.int .i64 y.s.me, .int .i64 y.s.round, .int .i64 y.s.step, .int .i64 y.s.lv, .int .i64 y.s.lr, .int .i64 y.s.vv, .int .i64 y.s.vr, .int .i64 y.s.polka, .int .i64 y.s.dec, .slice AA y.l.length cc, .slice BB y.o.length dd]) := by show Blk _ _ _ _; rw [hw6]; exact fillR_blk HE5.out rfl
    have HK6 : Hid (Keep P w w6) := by show Keep _ _ _; rw [hw6]; exact fillR_keep HK5.out hn3
    unfold fillR at hw6
    rw [← hw6]
    clear hw6 te tef
    have te := HE6.out.cell
    have tz := HZ6.out.cell
    have tzf := HZ6.out.frozen
    go_wp2_with fail
    rw [HE2.out]
    refine bodyPost_ret (v := .tuple #[runV y AA cc BB dd, .bool true]) (by unfold runV; first | (simp [results, Try.results122, go_sem, tz]; done) | (simp [results, Try.results122, go_sem, tz]; repeat' (first | rfl | constructor))) rfl ?_
    refine ⟨AA, cc, BB, dd, by rw [HE3.out] <;> rfl, ?_, ?_, fun h => by first | exact ⟨rfl, rfl, rfl, rfl⟩ | cases h⟩
    · rw [HE3.out]
      show Rows (fillR w6 (w.heap.size + 1) AA cc BB dd y) P AA cc BB dd y
      exact (fillR_rows HR6.out (.inl (.inr rfl))).mono fun q hq => .inl (.inl hq)
    · show Keep P w (fillR w6 (w.heap.size + 1) AA cc BB dd y)
      exact fillR_keep HK6.out hnz
  | none =>
  have HD5 : Hid (skipR x = x) := by show _ = _; unfold skipR; rw [hs]
  have HSm5 : Hid ((skipTo x.l x.s.round).isSome = false) := by show _ = _; rw [hs]; rfl
  refine (l16Skip_any (fun q => ((P q ∨ q = w.heap.size + 1) ∨ q = w3.heap.size) ∨ q = w.heap.size) A3 c3 B3 d3 x _ HX4.out.rows hl ho' HOK.out hrd.1 hrd.2 hme hvr).mono ?_
  clear tb
  rw [HD5.out, HSm5.out]
  rintro e w5 ⟨A5, c5, B5, d5, rfl, hr5, hk5, hs5⟩
  obtain ⟨rfl, rfl, rfl, rfl⟩ := hs5 rfl
  have HX5 : Hid (RunAt w5 (fun q => (P q ∨ q = w.heap.size + 1) ∨ q = w3.heap.size) w.heap.size A5 c5 B5 d5 x) := ⟨hk5.blk (.inr rfl) HX4.out.blk, HX4.out.np, hr5⟩
  have HZ5 := Lib.hid (hk5.blk (.inl (.inl (.inr rfl))) HZ4.out)
  have HE5 := Lib.hid (hk5.blk (.inl (.inr rfl)) HE4.out)
  have HK5 := Lib.hid (HK4.out.trans (hk5.mono fun q hq => .inl (.inl (.inl hq))))
  clear hr5 hk5 hs5
  have te := HE5.out.cell
  have tef := HE5.out.frozen
  unfold runV
  go_upto_region 9 with fail
  obtain ⟨w6, hw6⟩ : ∃ q, q = fillR w5 w3.heap.size A5 c5 B5 d5 x := ⟨_, rfl⟩
  have HX6 : Hid (RunAt w6 (fun q => (P q ∨ q = w.heap.size + 1) ∨ q = w3.heap.size) w.heap.size A5 c5 B5 d5 x) := by show RunAt _ _ _ _ _ _ _ _; rw [hw6]; exact ⟨fillR_far HX5.out.blk hne2.symm, HX5.out.np, fillR_rows HX5.out.rows (.inl (.inr rfl))⟩
  have HZ6 : Hid (Blk w6 (w.heap.size + 1) 120 #[.int .i64 0, .int .i64 0, .int .i64 0, .int .i64 0, .int .i64 0, .int .i64 0, .int .i64 0, .int .i64 0, .int .i64 0, .slice none 0 0, .slice none 0 0]) := by show Blk _ _ _ _; rw [hw6]; exact fillR_far HZ5.out hne3
  have HE6 : Hid (Blk w6 w3.heap.size 120 #[.int .i64 x.s.me, .int .i64 x.s.round, .int .i64 x.s.step, .int .i64 x.s.lv, .int .i64 x.s.lr, .int .i64 x.s.vv, .int .i64 x.s.vr, .int .i64 x.s.polka, .int .i64 x.s.dec, .slice A5 x.l.length c5, .slice B5 x.o.length d5]) := by show Blk _ _ _ _; rw [hw6]; exact fillR_blk HE5.out rfl
  have HK6 : Hid (Keep P w w6) := by show Keep _ _ _; rw [hw6]; exact fillR_keep HK5.out hn3
  unfold fillR at hw6
  rw [← hw6]
  clear hw6 te tef
  have tb := HX6.out.cells
  have hltb6 := HX6.out.lt
  have HRR := Lib.hid (rule_spec HRD.out.1 HRD.out.2 hb hs)
  clear hb hs
  go_wp2_with fail
  cases hq : propF x with
  | some z =>
    obtain ⟨y, hy⟩ : ∃ y, y = (propF x).getD x := ⟨_, rfl⟩
    have hyd : y = z := by rw [hy]; rw [hq]; rfl
    have HE : Hid (ruleR x = some y) := by show _ = _; rw [hyd]; rw [HRR.out, hq]
    have HE2 : Hid ((ruleR x).isSome = true) := by show _ = _; rw [HE.out]; rfl
    have HE3 : Hid ((ruleR x).getD x = y) := by show _ = _; rw [HE.out]; rfl
    have HSm : Hid ((propF x).isSome = true) := by show _ = _; rw [hq]; rfl
    refine (l16Propose_false (fun q => ((P q ∨ q = w.heap.size + 1) ∨ q = w3.heap.size) ∨ q = w.heap.size) A5 c5 B5 d5 x _ HX6.out.rows hl ho' HOK.out hlr).mono ?_
    clear hyd tb
    rw [← hy, HSm.out]
    clear hy hq
    rintro e w7 ⟨AA, cc, BB, dd, rfl, hr7, hk7, _⟩
    have HZ7 := Lib.hid (hk7.blk (.inl (.inl (.inr rfl))) HZ6.out)
    have HE7 := Lib.hid (hk7.blk (.inl (.inr rfl)) HE6.out)
    have HR7 := Lib.hid hr7
    have HK7 := Lib.hid (HK6.out.trans (hk7.mono fun q hq => .inl (.inl (.inl hq))))
    clear hr7 hk7
    have te := HE7.out.cell
    have tef := HE7.out.frozen
    unfold runV
    go_upto_region 11 with fail
    obtain ⟨w8, hw8⟩ : ∃ q, q = fillR w7 w3.heap.size AA cc BB dd y := ⟨_, rfl⟩
    have HR8 : Hid (Rows w8 (fun q => (P q ∨ q = w.heap.size + 1) ∨ q = w.heap.size) AA cc BB dd y) := by show Rows _ _ _ _ _ _ _; rw [hw8]; exact (fillR_rows HR7.out (.inl (.inr rfl))).mono fun q hq => hq.elim (fun h => .inl (.inl h)) .inr
    have HZ8 : Hid (Blk w8 (w.heap.size + 1) 120 #[.int .i64 0, .int .i64 0, .int .i64 0, .int .i64 0, .int .i64 0, .int .i64 0, .int .i64 0, .int .i64 0, .int .i64 0, .slice none 0 0, .slice none 0 0]) := by show Blk _ _ _ _; rw [hw8]; exact fillR_far HZ7.out hne3
    have HE8 : Hid (Blk w8 w3.heap.size 120 #[.int .i64 y.s.me, .int .i64 y.s.round, .int .i64 y.s.step, .int .i64 y.s.lv, .int .i64 y.s.lr, .int .i64 y.s.vv, .int .i64 y.s.vr, .int .i64 y.s.polka, .int .i64 y.s.dec, .slice AA y.l.length cc, .slice BB y.o.length dd]) := by show Blk _ _ _ _; rw [hw8]; exact fillR_blk HE7.out rfl
    have HK8 : Hid (Keep P w w8) := by show Keep _ _ _; rw [hw8]; exact fillR_keep HK7.out hn3
    unfold fillR at hw8
    rw [← hw8]
    clear hw8 te tef
    have te := HE8.out.cell
    have tz := HZ8.out.cell
    have tzf := HZ8.out.frozen
    go_wp2_with fail
    rw [HE2.out]
    refine bodyPost_ret (v := .tuple #[runV y AA cc BB dd, .bool true]) (by unfold runV; first | (simp [results, Try.results122, go_sem, tz]; done) | (simp [results, Try.results122, go_sem, tz]; repeat' (first | rfl | constructor))) rfl ?_
    refine ⟨AA, cc, BB, dd, by rw [HE3.out] <;> rfl, ?_, ?_, fun h => by first | exact ⟨rfl, rfl, rfl, rfl⟩ | cases h⟩
    · rw [HE3.out]
      show Rows (fillR w8 (w.heap.size + 1) AA cc BB dd y) P AA cc BB dd y
      exact (fillR_rows HR8.out (.inl (.inr rfl))).mono fun q hq => .inl (.inl hq)
    · show Keep P w (fillR w8 (w.heap.size + 1) AA cc BB dd y)
      exact fillR_keep HK8.out hnz
  | none =>
  have HD7 : Hid ((propF x).getD x = x) := by show _ = _; rw [hq]; rfl
  have HSm7 : Hid ((propF x).isSome = false) := by show _ = _; rw [hq]; rfl
  refine (l16Propose_false (fun q => ((P q ∨ q = w.heap.size + 1) ∨ q = w3.heap.size) ∨ q = w.heap.size) A5 c5 B5 d5 x _ HX6.out.rows hl ho' HOK.out hlr).mono ?_
  clear tb
  rw [HD7.out, HSm7.out]
  rintro e w7 ⟨A7, c7, B7, d7, rfl, hr7, hk7, hs7⟩
  obtain ⟨rfl, rfl, rfl, rfl⟩ := hs7 rfl
  have HX7 : Hid (RunAt w7 (fun q => (P q ∨ q = w.heap.size + 1) ∨ q = w3.heap.size) w.heap.size A7 c7 B7 d7 x) := ⟨hk7.blk (.inr rfl) HX6.out.blk, HX6.out.np, hr7⟩
  have HZ7 := Lib.hid (hk7.blk (.inl (.inl (.inr rfl))) HZ6.out)
  have HE7 := Lib.hid (hk7.blk (.inl (.inr rfl)) HE6.out)
  have HK7 := Lib.hid (HK6.out.trans (hk7.mono fun q hq => .inl (.inl (.inl hq))))
  clear hr7 hk7 hs7
  have te := HE7.out.cell
  have tef := HE7.out.frozen
  unfold runV
  go_upto_region 12 with fail
  obtain ⟨w8, hw8⟩ : ∃ q, q = fillR w7 w3.heap.size A7 c7 B7 d7 x := ⟨_, rfl⟩
  have HX8 : Hid (RunAt w8 (fun q => (P q ∨ q = w.heap.size + 1) ∨ q = w3.heap.size) w.heap.size A7 c7 B7 d7 x) := by show RunAt _ _ _ _ _ _ _ _; rw [hw8]; exact ⟨fillR_far HX7.out.blk hne2.symm, HX7.out.np, fillR_rows HX7.out.rows (.inl (.inr rfl))⟩
  have HZ8 : Hid (Blk w8 (w.heap.size + 1) 120 #[.int .i64 0, .int .i64 0, .int .i64 0, .int .i64 0, .int .i64 0, .int .i64 0, .int .i64 0, .int .i64 0, .int .i64 0, .slice none 0 0, .slice none 0 0]) := by show Blk _ _ _ _; rw [hw8]; exact fillR_far HZ7.out hne3
  have HE8 : Hid (Blk w8 w3.heap.size 120 #[.int .i64 x.s.me, .int .i64 x.s.round, .int .i64 x.s.step, .int .i64 x.s.lv, .int .i64 x.s.lr, .int .i64 x.s.vv, .int .i64 x.s.vr, .int .i64 x.s.polka, .int .i64 x.s.dec, .slice A7 x.l.length c7, .slice B7 x.o.length d7]) := by show Blk _ _ _ _; rw [hw8]; exact fillR_blk HE7.out rfl
  have HK8 : Hid (Keep P w w8) := by show Keep _ _ _; rw [hw8]; exact fillR_keep HK7.out hn3
  unfold fillR at hw8
  rw [← hw8]
  clear hw8 te tef
  have tb := HX8.out.cells
  have hltb8 := HX8.out.lt
  have HU1 := Lib.hid hq
  clear hq
  go_wp2_with fail
  cases hq : propT x with
  | some z =>
    obtain ⟨y, hy⟩ : ∃ y, y = (propT x).getD x := ⟨_, rfl⟩
    have hyd : y = z := by rw [hy]; rw [hq]; rfl
    have HE : Hid (ruleR x = some y) := by show _ = _; rw [hyd]; rw [HRR.out, HU1.out, hq]
    have HE2 : Hid ((ruleR x).isSome = true) := by show _ = _; rw [HE.out]; rfl
    have HE3 : Hid ((ruleR x).getD x = y) := by show _ = _; rw [HE.out]; rfl
    have HSm : Hid ((propT x).isSome = true) := by show _ = _; rw [hq]; rfl
    refine (l16Propose_true (fun q => ((P q ∨ q = w.heap.size + 1) ∨ q = w3.heap.size) ∨ q = w.heap.size) A7 c7 B7 d7 x _ HX8.out.rows hl ho' HOK.out hlr).mono ?_
    clear hyd tb
    rw [← hy, HSm.out]
    clear hy hq
    rintro e w9 ⟨AA, cc, BB, dd, rfl, hr9, hk9, _⟩
    have HZ9 := Lib.hid (hk9.blk (.inl (.inl (.inr rfl))) HZ8.out)
    have HE9 := Lib.hid (hk9.blk (.inl (.inr rfl)) HE8.out)
    have HR9 := Lib.hid hr9
    have HK9 := Lib.hid (HK8.out.trans (hk9.mono fun q hq => .inl (.inl (.inl hq))))
    clear hr9 hk9
    have te := HE9.out.cell
    have tef := HE9.out.frozen
    unfold runV
    go_upto_region 14 with fail
    obtain ⟨w10, hw10⟩ : ∃ q, q = fillR w9 w3.heap.size AA cc BB dd y := ⟨_, rfl⟩
    have HR10 : Hid (Rows w10 (fun q => (P q ∨ q = w.heap.size + 1) ∨ q = w.heap.size) AA cc BB dd y) := by show Rows _ _ _ _ _ _ _; rw [hw10]; exact (fillR_rows HR9.out (.inl (.inr rfl))).mono fun q hq => hq.elim (fun h => .inl (.inl h)) .inr
    have HZ10 : Hid (Blk w10 (w.heap.size + 1) 120 #[.int .i64 0, .int .i64 0, .int .i64 0, .int .i64 0, .int .i64 0, .int .i64 0, .int .i64 0, .int .i64 0, .int .i64 0, .slice none 0 0, .slice none 0 0]) := by show Blk _ _ _ _; rw [hw10]; exact fillR_far HZ9.out hne3
    have HE10 : Hid (Blk w10 w3.heap.size 120 #[.int .i64 y.s.me, .int .i64 y.s.round, .int .i64 y.s.step, .int .i64 y.s.lv, .int .i64 y.s.lr, .int .i64 y.s.vv, .int .i64 y.s.vr, .int .i64 y.s.polka, .int .i64 y.s.dec, .slice AA y.l.length cc, .slice BB y.o.length dd]) := by show Blk _ _ _ _; rw [hw10]; exact fillR_blk HE9.out rfl
    have HK10 : Hid (Keep P w w10) := by show Keep _ _ _; rw [hw10]; exact fillR_keep HK9.out hn3
    unfold fillR at hw10
    rw [← hw10]
    clear hw10 te tef
    have te := HE10.out.cell
    have tz := HZ10.out.cell
    have tzf := HZ10.out.frozen
    go_wp2_with fail
    rw [HE2.out]
    refine bodyPost_ret (v := .tuple #[runV y AA cc BB dd, .bool true]) (by unfold runV; first | (simp [results, Try.results122, go_sem, tz]; done) | (simp [results, Try.results122, go_sem, tz]; repeat' (first | rfl | constructor))) rfl ?_
    refine ⟨AA, cc, BB, dd, by rw [HE3.out] <;> rfl, ?_, ?_, fun h => by first | exact ⟨rfl, rfl, rfl, rfl⟩ | cases h⟩
    · rw [HE3.out]
      show Rows (fillR w10 (w.heap.size + 1) AA cc BB dd y) P AA cc BB dd y
      exact (fillR_rows HR10.out (.inl (.inr rfl))).mono fun q hq => .inl (.inl hq)
    · show Keep P w (fillR w10 (w.heap.size + 1) AA cc BB dd y)
      exact fillR_keep HK10.out hnz
  | none =>
  have HD9 : Hid ((propT x).getD x = x) := by show _ = _; rw [hq]; rfl
  have HSm9 : Hid ((propT x).isSome = false) := by show _ = _; rw [hq]; rfl
  refine (l16Propose_true (fun q => ((P q ∨ q = w.heap.size + 1) ∨ q = w3.heap.size) ∨ q = w.heap.size) A7 c7 B7 d7 x _ HX8.out.rows hl ho' HOK.out hlr).mono ?_
  clear tb
  rw [HD9.out, HSm9.out]
  rintro e w9 ⟨A9, c9, B9, d9, rfl, hr9, hk9, hs9⟩
  obtain ⟨rfl, rfl, rfl, rfl⟩ := hs9 rfl
  have HX9 : Hid (RunAt w9 (fun q => (P q ∨ q = w.heap.size + 1) ∨ q = w3.heap.size) w.heap.size A9 c9 B9 d9 x) := ⟨hk9.blk (.inr rfl) HX8.out.blk, HX8.out.np, hr9⟩
  have HZ9 := Lib.hid (hk9.blk (.inl (.inl (.inr rfl))) HZ8.out)
  have HE9 := Lib.hid (hk9.blk (.inl (.inr rfl)) HE8.out)
  have HK9 := Lib.hid (HK8.out.trans (hk9.mono fun q hq => .inl (.inl (.inl hq))))
  clear hr9 hk9 hs9
  have te := HE9.out.cell
  have tef := HE9.out.frozen
  unfold runV
  go_upto_region 15 with fail
  obtain ⟨w10, hw10⟩ : ∃ q, q = fillR w9 w3.heap.size A9 c9 B9 d9 x := ⟨_, rfl⟩
  have HX10 : Hid (RunAt w10 (fun q => (P q ∨ q = w.heap.size + 1) ∨ q = w3.heap.size) w.heap.size A9 c9 B9 d9 x) := by show RunAt _ _ _ _ _ _ _ _; rw [hw10]; exact ⟨fillR_far HX9.out.blk hne2.symm, HX9.out.np, fillR_rows HX9.out.rows (.inl (.inr rfl))⟩
  have HZ10 : Hid (Blk w10 (w.heap.size + 1) 120 #[.int .i64 0, .int .i64 0, .int .i64 0, .int .i64 0, .int .i64 0, .int .i64 0, .int .i64 0, .int .i64 0, .int .i64 0, .slice none 0 0, .slice none 0 0]) := by show Blk _ _ _ _; rw [hw10]; exact fillR_far HZ9.out hne3
  have HE10 : Hid (Blk w10 w3.heap.size 120 #[.int .i64 x.s.me, .int .i64 x.s.round, .int .i64 x.s.step, .int .i64 x.s.lv, .int .i64 x.s.lr, .int .i64 x.s.vv, .int .i64 x.s.vr, .int .i64 x.s.polka, .int .i64 x.s.dec, .slice A9 x.l.length c9, .slice B9 x.o.length d9]) := by show Blk _ _ _ _; rw [hw10]; exact fillR_blk HE9.out rfl
  have HK10 : Hid (Keep P w w10) := by show Keep _ _ _; rw [hw10]; exact fillR_keep HK9.out hn3
  unfold fillR at hw10
  rw [← hw10]
  clear hw10 te tef
  have tb := HX10.out.cells
  have hltb10 := HX10.out.lt
  have HU2 := Lib.hid hq
  clear hq
  go_wp2_with fail
  cases hq : polF x with
  | some z =>
    obtain ⟨y, hy⟩ : ∃ y, y = (polF x).getD x := ⟨_, rfl⟩
    have hyd : y = z := by rw [hy]; rw [hq]; rfl
    have HE : Hid (ruleR x = some y) := by show _ = _; rw [hyd]; rw [HRR.out, HU1.out, HU2.out, hq]
    have HE2 : Hid ((ruleR x).isSome = true) := by show _ = _; rw [HE.out]; rfl
    have HE3 : Hid ((ruleR x).getD x = y) := by show _ = _; rw [HE.out]; rfl
    have HSm : Hid ((polF x).isSome = true) := by show _ = _; rw [hq]; rfl
    refine (l16Polka_any (fun q => ((P q ∨ q = w.heap.size + 1) ∨ q = w3.heap.size) ∨ q = w.heap.size) A9 c9 B9 d9 x _ HX10.out.rows hl ho' HOK.out).mono ?_
    clear hyd tb
    rw [← hy, HSm.out]
    clear hy hq
    rintro e w11 ⟨AA, cc, BB, dd, rfl, hr11, hk11, _⟩
    have HZ11 := Lib.hid (hk11.blk (.inl (.inl (.inr rfl))) HZ10.out)
    have HE11 := Lib.hid (hk11.blk (.inl (.inr rfl)) HE10.out)
    have HR11 := Lib.hid hr11
    have HK11 := Lib.hid (HK10.out.trans (hk11.mono fun q hq => .inl (.inl (.inl hq))))
    clear hr11 hk11
    have te := HE11.out.cell
    have tef := HE11.out.frozen
    unfold runV
    go_upto_region 17 with fail
    obtain ⟨w12, hw12⟩ : ∃ q, q = fillR w11 w3.heap.size AA cc BB dd y := ⟨_, rfl⟩
    have HR12 : Hid (Rows w12 (fun q => (P q ∨ q = w.heap.size + 1) ∨ q = w.heap.size) AA cc BB dd y) := by show Rows _ _ _ _ _ _ _; rw [hw12]; exact (fillR_rows HR11.out (.inl (.inr rfl))).mono fun q hq => hq.elim (fun h => .inl (.inl h)) .inr
    have HZ12 : Hid (Blk w12 (w.heap.size + 1) 120 #[.int .i64 0, .int .i64 0, .int .i64 0, .int .i64 0, .int .i64 0, .int .i64 0, .int .i64 0, .int .i64 0, .int .i64 0, .slice none 0 0, .slice none 0 0]) := by show Blk _ _ _ _; rw [hw12]; exact fillR_far HZ11.out hne3
    have HE12 : Hid (Blk w12 w3.heap.size 120 #[.int .i64 y.s.me, .int .i64 y.s.round, .int .i64 y.s.step, .int .i64 y.s.lv, .int .i64 y.s.lr, .int .i64 y.s.vv, .int .i64 y.s.vr, .int .i64 y.s.polka, .int .i64 y.s.dec, .slice AA y.l.length cc, .slice BB y.o.length dd]) := by show Blk _ _ _ _; rw [hw12]; exact fillR_blk HE11.out rfl
    have HK12 : Hid (Keep P w w12) := by show Keep _ _ _; rw [hw12]; exact fillR_keep HK11.out hn3
    unfold fillR at hw12
    rw [← hw12]
    clear hw12 te tef
    have te := HE12.out.cell
    have tz := HZ12.out.cell
    have tzf := HZ12.out.frozen
    go_wp2_with fail
    rw [HE2.out]
    refine bodyPost_ret (v := .tuple #[runV y AA cc BB dd, .bool true]) (by unfold runV; first | (simp [results, Try.results122, go_sem, tz]; done) | (simp [results, Try.results122, go_sem, tz]; repeat' (first | rfl | constructor))) rfl ?_
    refine ⟨AA, cc, BB, dd, by rw [HE3.out] <;> rfl, ?_, ?_, fun h => by first | exact ⟨rfl, rfl, rfl, rfl⟩ | cases h⟩
    · rw [HE3.out]
      show Rows (fillR w12 (w.heap.size + 1) AA cc BB dd y) P AA cc BB dd y
      exact (fillR_rows HR12.out (.inl (.inr rfl))).mono fun q hq => .inl (.inl hq)
    · show Keep P w (fillR w12 (w.heap.size + 1) AA cc BB dd y)
      exact fillR_keep HK12.out hnz
  | none =>
  have HD11 : Hid ((polF x).getD x = x) := by show _ = _; rw [hq]; rfl
  have HSm11 : Hid ((polF x).isSome = false) := by show _ = _; rw [hq]; rfl
  refine (l16Polka_any (fun q => ((P q ∨ q = w.heap.size + 1) ∨ q = w3.heap.size) ∨ q = w.heap.size) A9 c9 B9 d9 x _ HX10.out.rows hl ho' HOK.out).mono ?_
  clear tb
  rw [HD11.out, HSm11.out]
  rintro e w11 ⟨A11, c11, B11, d11, rfl, hr11, hk11, hs11⟩
  obtain ⟨rfl, rfl, rfl, rfl⟩ := hs11 rfl
  have HX11 : Hid (RunAt w11 (fun q => (P q ∨ q = w.heap.size + 1) ∨ q = w3.heap.size) w.heap.size A11 c11 B11 d11 x) := ⟨hk11.blk (.inr rfl) HX10.out.blk, HX10.out.np, hr11⟩
  have HZ11 := Lib.hid (hk11.blk (.inl (.inl (.inr rfl))) HZ10.out)
  have HE11 := Lib.hid (hk11.blk (.inl (.inr rfl)) HE10.out)
  have HK11 := Lib.hid (HK10.out.trans (hk11.mono fun q hq => .inl (.inl (.inl hq))))
  clear hr11 hk11 hs11
  have te := HE11.out.cell
  have tef := HE11.out.frozen
  unfold runV
  go_upto_region 18 with fail
  obtain ⟨w12, hw12⟩ : ∃ q, q = fillR w11 w3.heap.size A11 c11 B11 d11 x := ⟨_, rfl⟩
  have HX12 : Hid (RunAt w12 (fun q => (P q ∨ q = w.heap.size + 1) ∨ q = w3.heap.size) w.heap.size A11 c11 B11 d11 x) := by show RunAt _ _ _ _ _ _ _ _; rw [hw12]; exact ⟨fillR_far HX11.out.blk hne2.symm, HX11.out.np, fillR_rows HX11.out.rows (.inl (.inr rfl))⟩
  have HZ12 : Hid (Blk w12 (w.heap.size + 1) 120 #[.int .i64 0, .int .i64 0, .int .i64 0, .int .i64 0, .int .i64 0, .int .i64 0, .int .i64 0, .int .i64 0, .int .i64 0, .slice none 0 0, .slice none 0 0]) := by show Blk _ _ _ _; rw [hw12]; exact fillR_far HZ11.out hne3
  have HE12 : Hid (Blk w12 w3.heap.size 120 #[.int .i64 x.s.me, .int .i64 x.s.round, .int .i64 x.s.step, .int .i64 x.s.lv, .int .i64 x.s.lr, .int .i64 x.s.vv, .int .i64 x.s.vr, .int .i64 x.s.polka, .int .i64 x.s.dec, .slice A11 x.l.length c11, .slice B11 x.o.length d11]) := by show Blk _ _ _ _; rw [hw12]; exact fillR_blk HE11.out rfl
  have HK12 : Hid (Keep P w w12) := by show Keep _ _ _; rw [hw12]; exact fillR_keep HK11.out hn3
  unfold fillR at hw12
  rw [← hw12]
  clear hw12 te tef
  have tb := HX12.out.cells
  have hltb12 := HX12.out.lt
  have HU3 := Lib.hid hq
  clear hq
  have HRF : Hid (ruleR x = rule6 x) := by show _ = _; rw [HRR.out, HU1.out, HU2.out, HU3.out]
  have tz := HZ12.out.cell
  have tzf := HZ12.out.frozen
  have hltz12 := HZ12.out.lt
  cases s2 : (x.s.step == 2)
  · have HE : Hid (ruleR x = none) := by show _ = _; rw [HRF.out]; unfold rule6; rw [s2]; rfl
    have HE2 : Hid ((ruleR x).isSome = false) := by show _ = _; rw [HE.out]; rfl
    have HE3 : Hid ((ruleR x).getD x = x) := by show _ = _; rw [HE.out]; rfl
    go_wp2_with fail
    rw [HE2.out]
    refine bodyPost_ret (v := .tuple #[runV x A11 c11 B11 d11, .bool false]) (by unfold runV; first | (simp [results, Try.results122, go_sem, tz]; done) | (simp [results, Try.results122, go_sem, tz]; repeat' (first | rfl | constructor))) rfl ?_
    refine ⟨A11, c11, B11, d11, by rw [HE3.out] <;> rfl, ?_, ?_, fun h => by first | exact ⟨rfl, rfl, rfl, rfl⟩ | cases h⟩
    · rw [HE3.out]
      show Rows (fillR w12 (w.heap.size + 1) A11 c11 B11 d11 x) P A11 c11 B11 d11 x
      exact (fillR_rows (HX12.out.rows.mono (Q := fun q => (P q ∨ q = w.heap.size + 1) ∨ q = w.heap.size) fun q hq => hq.elim (fun h => .inl (.inl h)) .inr) (.inl (.inr rfl))).mono fun q hq => .inl (.inl hq)
    · show Keep P w (fillR w12 (w.heap.size + 1) A11 c11 B11 d11 x)
      exact fillR_keep HK12.out hnz
  have H4 := Lib.hid (froms4_of HOK.out)
  cases s3 : decide (3 ≤ countN x.l 2 x.s.round 0)
  · have HE : Hid (ruleR x = none) := by show _ = _; rw [HRF.out]; unfold rule6; rw [s2, s3]; rfl
    have HE2 : Hid ((ruleR x).isSome = false) := by show _ = _; rw [HE.out]; rfl
    have HE3 : Hid ((ruleR x).getD x = x) := by show _ = _; rw [HE.out]; rfl
    go_wp2_with (go_at_call 62; (refine (l16Count_any _ x.l.length c11 x.l 2 x.s.round 0 _ (by exact HX12.out.rows.rl) (by omega) H4.out).mono ?_); rintro e4 w13 ⟨rfl, hb4⟩; have HB4 := Lib.hid hb4; have tb13 := (HX12.out.below hb4).cells; have tz13 := (HZ12.out.below hb4 hltz12).cell; have tzf13 := (HZ12.out.below hb4 hltz12).frozen)
    rw [HE2.out]
    have HX13 := Lib.hid (HX12.out.below HB4.out)
    have HK13 := Lib.hid (HK12.out.trans (Keep.of_below HB4.out fun q hq => HX12.out.ltP q (.inl (.inl hq))))
    have tz := tz13
    refine bodyPost_ret (v := .tuple #[runV x A11 c11 B11 d11, .bool false]) (by unfold runV; first | (simp [results, Try.results122, go_sem, tz]; done) | (simp [results, Try.results122, go_sem, tz]; repeat' (first | rfl | constructor))) rfl ?_
    refine ⟨A11, c11, B11, d11, by rw [HE3.out] <;> rfl, ?_, ?_, fun h => by first | exact ⟨rfl, rfl, rfl, rfl⟩ | cases h⟩
    · rw [HE3.out]
      show Rows (fillR w13 (w.heap.size + 1) A11 c11 B11 d11 x) P A11 c11 B11 d11 x
      exact (fillR_rows (HX13.out.rows.mono (Q := fun q => (P q ∨ q = w.heap.size + 1) ∨ q = w.heap.size) fun q hq => hq.elim (fun h => .inl (.inl h)) .inr) (.inl (.inr rfl))).mono fun q hq => .inl (.inl hq)
    · show Keep P w (fillR w13 (w.heap.size + 1) A11 c11 B11 d11 x)
      exact fillR_keep HK13.out hnz
  · have HE : Hid (ruleR x = some (precommitR x 0)) := by show _ = _; rw [HRF.out]; unfold rule6; rw [s2, s3]; rfl
    have HE2 : Hid ((ruleR x).isSome = true) := by show _ = _; rw [HE.out]; rfl
    have HE3 : Hid ((ruleR x).getD x = (precommitR x 0)) := by show _ = _; rw [HE.out]; rfl
    go_wp2_with (go_at_call 62; (refine (l16Count_any _ x.l.length c11 x.l 2 x.s.round 0 _ (by exact HX12.out.rows.rl) (by omega) H4.out).mono ?_); rintro e4 w13 ⟨rfl, hb4⟩; have HB4 := Lib.hid hb4; have tb13 := (HX12.out.below hb4).cells; have tz13 := (HZ12.out.below hb4 hltz12).cell; have tzf13 := (HZ12.out.below hb4 hltz12).frozen)
    have HX13 := Lib.hid (HX12.out.below HB4.out)
    have HZ13 := Lib.hid (HZ12.out.below HB4.out hltz12)
    have HK13 := Lib.hid (HK12.out.trans (Keep.of_below HB4.out fun q hq => HX12.out.ltP q (.inl (.inl hq))))
    clear tz tzf tz13 tzf13 tb13 tb
    refine (l16Precommit_any (fun q => (P q ∨ q = w.heap.size + 1) ∨ q = w.heap.size) A11 c11 B11 d11 x 0 _ (HX13.out.rows.mono fun q hq => hq.elim (fun h => .inl (.inl h)) .inr) hl ho').mono ?_
    rintro e w14 ⟨A14, c14, B14, d14, rfl, hr14, hk14⟩
    unfold runV
    have HZ14 := Lib.hid (hk14.blk (.inl (.inr rfl)) HZ13.out)
    have tz := HZ14.out.cell
    have tzf := HZ14.out.frozen
    go_wp2_with fail
    rw [HE2.out]
    refine bodyPost_ret (v := .tuple #[runV (precommitR x 0) A14 c14 B14 d14, .bool true]) (by unfold runV; first | (simp [results, Try.results122, go_sem, tz]; done) | (simp [results, Try.results122, go_sem, tz]; repeat' (first | rfl | constructor))) rfl ?_
    refine ⟨A14, c14, B14, d14, by rw [HE3.out] <;> rfl, ?_, ?_, fun h => by first | exact ⟨rfl, rfl, rfl, rfl⟩ | cases h⟩
    · rw [HE3.out]
      show Rows (fillR w14 (w.heap.size + 1) A14 c14 B14 d14 (precommitR x 0)) P A14 c14 B14 d14 (precommitR x 0)
      exact (fillR_rows hr14 (.inl (.inr rfl))).mono fun q hq => .inl (.inl hq)
    · show Keep P w (fillR w14 (w.heap.size + 1) A14 c14 B14 d14 (precommitR x 0))
      exact fillR_keep (HK13.out.trans (hk14.mono fun q hq => .inl (.inl hq))) hnz
end Go.Proofs.Ytjgaelnonacdkaa
