/- NodeStart, NodeGet, NodeTime of the reference (written by wip/runcalls.py). -/
import Derived.WalkKit
import Derived.WalkSpells
import Derived.WalkLawsBesides
import Derived.Lib.Hide
import Derived.Test.YtjgaelnonacdkaaMRunTold
namespace Go.Proofs.Ytjgaelnonacdkaa
open Go.RowKit

theorem rows_new {w1 w2 : World} {N : Nat} {A : Option Addr} {c : Nat} {s : NodeS} {l : List NMsgD} (ho : OwnL msgC 5 49 w2 w1.heap.size w2.heap.size A l.length c l) (hN : N ≤ w1.heap.size) (hs : w1.heap.size ≤ w2.heap.size) :
    Rows w2 (fun q => q < N) A c none 0 ⟨s, l, []⟩ := by
  have hge : ∀ a, A = some a → w1.heap.size ≤ a.block := fun a e => by subst e; exact (ho.block a.block rfl).1
  exact ⟨ho.wide (Nat.zero_le _) (Nat.le_refl _), ⟨rfl, .inl ⟨rfl, rfl, rfl⟩⟩, fun _ _ _ e => (by cases e), fun q a hq e => by have := hge a e; have hq : q < N := hq; omega, fun _ _ _ e => (by cases e), fun q hq => by have hq : q < N := hq; omega⟩
theorem rows_empty {w : World} {P : Nat → Prop} {A : Option Addr} {c : Nat} {s : NodeS} {l : List NMsgD} (h : Rows w P A c none 0 ⟨s, l, []⟩) : Rows (w.alloc (.cells #[] 49)) P A c (some ⟨w.heap.size, 0, none⟩) 0 ⟨s, l, []⟩ := by
  have h2 := h.alloc (.cells #[] 49)
  refine ⟨h2.la, ⟨rfl, .inr ⟨w.heap.size, #[], rfl, Nat.zero_le _, by simp, heap_alloc_new w _, Nat.le_refl _, by unfold maxLen; omega, rfl, fun j hj => by simp at hj⟩⟩, fun a b ea eb => ?_, h2.pa, fun q b hq eb => ?_, h2.lt⟩
  · simp only [Option.some.injEq] at eb
    subst eb
    have := OwnL.lt' h.la a ea
    show a.block ≠ w.heap.size
    omega
  · simp only [Option.some.injEq] at eb
    subst eb
    have := h.lt q hq
    show w.heap.size ≠ q
    omega

set_option maxRecDepth 100000 in
set_option maxHeartbeats 8000000 in
theorem sNodeStart_any (s : NodeS) (A : Option Addr) (c : Nat) (l : List NMsgD) (w : World) (hl : RdL msgC 5 w w.heap.size A l.length c l) :
    Calls Try.prog 67 #[.agg #[.int .i64 s.me, .int .i64 s.round, .int .i64 s.step, .int .i64 s.lv, .int .i64 s.lr, .int .i64 s.vv, .int .i64 s.vr, .int .i64 s.polka, .int .i64 s.dec, .slice A l.length c]] w (CallOut (fun q => q < w.heap.size) (startN s l) w) := by
  have HL := Lib.hid hl
  clear hl
  go_enter Try.func67, Try.ntmps67
  go_upto_region 1 with fail
  obtain ⟨w0, hw0⟩ : ∃ q, q = (w.alloc (.cells #[.int .i64 s.me, .int .i64 s.round, .int .i64 s.step, .int .i64 s.lv, .int .i64 s.lr, .int .i64 s.vv, .int .i64 s.vr, .int .i64 s.polka, .int .i64 s.dec, .slice A l.length c] 79)).alloc (.cells #[.int .i64 0, .int .i64 0, .int .i64 0, .int .i64 0, .int .i64 0, .int .i64 0, .int .i64 0, .int .i64 0, .int .i64 0, .slice none 0 0] 79) := ⟨_, rfl⟩
  rw [← hw0]
  have HB0 : Hid (Blk w0 w.heap.size 79 #[.int .i64 s.me, .int .i64 s.round, .int .i64 s.step, .int .i64 s.lv, .int .i64 s.lr, .int .i64 s.vv, .int .i64 s.vr, .int .i64 s.polka, .int .i64 s.dec, .slice A l.length c]) := by show Blk _ _ _ _; rw [hw0]; exact ((show Blk _ _ _ _ from heap_alloc_new w _).alloc _)
  skip
  have HZ0 : Hid (Blk w0 (w.heap.size + 1) 79 #[.int .i64 0, .int .i64 0, .int .i64 0, .int .i64 0, .int .i64 0, .int .i64 0, .int .i64 0, .int .i64 0, .int .i64 0, .slice none 0 0]) := by show Blk _ _ _ _; rw [hw0]; exact blk2
  have HW0 : Hid (Below w.heap.size w w0) := by show Below _ _ _; rw [hw0]; exact (by repeat (first | exact Below.refl _ _ | assumption | refine Below.drew ?_ | refine belN ?_ _ | refine Below.alloc ?_ (by first | exact Nat.le_refl _ | (simp; done) | (simp; omega) | omega) _ | refine Below.setCell ?_ (by first | exact Nat.le_refl _ | (simp; done) | (simp; omega) | omega) _ | refine Below.trans ?_ (Below.mono (by assumption) (by first | exact Nat.le_refl _ | (simp; done) | (simp; omega) | omega))))
  have hs0 : w0.heap.size = w.heap.size + 2 := by rw [hw0]; simp
  have HL0 := Lib.hid ((HL.out.below HW0.out (Nat.le_refl _)).more HW0.out.size)
  clear hw0
  have tb := HB0.out.cell
  have HS0 := Lib.hid hs0
  have hlt0 : w.heap.size + 1 < w0.heap.size := by omega
  have hltb0 : w.heap.size < w0.heap.size := by omega
  clear hs0
  go_wp2_with fail
  refine (sNodeOk_any s A l.length c l _ HL0.out).mono ?_
  rintro e w1 ⟨rfl, hb1⟩
  have HW1 := Lib.hid (HW0.out.trans (hb1.mono HW0.out.size))
  have HB1 := Lib.hid (HB0.out.below hb1 hltb0)
  skip
  have HZ1 := Lib.hid (HZ0.out.below hb1 hlt0)
  have hs1 := hb1.size
  clear hb1 tb
  have tb := HB1.out.cell
  have tz := HZ1.out.cell
  have tzf := HZ1.out.frozen
  have hltb1 := HB1.out.lt
  have hlt1 := HZ1.out.lt
  cases hB : nodeB s l
  · have HE : Hid (startN s l = (⟨zeroNS, [], []⟩, false)) := by show _ = _; unfold startN; rw [hB]; rfl
    go_wp2
    refine bodyPost_ret (v := .tuple #[.agg #[.int .i64 0, .int .i64 0, .int .i64 0, .int .i64 0, .int .i64 0, .int .i64 0, .int .i64 0, .int .i64 0, .int .i64 0, .slice none 0 0], .slice (some ⟨w1.heap.size, 0, none⟩) 0 0, .bool false]) (by simp [results, Try.results67, go_sem, tz, hlt1]) rfl ⟨none, 0, some ⟨w1.heap.size, 0, none⟩, 0, by rw [HE.out] <;> rfl, ?_, ?_⟩
    · rw [HE.out]
      have hr1 := rows_empty (fillN_rows (g := w.heap.size + 1) (A := none) (n := 0) (c := 0) (s := ⟨0, 0, 0, 0, 0, 0, 0, 0, 0⟩) (rows_zero w1 (fun q => q < w.heap.size + 2) (fun q hq => by have hq : q < w.heap.size + 2 := hq; have := HS0.out; omega) zeroNS) (by show w.heap.size + 1 < _; omega))
      rw [fillN_size] at hr1
      exact hr1.mono fun q hq => by show q < _; omega
    · exact Keep.of_below (B := w.heap.size) ((fillN_below (s := ⟨0, 0, 0, 0, 0, 0, 0, 0, 0⟩) (A := none) (n := 0) (c := 0) (g := w.heap.size + 1) HW1.out (by omega)).alloc (by rw [fillN_size]; exact HW1.out.size) _) fun q hq => hq
  have HP := Lib.hid ((nodeB_iff s l).1 hB)
  have hlen := HP.out.len
  have hHB := Lib.hid hB
  clear hB
  cases hr : (s.round == -1)
  · have hr9 : 0 ≤ s.round := by have := HP.out.round; rw [beq_eq_false_iff_ne] at hr; omega
    have HE : Hid (startN s l = (⟨s, l, []⟩, false)) := by show _ = _; unfold startN; rw [hHB.out, hr]; rfl
    clear hr
    go_wp2_with fail
    refine (l16Copy_any s A c l _ ((HL.out.below HW1.out (Nat.le_refl _)).more HW1.out.size) (by omega)).mono ?_
    rintro e w2 ⟨A2, c2, rfl, ho, hb2⟩
    have hw2s := hb2.size
    have HR2 : Hid (Rows w2 (fun q => q < w.heap.size + 2) A2 c2 none 0 ⟨s, l, []⟩) := rows_new ho (by have := HS0.out; omega) hw2s
    have HB2 := Lib.hid (HB1.out.below hb2 hltb1)
    skip
    have HZ2 := Lib.hid (HZ1.out.below hb2 hlt1)
    have HW2 := Lib.hid (HW1.out.trans (hb2.mono HW1.out.size))
    clear ho hb2 tb tz tzf
    have hltb2 := HB2.out.lt
    have hlt2 := HZ2.out.lt
    have tz := HZ2.out.cell
    have tzf := HZ2.out.frozen
    go_wp2
    refine bodyPost_ret (v := .tuple #[.agg #[.int .i64 s.me, .int .i64 s.round, .int .i64 s.step, .int .i64 s.lv, .int .i64 s.lr, .int .i64 s.vv, .int .i64 s.vr, .int .i64 s.polka, .int .i64 s.dec, .slice A2 l.length c2], .slice (some ⟨w2.heap.size, 0, none⟩) 0 0, .bool false]) (by simp [results, Try.results67, go_sem, tz, hlt2]) rfl ⟨A2, c2, some ⟨w2.heap.size, 0, none⟩, 0, by rw [HE.out] <;> rfl, ?_, ?_⟩
    · rw [HE.out]
      have hr1 := rows_empty (fillN_rows (g := w.heap.size + 1) (A := A2) (n := l.length) (c := c2) (s := s) HR2.out (by show w.heap.size + 1 < _; omega))
      rw [fillN_size] at hr1
      exact hr1.mono fun q hq => by show q < _; have hq : q < w.heap.size := hq; omega
    · exact Keep.of_below (B := w.heap.size) ((fillN_below (g := w.heap.size + 1) (A := A2) (n := l.length) (c := c2) (s := s) HW2.out (by omega)).alloc (by rw [fillN_size]; exact HW2.out.size) _) fun q hq => hq
  have hround : s.round < 0 := by rw [beq_iff_eq] at hr; omega
  have HE : Hid (startN s l = (restR (startR ⟨s, l, []⟩ 0), true)) := by show _ = _; unfold startN; rw [hHB.out, hr]; rfl
  have HS4 := Lib.hid (start_ok (x := ⟨s, l, []⟩) (r := 0) HP.out hround (by decide))
  have hso : (startR ⟨s, l, []⟩ 0).o.length ≤ 1 := by have := startR_o ⟨s, l, []⟩ 0; simpa using this
  clear hr
  go_wp2_with fail
  refine (l16Copy_any s A c l _ ((HL.out.below HW1.out (Nat.le_refl _)).more HW1.out.size) (by omega)).mono ?_
  rintro e w2 ⟨A2, c2, rfl, ho, hb2⟩
  have hw2s := hb2.size
  have HR2 : Hid (Rows w2 (fun q => q < w.heap.size + 2) A2 c2 none 0 ⟨s, l, []⟩) := rows_new ho (by have := HS0.out; omega) hw2s
  have HB2 := Lib.hid (HB1.out.below hb2 hltb1)
  skip
  have HZ2 := Lib.hid (HZ1.out.below hb2 hlt1)
  have HW2 := Lib.hid (HW1.out.trans (hb2.mono HW1.out.size))
  clear ho hb2 tb tz tzf
  have hltb2 := HB2.out.lt
  have hlt2 := HZ2.out.lt
  go_wp2_with fail
  refine (l16Begin_any (fun q => q < w.heap.size + 2) A2 c2 none 0 ⟨s, l, []⟩ 0 _ HR2.out (by show l.length ≤ 1000; omega) (by simp) (by decide) (by decide) HP.out.me HP.out.vr.1).mono ?_
  rintro e w3 ⟨A3, c3, B3, d3, rfl, hr3, hk3⟩
  have HR3 := Lib.hid hr3
  have HZ3 := Lib.hid (hk3.blk (by show w.heap.size + 1 < _; omega) HZ2.out)
  have HK3 : Hid (Keep (fun q => q < w.heap.size) w w3) := (Keep.of_below HW2.out fun q hq => hq).trans (hk3.mono fun q hq => by show q < _; have hq : q < w.heap.size := hq; omega)
  clear hr3 hk3
  unfold runV
  go_wp2_with fail
  refine (l16Told_any (fun q => q < w.heap.size + 2) _ _ _ _ (startR ⟨s, l, []⟩ 0) _ HR3.out HS4.out (by omega)).mono ?_
  obtain ⟨y, hy⟩ : ∃ y, y = restR (startR ⟨s, l, []⟩ 0) := ⟨_, rfl⟩
  have HE9 : Hid (startN s l = (y, true)) := by show _ = _; rw [HE.out, hy]
  rw [← hy]
  clear hy
  rintro e w9 ⟨A9, c9, B9, d9, rfl, hr9, hk9⟩
  have HR9 := Lib.hid hr9
  have HZ9 := Lib.hid (hk9.blk (by show w.heap.size + 1 < _; omega) HZ3.out)
  have HK9 : Hid (Keep (fun q => q < w.heap.size) w w9) := HK3.out.trans (hk9.mono fun q hq => by show q < _; have hq : q < w.heap.size := hq; omega)
  clear hr9 hk9
  go_upto_region 6 with fail
  obtain ⟨w10, hw10⟩ : ∃ q, q = w9.alloc (.cells #[.int .i64 y.s.me, .int .i64 y.s.round, .int .i64 y.s.step, .int .i64 y.s.lv, .int .i64 y.s.lr, .int .i64 y.s.vv, .int .i64 y.s.vr, .int .i64 y.s.polka, .int .i64 y.s.dec, .slice A9 y.l.length c9] 79) := ⟨_, rfl⟩
  rw [← hw10]
  have HR10 : Hid (Rows w10 (fun q => q < w.heap.size + 2) A9 c9 B9 d9 y) := by show Rows _ _ _ _ _ _ _; rw [hw10]; exact HR9.out.alloc _
  have HE10 : Hid (Blk w10 w9.heap.size 79 #[.int .i64 y.s.me, .int .i64 y.s.round, .int .i64 y.s.step, .int .i64 y.s.lv, .int .i64 y.s.lr, .int .i64 y.s.vv, .int .i64 y.s.vr, .int .i64 y.s.polka, .int .i64 y.s.dec, .slice A9 y.l.length c9]) := by show Blk _ _ _ _; rw [hw10]; exact heap_alloc_new w9 _
  have HZ10 : Hid (Blk w10 (w.heap.size + 1) 79 #[.int .i64 0, .int .i64 0, .int .i64 0, .int .i64 0, .int .i64 0, .int .i64 0, .int .i64 0, .int .i64 0, .int .i64 0, .slice none 0 0]) := by show Blk _ _ _ _; rw [hw10]; exact HZ9.out.alloc _
  have HK10 : Hid (Keep (fun q => q < w.heap.size) w w10) := by show Keep _ _ _; rw [hw10]; exact HK9.out.alloc (fun q hq => by have := HR9.out.lt q (by show q < _; have hq : q < w.heap.size := hq; omega); exact this) _
  clear hw10
  have te := HE10.out.cell
  have tz := HZ10.out.cell
  have tzf := HZ10.out.frozen
  go_wp2_with fail
  refine bodyPost_ret (v := .tuple #[.agg #[.int .i64 y.s.me, .int .i64 y.s.round, .int .i64 y.s.step, .int .i64 y.s.lv, .int .i64 y.s.lr, .int .i64 y.s.vv, .int .i64 y.s.vr, .int .i64 y.s.polka, .int .i64 y.s.dec, .slice A9 y.l.length c9], .slice B9 y.o.length d9, .bool true]) (by simp [results, Try.results67, go_sem, tz]) rfl ⟨A9, c9, B9, d9, by rw [HE9.out] <;> rfl, ?_, ?_⟩
  · rw [HE9.out]
    exact (fillN_rows (g := w.heap.size + 1) (A := A9) (n := y.l.length) (c := c9) (s := y.s) HR10.out (by show w.heap.size + 1 < _; omega)).mono fun q hq => by show q < _; have hq : q < w.heap.size := hq; omega
  · exact fillN_keep (g := w.heap.size + 1) (A := A9) (n := y.l.length) (c := c9) (s := y.s) HK10.out (by show ¬ (w.heap.size + 1 < _); omega)

set_option maxRecDepth 100000 in
set_option maxHeartbeats 8000000 in
theorem sNodeGet_any (s : NodeS) (A : Option Addr) (c : Nat) (l : List NMsgD) (m : NMsgD) (w : World) (hl : RdL msgC 5 w w.heap.size A l.length c l) :
    Calls Try.prog 68 #[.agg #[.int .i64 s.me, .int .i64 s.round, .int .i64 s.step, .int .i64 s.lv, .int .i64 s.lr, .int .i64 s.vv, .int .i64 s.vr, .int .i64 s.polka, .int .i64 s.dec, .slice A l.length c], .agg #[.int .i64 m.k, .int .i64 m.r, .int .i64 m.v, .int .i64 m.p, .int .i64 m.f]] w (CallOut (fun q => q < w.heap.size) (getN s l m) w) := by
  have HL := Lib.hid hl
  clear hl
  go_enter Try.func68, Try.ntmps68
  go_upto_region 1 with fail
  obtain ⟨w0, hw0⟩ : ∃ q, q = ((w.alloc (.cells #[.int .i64 s.me, .int .i64 s.round, .int .i64 s.step, .int .i64 s.lv, .int .i64 s.lr, .int .i64 s.vv, .int .i64 s.vr, .int .i64 s.polka, .int .i64 s.dec, .slice A l.length c] 79)).alloc (.cells #[.int .i64 m.k, .int .i64 m.r, .int .i64 m.v, .int .i64 m.p, .int .i64 m.f] 49)).alloc (.cells #[.int .i64 0, .int .i64 0, .int .i64 0, .int .i64 0, .int .i64 0, .int .i64 0, .int .i64 0, .int .i64 0, .int .i64 0, .slice none 0 0] 79) := ⟨_, rfl⟩
  rw [← hw0]
  have HB0 : Hid (Blk w0 w.heap.size 79 #[.int .i64 s.me, .int .i64 s.round, .int .i64 s.step, .int .i64 s.lv, .int .i64 s.lr, .int .i64 s.vv, .int .i64 s.vr, .int .i64 s.polka, .int .i64 s.dec, .slice A l.length c]) := by show Blk _ _ _ _; rw [hw0]; exact ((show Blk _ _ _ _ from heap_alloc_new w _).alloc _).alloc _
  have HM0 : Hid (Blk w0 (w.heap.size + 1) 49 #[.int .i64 m.k, .int .i64 m.r, .int .i64 m.v, .int .i64 m.p, .int .i64 m.f]) := by show Blk _ _ _ _; rw [hw0]; exact blk2.alloc _
  have HZ0 : Hid (Blk w0 (w.heap.size + 2) 79 #[.int .i64 0, .int .i64 0, .int .i64 0, .int .i64 0, .int .i64 0, .int .i64 0, .int .i64 0, .int .i64 0, .int .i64 0, .slice none 0 0]) := by show Blk _ _ _ _; rw [hw0]; exact blk3
  have HW0 : Hid (Below w.heap.size w w0) := by show Below _ _ _; rw [hw0]; exact (by repeat (first | exact Below.refl _ _ | assumption | refine Below.drew ?_ | refine belN ?_ _ | refine Below.alloc ?_ (by first | exact Nat.le_refl _ | (simp; done) | (simp; omega) | omega) _ | refine Below.setCell ?_ (by first | exact Nat.le_refl _ | (simp; done) | (simp; omega) | omega) _ | refine Below.trans ?_ (Below.mono (by assumption) (by first | exact Nat.le_refl _ | (simp; done) | (simp; omega) | omega))))
  have hs0 : w0.heap.size = w.heap.size + 3 := by rw [hw0]; simp
  have HL0 := Lib.hid ((HL.out.below HW0.out (Nat.le_refl _)).more HW0.out.size)
  clear hw0
  have tb := HB0.out.cell
  have HS0 := Lib.hid hs0
  have hlt0 : w.heap.size + 2 < w0.heap.size := by omega
  have hltb0 : w.heap.size < w0.heap.size := by omega
  clear hs0
  go_wp2_with fail
  refine (sNodeOk_any s A l.length c l _ HL0.out).mono ?_
  rintro e w1 ⟨rfl, hb1⟩
  have HW1 := Lib.hid (HW0.out.trans (hb1.mono HW0.out.size))
  have HB1 := Lib.hid (HB0.out.below hb1 hltb0)
  have HM1 := Lib.hid (HM0.out.below hb1 (by omega))
  have HZ1 := Lib.hid (HZ0.out.below hb1 hlt0)
  have hs1 := hb1.size
  clear hb1 tb
  have tb := HB1.out.cell
  have tz := HZ1.out.cell
  have tzf := HZ1.out.frozen
  have hltb1 := HB1.out.lt
  have hlt1 := HZ1.out.lt
  cases hB : nodeB s l
  · have HE : Hid (getN s l m = (⟨zeroNS, [], []⟩, false)) := by show _ = _; unfold getN; rw [hB]; rfl
    go_wp2
    refine bodyPost_ret (v := .tuple #[.agg #[.int .i64 0, .int .i64 0, .int .i64 0, .int .i64 0, .int .i64 0, .int .i64 0, .int .i64 0, .int .i64 0, .int .i64 0, .slice none 0 0], .slice (some ⟨w1.heap.size, 0, none⟩) 0 0, .bool false]) (by simp [results, Try.results68, go_sem, tz, hlt1]) rfl ⟨none, 0, some ⟨w1.heap.size, 0, none⟩, 0, by rw [HE.out] <;> rfl, ?_, ?_⟩
    · rw [HE.out]
      have hr1 := rows_empty (fillN_rows (g := w.heap.size + 2) (A := none) (n := 0) (c := 0) (s := ⟨0, 0, 0, 0, 0, 0, 0, 0, 0⟩) (rows_zero w1 (fun q => q < w.heap.size + 3) (fun q hq => by have hq : q < w.heap.size + 3 := hq; have := HS0.out; omega) zeroNS) (by show w.heap.size + 2 < _; omega))
      rw [fillN_size] at hr1
      exact hr1.mono fun q hq => by show q < _; omega
    · exact Keep.of_below (B := w.heap.size) ((fillN_below (s := ⟨0, 0, 0, 0, 0, 0, 0, 0, 0⟩) (A := none) (n := 0) (c := 0) (g := w.heap.size + 2) HW1.out (by omega)).alloc (by rw [fillN_size]; exact HW1.out.size) _) fun q hq => hq
  have HP := Lib.hid ((nodeB_iff s l).1 hB)
  have hlen := HP.out.len
  have hHB := Lib.hid hB
  clear hB
  go_wp2_with fail
  refine (l16Copy_any s A c l _ ((HL.out.below HW1.out (Nat.le_refl _)).more HW1.out.size) (by omega)).mono ?_
  rintro e w2 ⟨A2, c2, rfl, ho, hb2⟩
  have hw2s := hb2.size
  have HR2 : Hid (Rows w2 (fun q => q < w.heap.size + 3) A2 c2 none 0 ⟨s, l, []⟩) := rows_new ho (by have := HS0.out; omega) hw2s
  have HB2 := Lib.hid (HB1.out.below hb2 hltb1)
  have HM2 := Lib.hid (HM1.out.below hb2 HM1.out.lt)
  have HZ2 := Lib.hid (HZ1.out.below hb2 hlt1)
  have HW2 := Lib.hid (HW1.out.trans (hb2.mono HW1.out.size))
  clear ho hb2 tb tz tzf
  have hltb2 := HB2.out.lt
  have hlt2 := HZ2.out.lt
  go_upto_region 4 with fail
  obtain ⟨w3, hw3⟩ : ∃ q, q = w2.alloc (.cells #[.int .i64 s.me, .int .i64 s.round, .int .i64 s.step, .int .i64 s.lv, .int .i64 s.lr, .int .i64 s.vv, .int .i64 s.vr, .int .i64 s.polka, .int .i64 s.dec, .slice A2 l.length c2] 79) := ⟨_, rfl⟩
  rw [← hw3]
  have HR3 : Hid (Rows w3 (fun q => q < w.heap.size + 3 ∨ q = w2.heap.size) A2 c2 none 0 ⟨s, l, []⟩) := by show Rows _ _ _ _ _ _ _; rw [hw3]; exact HR2.out.new _
  have HB3 : Hid (Blk w3 w.heap.size 79 #[.int .i64 s.me, .int .i64 s.round, .int .i64 s.step, .int .i64 s.lv, .int .i64 s.lr, .int .i64 s.vv, .int .i64 s.vr, .int .i64 s.polka, .int .i64 s.dec, .slice A l.length c]) := by show Blk _ _ _ _; rw [hw3]; exact HB2.out.alloc _
  have HM3 : Hid (Blk w3 (w.heap.size + 1) 49 #[.int .i64 m.k, .int .i64 m.r, .int .i64 m.v, .int .i64 m.p, .int .i64 m.f]) := by show Blk _ _ _ _; rw [hw3]; exact HM2.out.alloc _
  have HZ3 : Hid (Blk w3 (w.heap.size + 2) 79 #[.int .i64 0, .int .i64 0, .int .i64 0, .int .i64 0, .int .i64 0, .int .i64 0, .int .i64 0, .int .i64 0, .int .i64 0, .slice none 0 0]) := by show Blk _ _ _ _; rw [hw3]; exact HZ2.out.alloc _
  have HX3 : Hid (Blk w3 w2.heap.size 79 #[.int .i64 s.me, .int .i64 s.round, .int .i64 s.step, .int .i64 s.lv, .int .i64 s.lr, .int .i64 s.vv, .int .i64 s.vr, .int .i64 s.polka, .int .i64 s.dec, .slice A2 l.length c2]) := by show Blk _ _ _ _; rw [hw3]; exact heap_alloc_new w2 _
  have HW3 : Hid (Below w.heap.size w w3) := by show Below _ _ _; rw [hw3]; exact HW2.out.alloc HW2.out.size _
  clear hw3
  have hnx : ∀ q, q < w.heap.size + 3 → q ≠ w2.heap.size := fun q hq => by omega
  have HNX := Lib.hid hnx
  clear hnx
  have tm := HM3.out.cell
  cases g1 : okMsg m
  · have HE : Hid (getN s l m = (⟨s, l, []⟩, false)) := by show _ = _; unfold getN getBad; rw [hHB.out, g1]; rfl
    have g1' : msgB m.k m.r m.v m.p m.f = false := g1
    clear g1
    go_wp2_with fail
    refine (sMsgOk_any m.k m.r m.v m.p m.f _).mono ?_
    rw [g1']
    rintro e w4 ⟨rfl, hb4⟩
    have HR4 := Lib.hid (HR3.out.below hb4)
    have HW4 := Lib.hid (HW3.out.trans (hb4.mono HW3.out.size))
    have HX4 := Lib.hid (HX3.out.below hb4 HX3.out.lt)
    have HZ4 := Lib.hid (HZ3.out.below hb4 HZ3.out.lt)
    clear hb4 tm
    have tx := HX4.out.cell
    have tz := HZ4.out.cell
    have tzf := HZ4.out.frozen
    have hltx4 := HX4.out.lt
    have hltz4 := HZ4.out.lt
    go_wp2
    refine bodyPost_ret (v := .tuple #[.agg #[.int .i64 s.me, .int .i64 s.round, .int .i64 s.step, .int .i64 s.lv, .int .i64 s.lr, .int .i64 s.vv, .int .i64 s.vr, .int .i64 s.polka, .int .i64 s.dec, .slice A2 l.length c2], .slice (some ⟨w4.heap.size, 0, none⟩) 0 0, .bool false]) (by simp [results, Try.results68, go_sem, tz, hltz4]) rfl ⟨A2, c2, some ⟨w4.heap.size, 0, none⟩, 0, by rw [HE.out] <;> rfl, ?_, ?_⟩
    · rw [HE.out]
      have hr1 := rows_empty (fillN_rows (g := w.heap.size + 2) (A := A2) (n := l.length) (c := c2) (s := s) (HR4.out.mono (Q := fun q => q < w.heap.size + 3) fun q hq => .inl hq) (by show w.heap.size + 2 < _; omega))
      rw [fillN_size] at hr1
      exact hr1.mono fun q hq => by show q < _; have hq : q < w.heap.size := hq; omega
    · exact Keep.of_below (B := w.heap.size) ((fillN_below (g := w.heap.size + 2) (A := A2) (n := l.length) (c := c2) (s := s) HW4.out (by omega)).alloc (by rw [fillN_size]; exact HW4.out.size) _) fun q hq => hq
  have g1' : msgB m.k m.r m.v m.p m.f = true := g1
  go_wp2_with fail
  refine (sMsgOk_any m.k m.r m.v m.p m.f _).mono ?_
  rw [g1']
  rintro e w4 ⟨rfl, hb4⟩
  have HR4 := Lib.hid (HR3.out.below hb4)
  have HW4 := Lib.hid (HW3.out.trans (hb4.mono HW3.out.size))
  have HB4 := Lib.hid (HB3.out.below hb4 HB3.out.lt)
  have HM4 := Lib.hid (HM3.out.below hb4 HM3.out.lt)
  have HX4 := Lib.hid (HX3.out.below hb4 HX3.out.lt)
  have HZ4 := Lib.hid (HZ3.out.below hb4 HZ3.out.lt)
  clear hb4 tm g1'
  have tb := HB4.out.cell
  have tm := HM4.out.cell
  go_wp2_with fail
  refine (l16Has_any A l.length c l m _ ((HL.out.below HW4.out (Nat.le_refl _)).more HW4.out.size)).mono ?_
  rintro e w5 ⟨rfl, hb5⟩
  have HR5 := Lib.hid (HR4.out.below hb5)
  have HW5 := Lib.hid (HW4.out.trans (hb5.mono HW4.out.size))
  have HB5 := Lib.hid (HB4.out.below hb5 HB4.out.lt)
  have HM5 := Lib.hid (HM4.out.below hb5 HM4.out.lt)
  have HX5 := Lib.hid (HX4.out.below hb5 HX4.out.lt)
  have HZ5 := Lib.hid (HZ4.out.below hb5 HZ4.out.lt)
  clear hb5 tb tm
  have tb := HB5.out.cell
  have tm := HM5.out.cell
  have tx := HX5.out.cell
  have txf := HX5.out.frozen
  have tz := HZ5.out.cell
  have tzf := HZ5.out.frozen
  have hltx5 := HX5.out.lt
  have hltm5 := HM5.out.lt
  have hltz5 := HZ5.out.lt
  cases g2 : hasB l m
  rotate_left
  · have HE : Hid (getN s l m = (⟨s, l, []⟩, false)) := by show _ = _; unfold getN getBad; rw [hHB.out, g1, g2]; rfl
    clear g1
    go_wp2
    refine bodyPost_ret (v := .tuple #[.agg #[.int .i64 s.me, .int .i64 s.round, .int .i64 s.step, .int .i64 s.lv, .int .i64 s.lr, .int .i64 s.vv, .int .i64 s.vr, .int .i64 s.polka, .int .i64 s.dec, .slice A2 l.length c2], .slice (some ⟨w5.heap.size, 0, none⟩) 0 0, .bool false]) (by simp [results, Try.results68, go_sem, tz, hltz5]) rfl ⟨A2, c2, some ⟨w5.heap.size, 0, none⟩, 0, by rw [HE.out] <;> rfl, ?_, ?_⟩
    · rw [HE.out]
      have hr1 := rows_empty (fillN_rows (g := w.heap.size + 2) (A := A2) (n := l.length) (c := c2) (s := s) (HR5.out.mono (Q := fun q => q < w.heap.size + 3) fun q hq => .inl hq) (by show w.heap.size + 2 < _; omega))
      rw [fillN_size] at hr1
      exact hr1.mono fun q hq => by show q < _; have hq : q < w.heap.size := hq; omega
    · exact Keep.of_below (B := w.heap.size) ((fillN_below (g := w.heap.size + 2) (A := A2) (n := l.length) (c := c2) (s := s) HW5.out (by omega)).alloc (by rw [fillN_size]; exact HW5.out.size) _) fun q hq => hq
  by_cases g3 : 90 ≤ l.length
  · have HE : Hid (getN s l m = (⟨s, l, []⟩, false)) := by show _ = _; unfold getN getBad; rw [hHB.out, g1, g2, decide_eq_true g3]; rfl
    clear g1
    go_wp2
    refine bodyPost_ret (v := .tuple #[.agg #[.int .i64 s.me, .int .i64 s.round, .int .i64 s.step, .int .i64 s.lv, .int .i64 s.lr, .int .i64 s.vv, .int .i64 s.vr, .int .i64 s.polka, .int .i64 s.dec, .slice A2 l.length c2], .slice (some ⟨w5.heap.size, 0, none⟩) 0 0, .bool false]) (by simp [results, Try.results68, go_sem, tz, hltz5]) rfl ⟨A2, c2, some ⟨w5.heap.size, 0, none⟩, 0, by rw [HE.out] <;> rfl, ?_, ?_⟩
    · rw [HE.out]
      have hr1 := rows_empty (fillN_rows (g := w.heap.size + 2) (A := A2) (n := l.length) (c := c2) (s := s) (HR5.out.mono (Q := fun q => q < w.heap.size + 3) fun q hq => .inl hq) (by show w.heap.size + 2 < _; omega))
      rw [fillN_size] at hr1
      exact hr1.mono fun q hq => by show q < _; have hq : q < w.heap.size := hq; omega
    · exact Keep.of_below (B := w.heap.size) ((fillN_below (g := w.heap.size + 2) (A := A2) (n := l.length) (c := c2) (s := s) HW5.out (by omega)).alloc (by rw [fillN_size]; exact HW5.out.size) _) fun q hq => hq
  have hbad : getBad l m = false := by unfold getBad; rw [g1, g2, decide_eq_false g3]; rfl
  have HE : Hid (getN s l m = (restR ⟨s, l ++ [m], []⟩, true)) := by show _ = _; unfold getN; rw [hHB.out, hbad]; rfl
  have HP6 := Lib.hid (got_ok HP.out hbad)
  have g3' : l.length < 90 := by omega
  clear g1 hbad
  obtain ⟨i0, hi, hz0, hz1, hz2⟩ := info_parts infoMsgS
  have hcm := HR5.out.rl.2.2.2.1
  go_upto_region 7 with (at_builtin; refine wpList_app_rd _ rfl _ _ _ rfl 0 49 i0 _ 5 40 Try.underlying25 hi hz0 hz1 hz2 rfl (by decide) (.slice A2 l.length c2) l.length (l.flatMap msgC) rfl (by exact (HR5.out.alloc _).la.owns msgC_len) _ _ 1 1 _ rfl (by exact Rd.one5S w5 m _ (by first | rfl | simp)) (msgC_oneS _) (by unfold maxLen; omega) (by omega) (by first | (simp; done) | (simp; omega)) ?_; intro v2 w6 hown hg hat; obtain ⟨A6, c6, rfl, hr6, hk6⟩ := (HR5.out.alloc _).appL (m := m) hown hg hat; have HR6 := Lib.hid hr6; have HK6 := Lib.hid (((Keep.refl _ w5).alloc HR5.out.lt _).trans hk6); clear hown hg hat hr6 hk6; have HX6 := Lib.hid (HK6.out.blk (.inr rfl) HX5.out); have tx6 := HX6.out.cell; have txf6 := HX6.out.frozen)
  obtain ⟨w7, hw7⟩ : ∃ q, q = w6.setCell ⟨w2.heap.size, 9, none⟩ (.slice A6 (l.length + 1) c6) := ⟨_, rfl⟩
  rw [← hw7]
  have HR7 : Hid (Rows w7 (fun q => q < w.heap.size + 3) A6 c6 none 0 ⟨s, l ++ [m], []⟩) := by show Rows _ _ _ _ _ _ _; rw [hw7]; exact (HR6.out.keeps (.inr rfl) _).mono fun q hq => .inl hq
  have HX7 : Hid (Blk w7 w2.heap.size 79 #[.int .i64 s.me, .int .i64 s.round, .int .i64 s.step, .int .i64 s.lv, .int .i64 s.lr, .int .i64 s.vv, .int .i64 s.vr, .int .i64 s.polka, .int .i64 s.dec, .slice A6 (l.length + 1) c6]) := by
    show Blk _ _ _ _
    rw [hw7]
    have h := HX6.out.set_ 9 (.slice A6 (l.length + 1) c6)
    simp only [List.setIfInBounds_toArray, List.set_cons_zero, List.set_cons_succ] at h
    exact h
  have HZ7 : Hid (Blk w7 (w.heap.size + 2) 79 #[.int .i64 0, .int .i64 0, .int .i64 0, .int .i64 0, .int .i64 0, .int .i64 0, .int .i64 0, .int .i64 0, .int .i64 0, .slice none 0 0]) := by show Blk _ _ _ _; rw [hw7]; exact (HK6.out.blk (.inl (by show w.heap.size + 2 < _; omega)) HZ5.out).far (HNX.out _ (by omega)) _
  have HK7 : Hid (Keep (fun q => q < w.heap.size) w w7) := by show Keep _ _ _; rw [hw7]; exact ((Keep.of_below HW5.out fun q hq => hq).trans (HK6.out.mono fun q hq => .inl (by show q < _; have hq : q < w.heap.size := hq; omega))).setCell (by show ¬ (w2.heap.size < w.heap.size); have := HW2.out.size; omega) _
  clear hw7 tx txf tx6 txf6 tb tm tz tzf
  obtain ⟨l2, hl2⟩ : ∃ l2, l2 = l ++ [m] := ⟨_, rfl⟩
  have hlen2 : l.length + 1 = l2.length := by rw [hl2]; simp
  rw [← hl2] at HR7 HP6 HE
  rw [hlen2] at HX7
  clear hl2 hlen2
  have tx := HX7.out.cell
  have hltx7 := HX7.out.lt
  go_wp2_with fail
  refine (l16Told_any (fun q => q < w.heap.size + 3) A6 c6 none 0 ⟨s, l2, []⟩ _ HR7.out HP6.out (by simp)).mono ?_
  obtain ⟨y, hy⟩ : ∃ y, y = restR ⟨s, l2, []⟩ := ⟨_, rfl⟩
  have HE9 : Hid (getN s l m = (y, true)) := by show _ = _; rw [HE.out, hy]
  rw [← hy]
  clear hy
  rintro e w9 ⟨A9, c9, B9, d9, rfl, hr9, hk9⟩
  have HR9 := Lib.hid hr9
  have HZ9 := Lib.hid (hk9.blk (by show w.heap.size + 2 < _; omega) HZ7.out)
  have HK9 : Hid (Keep (fun q => q < w.heap.size) w w9) := HK7.out.trans (hk9.mono fun q hq => by show q < _; have hq : q < w.heap.size := hq; omega)
  clear hr9 hk9
  go_upto_region 8 with fail
  obtain ⟨w10, hw10⟩ : ∃ q, q = w9.alloc (.cells #[.int .i64 y.s.me, .int .i64 y.s.round, .int .i64 y.s.step, .int .i64 y.s.lv, .int .i64 y.s.lr, .int .i64 y.s.vv, .int .i64 y.s.vr, .int .i64 y.s.polka, .int .i64 y.s.dec, .slice A9 y.l.length c9] 79) := ⟨_, rfl⟩
  rw [← hw10]
  have HR10 : Hid (Rows w10 (fun q => q < w.heap.size + 3) A9 c9 B9 d9 y) := by show Rows _ _ _ _ _ _ _; rw [hw10]; exact HR9.out.alloc _
  have HE10 : Hid (Blk w10 w9.heap.size 79 #[.int .i64 y.s.me, .int .i64 y.s.round, .int .i64 y.s.step, .int .i64 y.s.lv, .int .i64 y.s.lr, .int .i64 y.s.vv, .int .i64 y.s.vr, .int .i64 y.s.polka, .int .i64 y.s.dec, .slice A9 y.l.length c9]) := by show Blk _ _ _ _; rw [hw10]; exact heap_alloc_new w9 _
  have HZ10 : Hid (Blk w10 (w.heap.size + 2) 79 #[.int .i64 0, .int .i64 0, .int .i64 0, .int .i64 0, .int .i64 0, .int .i64 0, .int .i64 0, .int .i64 0, .int .i64 0, .slice none 0 0]) := by show Blk _ _ _ _; rw [hw10]; exact HZ9.out.alloc _
  have HK10 : Hid (Keep (fun q => q < w.heap.size) w w10) := by show Keep _ _ _; rw [hw10]; exact HK9.out.alloc (fun q hq => by have := HR9.out.lt q (by show q < _; have hq : q < w.heap.size := hq; omega); exact this) _
  clear hw10
  have te := HE10.out.cell
  have tz := HZ10.out.cell
  have tzf := HZ10.out.frozen
  go_wp2_with fail
  refine bodyPost_ret (v := .tuple #[.agg #[.int .i64 y.s.me, .int .i64 y.s.round, .int .i64 y.s.step, .int .i64 y.s.lv, .int .i64 y.s.lr, .int .i64 y.s.vv, .int .i64 y.s.vr, .int .i64 y.s.polka, .int .i64 y.s.dec, .slice A9 y.l.length c9], .slice B9 y.o.length d9, .bool true]) (by simp [results, Try.results68, go_sem, tz]) rfl ⟨A9, c9, B9, d9, by rw [HE9.out] <;> rfl, ?_, ?_⟩
  · rw [HE9.out]
    exact (fillN_rows (g := w.heap.size + 2) (A := A9) (n := y.l.length) (c := c9) (s := y.s) HR10.out (by show w.heap.size + 2 < _; omega)).mono fun q hq => by show q < _; have hq : q < w.heap.size := hq; omega
  · exact fillN_keep (g := w.heap.size + 2) (A := A9) (n := y.l.length) (c := c9) (s := y.s) HK10.out (by show ¬ (w.heap.size + 2 < _); omega)

set_option maxRecDepth 100000 in
set_option maxHeartbeats 8000000 in
theorem sNodeTime_any (s : NodeS) (A : Option Addr) (c : Nat) (l : List NMsgD) (k : Int) (w : World) (hl : RdL msgC 5 w w.heap.size A l.length c l) :
    Calls Try.prog 69 #[.agg #[.int .i64 s.me, .int .i64 s.round, .int .i64 s.step, .int .i64 s.lv, .int .i64 s.lr, .int .i64 s.vv, .int .i64 s.vr, .int .i64 s.polka, .int .i64 s.dec, .slice A l.length c], .int .i64 k] w (CallOut (fun q => q < w.heap.size) (timeN s l k) w) := by
  have HL := Lib.hid hl
  clear hl
  go_enter Try.func69, Try.ntmps69
  go_upto_region 1 with fail
  obtain ⟨w0, hw0⟩ : ∃ q, q = (w.alloc (.cells #[.int .i64 s.me, .int .i64 s.round, .int .i64 s.step, .int .i64 s.lv, .int .i64 s.lr, .int .i64 s.vv, .int .i64 s.vr, .int .i64 s.polka, .int .i64 s.dec, .slice A l.length c] 79)).alloc (.cells #[.int .i64 0, .int .i64 0, .int .i64 0, .int .i64 0, .int .i64 0, .int .i64 0, .int .i64 0, .int .i64 0, .int .i64 0, .slice none 0 0] 79) := ⟨_, rfl⟩
  rw [← hw0]
  have HB0 : Hid (Blk w0 w.heap.size 79 #[.int .i64 s.me, .int .i64 s.round, .int .i64 s.step, .int .i64 s.lv, .int .i64 s.lr, .int .i64 s.vv, .int .i64 s.vr, .int .i64 s.polka, .int .i64 s.dec, .slice A l.length c]) := by show Blk _ _ _ _; rw [hw0]; exact ((show Blk _ _ _ _ from heap_alloc_new w _).alloc _)
  skip
  have HZ0 : Hid (Blk w0 (w.heap.size + 1) 79 #[.int .i64 0, .int .i64 0, .int .i64 0, .int .i64 0, .int .i64 0, .int .i64 0, .int .i64 0, .int .i64 0, .int .i64 0, .slice none 0 0]) := by show Blk _ _ _ _; rw [hw0]; exact blk2
  have HW0 : Hid (Below w.heap.size w w0) := by show Below _ _ _; rw [hw0]; exact (by repeat (first | exact Below.refl _ _ | assumption | refine Below.drew ?_ | refine belN ?_ _ | refine Below.alloc ?_ (by first | exact Nat.le_refl _ | (simp; done) | (simp; omega) | omega) _ | refine Below.setCell ?_ (by first | exact Nat.le_refl _ | (simp; done) | (simp; omega) | omega) _ | refine Below.trans ?_ (Below.mono (by assumption) (by first | exact Nat.le_refl _ | (simp; done) | (simp; omega) | omega))))
  have hs0 : w0.heap.size = w.heap.size + 2 := by rw [hw0]; simp
  have HL0 := Lib.hid ((HL.out.below HW0.out (Nat.le_refl _)).more HW0.out.size)
  clear hw0
  have tb := HB0.out.cell
  have HS0 := Lib.hid hs0
  have hlt0 : w.heap.size + 1 < w0.heap.size := by omega
  have hltb0 : w.heap.size < w0.heap.size := by omega
  clear hs0
  go_wp2_with fail
  refine (sNodeOk_any s A l.length c l _ HL0.out).mono ?_
  rintro e w1 ⟨rfl, hb1⟩
  have HW1 := Lib.hid (HW0.out.trans (hb1.mono HW0.out.size))
  have HB1 := Lib.hid (HB0.out.below hb1 hltb0)
  skip
  have HZ1 := Lib.hid (HZ0.out.below hb1 hlt0)
  have hs1 := hb1.size
  clear hb1 tb
  have tb := HB1.out.cell
  have tz := HZ1.out.cell
  have tzf := HZ1.out.frozen
  have hltb1 := HB1.out.lt
  have hlt1 := HZ1.out.lt
  cases hB : nodeB s l
  · have HE : Hid (timeN s l k = (⟨zeroNS, [], []⟩, false)) := by show _ = _; unfold timeN; rw [hB]; rfl
    go_wp2
    refine bodyPost_ret (v := .tuple #[.agg #[.int .i64 0, .int .i64 0, .int .i64 0, .int .i64 0, .int .i64 0, .int .i64 0, .int .i64 0, .int .i64 0, .int .i64 0, .slice none 0 0], .slice (some ⟨w1.heap.size, 0, none⟩) 0 0, .bool false]) (by simp [results, Try.results69, go_sem, tz, hlt1]) rfl ⟨none, 0, some ⟨w1.heap.size, 0, none⟩, 0, by rw [HE.out] <;> rfl, ?_, ?_⟩
    · rw [HE.out]
      have hr1 := rows_empty (fillN_rows (g := w.heap.size + 1) (A := none) (n := 0) (c := 0) (s := ⟨0, 0, 0, 0, 0, 0, 0, 0, 0⟩) (rows_zero w1 (fun q => q < w.heap.size + 2) (fun q hq => by have hq : q < w.heap.size + 2 := hq; have := HS0.out; omega) zeroNS) (by show w.heap.size + 1 < _; omega))
      rw [fillN_size] at hr1
      exact hr1.mono fun q hq => by show q < _; omega
    · exact Keep.of_below (B := w.heap.size) ((fillN_below (s := ⟨0, 0, 0, 0, 0, 0, 0, 0, 0⟩) (A := none) (n := 0) (c := 0) (g := w.heap.size + 1) HW1.out (by omega)).alloc (by rw [fillN_size]; exact HW1.out.size) _) fun q hq => hq
  have HP := Lib.hid ((nodeB_iff s l).1 hB)
  have hlen := HP.out.len
  have hHB := Lib.hid hB
  clear hB
  go_wp2_with fail
  refine (l16Copy_any s A c l _ ((HL.out.below HW1.out (Nat.le_refl _)).more HW1.out.size) (by omega)).mono ?_
  rintro e w2 ⟨A2, c2, rfl, ho, hb2⟩
  have hw2s := hb2.size
  have HR2 : Hid (Rows w2 (fun q => q < w.heap.size + 2) A2 c2 none 0 ⟨s, l, []⟩) := rows_new ho (by have := HS0.out; omega) hw2s
  have HB2 := Lib.hid (HB1.out.below hb2 hltb1)
  skip
  have HZ2 := Lib.hid (HZ1.out.below hb2 hlt1)
  have HW2 := Lib.hid (HW1.out.trans (hb2.mono HW1.out.size))
  clear ho hb2 tb tz tzf
  have hltb2 := HB2.out.lt
  have hlt2 := HZ2.out.lt
  go_upto_region 4 with fail
  obtain ⟨w3, hw3⟩ : ∃ q, q = w2.alloc (.cells #[.int .i64 s.me, .int .i64 s.round, .int .i64 s.step, .int .i64 s.lv, .int .i64 s.lr, .int .i64 s.vv, .int .i64 s.vr, .int .i64 s.polka, .int .i64 s.dec, .slice A2 l.length c2, .slice none 0 0] 120) := ⟨_, rfl⟩
  rw [← hw3]
  have HR3 : Hid (Rows w3 (fun q => q < w.heap.size + 2 ∨ q = w2.heap.size) A2 c2 none 0 ⟨s, l, []⟩) := by show Rows _ _ _ _ _ _ _; rw [hw3]; exact HR2.out.new _
  have HB3 : Hid (Blk w3 w.heap.size 79 #[.int .i64 s.me, .int .i64 s.round, .int .i64 s.step, .int .i64 s.lv, .int .i64 s.lr, .int .i64 s.vv, .int .i64 s.vr, .int .i64 s.polka, .int .i64 s.dec, .slice A l.length c]) := by show Blk _ _ _ _; rw [hw3]; exact HB2.out.alloc _
  have HZ3 : Hid (Blk w3 (w.heap.size + 1) 79 #[.int .i64 0, .int .i64 0, .int .i64 0, .int .i64 0, .int .i64 0, .int .i64 0, .int .i64 0, .int .i64 0, .int .i64 0, .slice none 0 0]) := by show Blk _ _ _ _; rw [hw3]; exact HZ2.out.alloc _
  have HX3 : Hid (Blk w3 w2.heap.size 120 #[.int .i64 s.me, .int .i64 s.round, .int .i64 s.step, .int .i64 s.lv, .int .i64 s.lr, .int .i64 s.vv, .int .i64 s.vr, .int .i64 s.polka, .int .i64 s.dec, .slice A2 l.length c2, .slice none 0 0]) := by show Blk _ _ _ _; rw [hw3]; exact heap_alloc_new w2 _
  have HW3 : Hid (Below w.heap.size w w3) := by show Below _ _ _; rw [hw3]; exact HW2.out.alloc HW2.out.size _
  clear hw3
  have hnx : ∀ q, q < w.heap.size + 2 → q ≠ w2.heap.size := fun q hq => by omega
  have HNX := Lib.hid hnx
  clear hnx
  have tb := HB3.out.cell
  have tx := HX3.out.cell
  have txf := HX3.out.frozen
  have tz := HZ3.out.cell
  have tzf := HZ3.out.frozen
  have hltx3 := HX3.out.lt
  have hltz3 := HZ3.out.lt
  have hltb3 := HB3.out.lt
  cases g1 : (s.step == k)
  · have g1' : (s.step != k) = true := by unfold bne; rw [g1]; rfl
    have HE : Hid (timeN s l k = (⟨s, l, []⟩, false)) := by show _ = _; unfold timeN timeBad; rw [hHB.out, g1]; rfl
    go_wp2
    refine bodyPost_ret (v := .tuple #[.agg #[.int .i64 s.me, .int .i64 s.round, .int .i64 s.step, .int .i64 s.lv, .int .i64 s.lr, .int .i64 s.vv, .int .i64 s.vr, .int .i64 s.polka, .int .i64 s.dec, .slice A2 l.length c2], .slice (some ⟨w3.heap.size, 0, none⟩) 0 0, .bool false]) (by simp [results, Try.results69, go_sem, tz, hltz3]) rfl ⟨A2, c2, some ⟨w3.heap.size, 0, none⟩, 0, by rw [HE.out] <;> rfl, ?_, ?_⟩
    · rw [HE.out]
      have hr1 := rows_empty (fillN_rows (g := w.heap.size + 1) (A := A2) (n := l.length) (c := c2) (s := s) (HR3.out.mono (Q := fun q => q < w.heap.size + 2) fun q hq => .inl hq) (by show w.heap.size + 1 < _; omega))
      rw [fillN_size] at hr1
      exact hr1.mono fun q hq => by show q < _; have hq : q < w.heap.size := hq; omega
    · exact Keep.of_below (B := w.heap.size) ((fillN_below (g := w.heap.size + 1) (A := A2) (n := l.length) (c := c2) (s := s) HW3.out (by omega)).alloc (by rw [fillN_size]; exact HW3.out.size) _) fun q hq => hq
  have g1' : (s.step != k) = false := by unfold bne; rw [g1]; rfl
  have hk : s.step = k := beq_iff_eq.1 g1
  have hrr := HP.out.round
  cases g2 : (s.round == -1)
  rotate_left
  · have HE : Hid (timeN s l k = (⟨s, l, []⟩, false)) := by show _ = _; unfold timeN timeBad; rw [hHB.out, g1, g2]; rfl
    have g2' : s.round < 0 := by rw [beq_iff_eq] at g2; omega
    clear hk g2
    go_wp2
    refine bodyPost_ret (v := .tuple #[.agg #[.int .i64 s.me, .int .i64 s.round, .int .i64 s.step, .int .i64 s.lv, .int .i64 s.lr, .int .i64 s.vv, .int .i64 s.vr, .int .i64 s.polka, .int .i64 s.dec, .slice A2 l.length c2], .slice (some ⟨w3.heap.size, 0, none⟩) 0 0, .bool false]) (by simp [results, Try.results69, go_sem, tz, hltz3]) rfl ⟨A2, c2, some ⟨w3.heap.size, 0, none⟩, 0, by rw [HE.out] <;> rfl, ?_, ?_⟩
    · rw [HE.out]
      have hr1 := rows_empty (fillN_rows (g := w.heap.size + 1) (A := A2) (n := l.length) (c := c2) (s := s) (HR3.out.mono (Q := fun q => q < w.heap.size + 2) fun q hq => .inl hq) (by show w.heap.size + 1 < _; omega))
      rw [fillN_size] at hr1
      exact hr1.mono fun q hq => by show q < _; have hq : q < w.heap.size := hq; omega
    · exact Keep.of_below (B := w.heap.size) ((fillN_below (g := w.heap.size + 1) (A := A2) (n := l.length) (c := c2) (s := s) HW3.out (by omega)).alloc (by rw [fillN_size]; exact HW3.out.size) _) fun q hq => hq
  have hr0 : 0 ≤ s.round := by rw [beq_eq_false_iff_ne] at g2; omega
  cases g3 : decide (0 < s.dec)
  rotate_left
  · have HE : Hid (timeN s l k = (⟨s, l, []⟩, false)) := by show _ = _; unfold timeN timeBad; rw [hHB.out, g1, g2, g3]; rfl
    clear hk g2
    go_wp2
    refine bodyPost_ret (v := .tuple #[.agg #[.int .i64 s.me, .int .i64 s.round, .int .i64 s.step, .int .i64 s.lv, .int .i64 s.lr, .int .i64 s.vv, .int .i64 s.vr, .int .i64 s.polka, .int .i64 s.dec, .slice A2 l.length c2], .slice (some ⟨w3.heap.size, 0, none⟩) 0 0, .bool false]) (by simp [results, Try.results69, go_sem, tz, hltz3]) rfl ⟨A2, c2, some ⟨w3.heap.size, 0, none⟩, 0, by rw [HE.out] <;> rfl, ?_, ?_⟩
    · rw [HE.out]
      have hr1 := rows_empty (fillN_rows (g := w.heap.size + 1) (A := A2) (n := l.length) (c := c2) (s := s) (HR3.out.mono (Q := fun q => q < w.heap.size + 2) fun q hq => .inl hq) (by show w.heap.size + 1 < _; omega))
      rw [fillN_size] at hr1
      exact hr1.mono fun q hq => by show q < _; have hq : q < w.heap.size := hq; omega
    · exact Keep.of_below (B := w.heap.size) ((fillN_below (g := w.heap.size + 1) (A := A2) (n := l.length) (c := c2) (s := s) HW3.out (by omega)).alloc (by rw [fillN_size]; exact HW3.out.size) _) fun q hq => hq
  have HST := Lib.hid HP.out.step
  have tail : (k == 3 && s.round == 11) = true ∨ (k == 3 && s.round == 11) = false := by cases (k == 3 && s.round == 11) <;> simp
  rcases tail with g4 | g4
  · have HE : Hid (timeN s l k = (⟨s, l, []⟩, false)) := by show _ = _; unfold timeN timeBad; rw [hHB.out, g1, g2, g3, g4]; rfl
    rw [Bool.and_eq_true] at g4
    obtain ⟨g4, g5⟩ := g4
    have g5' : 11 ≤ s.round := by rw [beq_iff_eq] at g5; omega
    clear hk g2 g5
    go_wp2
    refine bodyPost_ret (v := .tuple #[.agg #[.int .i64 s.me, .int .i64 s.round, .int .i64 s.step, .int .i64 s.lv, .int .i64 s.lr, .int .i64 s.vv, .int .i64 s.vr, .int .i64 s.polka, .int .i64 s.dec, .slice A2 l.length c2], .slice (some ⟨w3.heap.size, 0, none⟩) 0 0, .bool false]) (by simp [results, Try.results69, go_sem, tz, hltz3]) rfl ⟨A2, c2, some ⟨w3.heap.size, 0, none⟩, 0, by rw [HE.out] <;> rfl, ?_, ?_⟩
    · rw [HE.out]
      have hr1 := rows_empty (fillN_rows (g := w.heap.size + 1) (A := A2) (n := l.length) (c := c2) (s := s) (HR3.out.mono (Q := fun q => q < w.heap.size + 2) fun q hq => .inl hq) (by show w.heap.size + 1 < _; omega))
      rw [fillN_size] at hr1
      exact hr1.mono fun q hq => by show q < _; have hq : q < w.heap.size := hq; omega
    · exact Keep.of_below (B := w.heap.size) ((fillN_below (g := w.heap.size + 1) (A := A2) (n := l.length) (c := c2) (s := s) HW3.out (by omega)).alloc (by rw [fillN_size]; exact HW3.out.size) _) fun q hq => hq
  have hbad : timeBad s k = false := by unfold timeBad; rw [g1, g2, g3, g4]; rfl
  have HE : Hid (timeN s l k = (restR (timeR ⟨s, l, []⟩ k), true)) := by show _ = _; unfold timeN; rw [hHB.out, hbad]; rfl
  have HG := Lib.hid g4
  have HOKT := Lib.hid (time_ok HP.out hbad)
  have hk1 : 1 ≤ k ∧ k ≤ 3 := by have := HST.out; omega
  clear hbad g4 hk g2
  rcases (by omega : k = 1 ∨ k = 2 ∨ k = 3) with rfl | rfl | rfl
  · have HS4 := Lib.hid (prevote_ok (x := ⟨s, l, []⟩) (v := 0) HP.out hr0 (by decide))
    have HE' : Hid (timeR ⟨s, l, []⟩ 1 = prevoteR ⟨s, l, []⟩ 0) := rfl
    have hso : (prevoteR ⟨s, l, []⟩ 0).o.length ≤ 1 := by simp [prevoteR, setStep, sendR]
    go_wp2_with fail
    refine (l16Prevote_any (fun q => q < w.heap.size + 2 ∨ q = w2.heap.size) A2 c2 none 0 ⟨s, l, []⟩ 0 _ HR3.out (by show l.length ≤ 1000; omega) (by simp)).mono ?_
    obtain ⟨z, hz⟩ : ∃ z, z = (prevoteR ⟨s, l, []⟩ 0) := ⟨_, rfl⟩
    have HE2 : Hid (timeN s l 1 = (restR z, true)) := by show _ = _; rw [HE.out, HE'.out, hz]
    rw [← hz] at HS4 hso ⊢
    clear hz HE HE'
    have HE := HE2
    rintro e w4 ⟨A4, c4, B4, d4, rfl, hr4, hk4⟩
    have HR4 := Lib.hid hr4
    have HX4 := Lib.hid (hk4.blk (.inr rfl) HX3.out)
    have HZ4 := Lib.hid (hk4.blk (.inl (by show w.heap.size + 1 < _; omega)) HZ3.out)
    have HK4 : Hid (Keep (fun q => q < w.heap.size) w w4) := (Keep.of_below HW3.out fun q hq => hq).trans (hk4.mono fun q hq => .inl (by show q < _; have hq : q < w.heap.size := hq; omega))
    clear hr4 hk4 tb tx txf tz tzf
    unfold runV
    have tx := HX4.out.cell
    have txf := HX4.out.frozen
    go_upto_region 12 with fail
    obtain ⟨w5, hw5⟩ : ∃ q, q = fillR w4 w2.heap.size A4 c4 B4 d4 z := ⟨_, rfl⟩
    have HR5 : Hid (Rows w5 (fun q => q < w.heap.size + 2) A4 c4 B4 d4 z) := by show Rows _ _ _ _ _ _ _; rw [hw5]; exact (fillR_rows HR4.out (.inr rfl)).mono fun q hq => .inl hq
    have HX5 : Hid (Blk w5 w2.heap.size 120 #[.int .i64 z.s.me, .int .i64 z.s.round, .int .i64 z.s.step, .int .i64 z.s.lv, .int .i64 z.s.lr, .int .i64 z.s.vv, .int .i64 z.s.vr, .int .i64 z.s.polka, .int .i64 z.s.dec, .slice A4 z.l.length c4, .slice B4 z.o.length d4]) := by show Blk _ _ _ _; rw [hw5]; exact fillR_blk HX4.out rfl
    have HZ5 : Hid (Blk w5 (w.heap.size + 1) 79 #[.int .i64 0, .int .i64 0, .int .i64 0, .int .i64 0, .int .i64 0, .int .i64 0, .int .i64 0, .int .i64 0, .int .i64 0, .slice none 0 0]) := by show Blk _ _ _ _; rw [hw5]; exact fillR_far HZ4.out (HNX.out _ (by omega))
    have HK5 : Hid (Keep (fun q => q < w.heap.size) w w5) := by show Keep _ _ _; rw [hw5]; exact fillR_keep HK4.out (by show ¬ (w2.heap.size < w.heap.size); have := HW2.out.size; omega)
    unfold fillR at hw5
    rw [← hw5]
    clear hw5 tx txf
    have tx := HX5.out.cell
    go_wp2_with fail
    refine (l16Told_any (fun q => q < w.heap.size + 2) A4 c4 B4 d4 z _ HR5.out HS4.out (by omega)).mono ?_
    obtain ⟨y, hy⟩ : ∃ y, y = restR z := ⟨_, rfl⟩
    have HE9 : Hid (timeN s l 1 = (y, true)) := by show _ = _; rw [HE.out, hy]
    rw [← hy]
    clear hy
    rintro e w9 ⟨A9, c9, B9, d9, rfl, hr9, hk9⟩
    have HR9 := Lib.hid hr9
    have HZ9 := Lib.hid (hk9.blk (by show w.heap.size + 1 < _; omega) HZ5.out)
    have HK9 : Hid (Keep (fun q => q < w.heap.size) w w9) := HK5.out.trans (hk9.mono fun q hq => by show q < _; have hq : q < w.heap.size := hq; omega)
    clear hr9 hk9
    go_upto_region 13 with fail
    obtain ⟨w10, hw10⟩ : ∃ q, q = w9.alloc (.cells #[.int .i64 y.s.me, .int .i64 y.s.round, .int .i64 y.s.step, .int .i64 y.s.lv, .int .i64 y.s.lr, .int .i64 y.s.vv, .int .i64 y.s.vr, .int .i64 y.s.polka, .int .i64 y.s.dec, .slice A9 y.l.length c9] 79) := ⟨_, rfl⟩
    rw [← hw10]
    have HR10 : Hid (Rows w10 (fun q => q < w.heap.size + 2) A9 c9 B9 d9 y) := by show Rows _ _ _ _ _ _ _; rw [hw10]; exact HR9.out.alloc _
    have HE10 : Hid (Blk w10 w9.heap.size 79 #[.int .i64 y.s.me, .int .i64 y.s.round, .int .i64 y.s.step, .int .i64 y.s.lv, .int .i64 y.s.lr, .int .i64 y.s.vv, .int .i64 y.s.vr, .int .i64 y.s.polka, .int .i64 y.s.dec, .slice A9 y.l.length c9]) := by show Blk _ _ _ _; rw [hw10]; exact heap_alloc_new w9 _
    have HZ10 : Hid (Blk w10 (w.heap.size + 1) 79 #[.int .i64 0, .int .i64 0, .int .i64 0, .int .i64 0, .int .i64 0, .int .i64 0, .int .i64 0, .int .i64 0, .int .i64 0, .slice none 0 0]) := by show Blk _ _ _ _; rw [hw10]; exact HZ9.out.alloc _
    have HK10 : Hid (Keep (fun q => q < w.heap.size) w w10) := by show Keep _ _ _; rw [hw10]; exact HK9.out.alloc (fun q hq => by have := HR9.out.lt q (by show q < _; have hq : q < w.heap.size := hq; omega); exact this) _
    clear hw10
    have te := HE10.out.cell
    have tz := HZ10.out.cell
    have tzf := HZ10.out.frozen
    go_wp2_with fail
    refine bodyPost_ret (v := .tuple #[.agg #[.int .i64 y.s.me, .int .i64 y.s.round, .int .i64 y.s.step, .int .i64 y.s.lv, .int .i64 y.s.lr, .int .i64 y.s.vv, .int .i64 y.s.vr, .int .i64 y.s.polka, .int .i64 y.s.dec, .slice A9 y.l.length c9], .slice B9 y.o.length d9, .bool true]) (by simp [results, Try.results69, go_sem, tz]) rfl ⟨A9, c9, B9, d9, by rw [HE9.out] <;> rfl, ?_, ?_⟩
    · rw [HE9.out]
      exact (fillN_rows (g := w.heap.size + 1) (A := A9) (n := y.l.length) (c := c9) (s := y.s) HR10.out (by show w.heap.size + 1 < _; omega)).mono fun q hq => by show q < _; have hq : q < w.heap.size := hq; omega
    · exact fillN_keep (g := w.heap.size + 1) (A := A9) (n := y.l.length) (c := c9) (s := y.s) HK10.out (by show ¬ (w.heap.size + 1 < _); omega)
  · have HS4 := Lib.hid (precommit_ok (x := ⟨s, l, []⟩) (v := 0) HP.out hr0 (by decide))
    have HE' : Hid (timeR ⟨s, l, []⟩ 2 = precommitR ⟨s, l, []⟩ 0) := rfl
    have hso : (precommitR ⟨s, l, []⟩ 0).o.length ≤ 1 := by simp [precommitR, setStep, sendR]
    go_wp2_with fail
    refine (l16Precommit_any (fun q => q < w.heap.size + 2 ∨ q = w2.heap.size) A2 c2 none 0 ⟨s, l, []⟩ 0 _ HR3.out (by show l.length ≤ 1000; omega) (by simp)).mono ?_
    obtain ⟨z, hz⟩ : ∃ z, z = (precommitR ⟨s, l, []⟩ 0) := ⟨_, rfl⟩
    have HE2 : Hid (timeN s l 2 = (restR z, true)) := by show _ = _; rw [HE.out, HE'.out, hz]
    rw [← hz] at HS4 hso ⊢
    clear hz HE HE'
    have HE := HE2
    rintro e w4 ⟨A4, c4, B4, d4, rfl, hr4, hk4⟩
    have HR4 := Lib.hid hr4
    have HX4 := Lib.hid (hk4.blk (.inr rfl) HX3.out)
    have HZ4 := Lib.hid (hk4.blk (.inl (by show w.heap.size + 1 < _; omega)) HZ3.out)
    have HK4 : Hid (Keep (fun q => q < w.heap.size) w w4) := (Keep.of_below HW3.out fun q hq => hq).trans (hk4.mono fun q hq => .inl (by show q < _; have hq : q < w.heap.size := hq; omega))
    clear hr4 hk4 tb tx txf tz tzf
    unfold runV
    have tx := HX4.out.cell
    have txf := HX4.out.frozen
    go_upto_region 12 with fail
    obtain ⟨w5, hw5⟩ : ∃ q, q = fillR w4 w2.heap.size A4 c4 B4 d4 z := ⟨_, rfl⟩
    have HR5 : Hid (Rows w5 (fun q => q < w.heap.size + 2) A4 c4 B4 d4 z) := by show Rows _ _ _ _ _ _ _; rw [hw5]; exact (fillR_rows HR4.out (.inr rfl)).mono fun q hq => .inl hq
    have HX5 : Hid (Blk w5 w2.heap.size 120 #[.int .i64 z.s.me, .int .i64 z.s.round, .int .i64 z.s.step, .int .i64 z.s.lv, .int .i64 z.s.lr, .int .i64 z.s.vv, .int .i64 z.s.vr, .int .i64 z.s.polka, .int .i64 z.s.dec, .slice A4 z.l.length c4, .slice B4 z.o.length d4]) := by show Blk _ _ _ _; rw [hw5]; exact fillR_blk HX4.out rfl
    have HZ5 : Hid (Blk w5 (w.heap.size + 1) 79 #[.int .i64 0, .int .i64 0, .int .i64 0, .int .i64 0, .int .i64 0, .int .i64 0, .int .i64 0, .int .i64 0, .int .i64 0, .slice none 0 0]) := by show Blk _ _ _ _; rw [hw5]; exact fillR_far HZ4.out (HNX.out _ (by omega))
    have HK5 : Hid (Keep (fun q => q < w.heap.size) w w5) := by show Keep _ _ _; rw [hw5]; exact fillR_keep HK4.out (by show ¬ (w2.heap.size < w.heap.size); have := HW2.out.size; omega)
    unfold fillR at hw5
    rw [← hw5]
    clear hw5 tx txf
    have tx := HX5.out.cell
    go_wp2_with fail
    refine (l16Told_any (fun q => q < w.heap.size + 2) A4 c4 B4 d4 z _ HR5.out HS4.out (by omega)).mono ?_
    obtain ⟨y, hy⟩ : ∃ y, y = restR z := ⟨_, rfl⟩
    have HE9 : Hid (timeN s l 2 = (y, true)) := by show _ = _; rw [HE.out, hy]
    rw [← hy]
    clear hy
    rintro e w9 ⟨A9, c9, B9, d9, rfl, hr9, hk9⟩
    have HR9 := Lib.hid hr9
    have HZ9 := Lib.hid (hk9.blk (by show w.heap.size + 1 < _; omega) HZ5.out)
    have HK9 : Hid (Keep (fun q => q < w.heap.size) w w9) := HK5.out.trans (hk9.mono fun q hq => by show q < _; have hq : q < w.heap.size := hq; omega)
    clear hr9 hk9
    go_upto_region 13 with fail
    obtain ⟨w10, hw10⟩ : ∃ q, q = w9.alloc (.cells #[.int .i64 y.s.me, .int .i64 y.s.round, .int .i64 y.s.step, .int .i64 y.s.lv, .int .i64 y.s.lr, .int .i64 y.s.vv, .int .i64 y.s.vr, .int .i64 y.s.polka, .int .i64 y.s.dec, .slice A9 y.l.length c9] 79) := ⟨_, rfl⟩
    rw [← hw10]
    have HR10 : Hid (Rows w10 (fun q => q < w.heap.size + 2) A9 c9 B9 d9 y) := by show Rows _ _ _ _ _ _ _; rw [hw10]; exact HR9.out.alloc _
    have HE10 : Hid (Blk w10 w9.heap.size 79 #[.int .i64 y.s.me, .int .i64 y.s.round, .int .i64 y.s.step, .int .i64 y.s.lv, .int .i64 y.s.lr, .int .i64 y.s.vv, .int .i64 y.s.vr, .int .i64 y.s.polka, .int .i64 y.s.dec, .slice A9 y.l.length c9]) := by show Blk _ _ _ _; rw [hw10]; exact heap_alloc_new w9 _
    have HZ10 : Hid (Blk w10 (w.heap.size + 1) 79 #[.int .i64 0, .int .i64 0, .int .i64 0, .int .i64 0, .int .i64 0, .int .i64 0, .int .i64 0, .int .i64 0, .int .i64 0, .slice none 0 0]) := by show Blk _ _ _ _; rw [hw10]; exact HZ9.out.alloc _
    have HK10 : Hid (Keep (fun q => q < w.heap.size) w w10) := by show Keep _ _ _; rw [hw10]; exact HK9.out.alloc (fun q hq => by have := HR9.out.lt q (by show q < _; have hq : q < w.heap.size := hq; omega); exact this) _
    clear hw10
    have te := HE10.out.cell
    have tz := HZ10.out.cell
    have tzf := HZ10.out.frozen
    go_wp2_with fail
    refine bodyPost_ret (v := .tuple #[.agg #[.int .i64 y.s.me, .int .i64 y.s.round, .int .i64 y.s.step, .int .i64 y.s.lv, .int .i64 y.s.lr, .int .i64 y.s.vv, .int .i64 y.s.vr, .int .i64 y.s.polka, .int .i64 y.s.dec, .slice A9 y.l.length c9], .slice B9 y.o.length d9, .bool true]) (by simp [results, Try.results69, go_sem, tz]) rfl ⟨A9, c9, B9, d9, by rw [HE9.out] <;> rfl, ?_, ?_⟩
    · rw [HE9.out]
      exact (fillN_rows (g := w.heap.size + 1) (A := A9) (n := y.l.length) (c := c9) (s := y.s) HR10.out (by show w.heap.size + 1 < _; omega)).mono fun q hq => by show q < _; have hq : q < w.heap.size := hq; omega
    · exact fillN_keep (g := w.heap.size + 1) (A := A9) (n := y.l.length) (c := c9) (s := y.s) HK10.out (by show ¬ (w.heap.size + 1 < _); omega)
  · have hr11 : s.round < 11 := HOKT.out.2.2.2 rfl
    have g5 : ¬ 11 ≤ s.round := by omega
    have HS4 := Lib.hid (start_ok (x := ⟨s, l, []⟩) (r := s.round + 1) HP.out (by show s.round < s.round + 1; omega) (by omega))
    have HE' : Hid (timeR ⟨s, l, []⟩ 3 = startR ⟨s, l, []⟩ (s.round + 1)) := rfl
    have hso : (startR ⟨s, l, []⟩ (s.round + 1)).o.length ≤ 1 := by have := startR_o ⟨s, l, []⟩ (s.round + 1); simpa using this
    go_wp2_with fail
    refine (l16Begin_any (fun q => q < w.heap.size + 2 ∨ q = w2.heap.size) A2 c2 none 0 ⟨s, l, []⟩ (s.round + 1) _ HR3.out (by show l.length ≤ 1000; omega) (by simp) (by omega) (by omega) HP.out.me HP.out.vr.1).mono ?_
    obtain ⟨z, hz⟩ : ∃ z, z = (startR ⟨s, l, []⟩ (s.round + 1)) := ⟨_, rfl⟩
    have HE2 : Hid (timeN s l 3 = (restR z, true)) := by show _ = _; rw [HE.out, HE'.out, hz]
    rw [← hz] at HS4 hso ⊢
    clear hz HE HE'
    have HE := HE2
    rintro e w4 ⟨A4, c4, B4, d4, rfl, hr4, hk4⟩
    have HR4 := Lib.hid hr4
    have HX4 := Lib.hid (hk4.blk (.inr rfl) HX3.out)
    have HZ4 := Lib.hid (hk4.blk (.inl (by show w.heap.size + 1 < _; omega)) HZ3.out)
    have HK4 : Hid (Keep (fun q => q < w.heap.size) w w4) := (Keep.of_below HW3.out fun q hq => hq).trans (hk4.mono fun q hq => .inl (by show q < _; have hq : q < w.heap.size := hq; omega))
    clear hr4 hk4 tb tx txf tz tzf
    unfold runV
    have tx := HX4.out.cell
    have txf := HX4.out.frozen
    go_upto_region 12 with fail
    obtain ⟨w5, hw5⟩ : ∃ q, q = fillR w4 w2.heap.size A4 c4 B4 d4 z := ⟨_, rfl⟩
    have HR5 : Hid (Rows w5 (fun q => q < w.heap.size + 2) A4 c4 B4 d4 z) := by show Rows _ _ _ _ _ _ _; rw [hw5]; exact (fillR_rows HR4.out (.inr rfl)).mono fun q hq => .inl hq
    have HX5 : Hid (Blk w5 w2.heap.size 120 #[.int .i64 z.s.me, .int .i64 z.s.round, .int .i64 z.s.step, .int .i64 z.s.lv, .int .i64 z.s.lr, .int .i64 z.s.vv, .int .i64 z.s.vr, .int .i64 z.s.polka, .int .i64 z.s.dec, .slice A4 z.l.length c4, .slice B4 z.o.length d4]) := by show Blk _ _ _ _; rw [hw5]; exact fillR_blk HX4.out rfl
    have HZ5 : Hid (Blk w5 (w.heap.size + 1) 79 #[.int .i64 0, .int .i64 0, .int .i64 0, .int .i64 0, .int .i64 0, .int .i64 0, .int .i64 0, .int .i64 0, .int .i64 0, .slice none 0 0]) := by show Blk _ _ _ _; rw [hw5]; exact fillR_far HZ4.out (HNX.out _ (by omega))
    have HK5 : Hid (Keep (fun q => q < w.heap.size) w w5) := by show Keep _ _ _; rw [hw5]; exact fillR_keep HK4.out (by show ¬ (w2.heap.size < w.heap.size); have := HW2.out.size; omega)
    unfold fillR at hw5
    rw [← hw5]
    clear hw5 tx txf
    have tx := HX5.out.cell
    go_wp2_with fail
    refine (l16Told_any (fun q => q < w.heap.size + 2) A4 c4 B4 d4 z _ HR5.out HS4.out (by omega)).mono ?_
    obtain ⟨y, hy⟩ : ∃ y, y = restR z := ⟨_, rfl⟩
    have HE9 : Hid (timeN s l 3 = (y, true)) := by show _ = _; rw [HE.out, hy]
    rw [← hy]
    clear hy
    rintro e w9 ⟨A9, c9, B9, d9, rfl, hr9, hk9⟩
    have HR9 := Lib.hid hr9
    have HZ9 := Lib.hid (hk9.blk (by show w.heap.size + 1 < _; omega) HZ5.out)
    have HK9 : Hid (Keep (fun q => q < w.heap.size) w w9) := HK5.out.trans (hk9.mono fun q hq => by show q < _; have hq : q < w.heap.size := hq; omega)
    clear hr9 hk9
    go_upto_region 13 with fail
    obtain ⟨w10, hw10⟩ : ∃ q, q = w9.alloc (.cells #[.int .i64 y.s.me, .int .i64 y.s.round, .int .i64 y.s.step, .int .i64 y.s.lv, .int .i64 y.s.lr, .int .i64 y.s.vv, .int .i64 y.s.vr, .int .i64 y.s.polka, .int .i64 y.s.dec, .slice A9 y.l.length c9] 79) := ⟨_, rfl⟩
    rw [← hw10]
    have HR10 : Hid (Rows w10 (fun q => q < w.heap.size + 2) A9 c9 B9 d9 y) := by show Rows _ _ _ _ _ _ _; rw [hw10]; exact HR9.out.alloc _
    have HE10 : Hid (Blk w10 w9.heap.size 79 #[.int .i64 y.s.me, .int .i64 y.s.round, .int .i64 y.s.step, .int .i64 y.s.lv, .int .i64 y.s.lr, .int .i64 y.s.vv, .int .i64 y.s.vr, .int .i64 y.s.polka, .int .i64 y.s.dec, .slice A9 y.l.length c9]) := by show Blk _ _ _ _; rw [hw10]; exact heap_alloc_new w9 _
    have HZ10 : Hid (Blk w10 (w.heap.size + 1) 79 #[.int .i64 0, .int .i64 0, .int .i64 0, .int .i64 0, .int .i64 0, .int .i64 0, .int .i64 0, .int .i64 0, .int .i64 0, .slice none 0 0]) := by show Blk _ _ _ _; rw [hw10]; exact HZ9.out.alloc _
    have HK10 : Hid (Keep (fun q => q < w.heap.size) w w10) := by show Keep _ _ _; rw [hw10]; exact HK9.out.alloc (fun q hq => by have := HR9.out.lt q (by show q < _; have hq : q < w.heap.size := hq; omega); exact this) _
    clear hw10
    have te := HE10.out.cell
    have tz := HZ10.out.cell
    have tzf := HZ10.out.frozen
    go_wp2_with fail
    refine bodyPost_ret (v := .tuple #[.agg #[.int .i64 y.s.me, .int .i64 y.s.round, .int .i64 y.s.step, .int .i64 y.s.lv, .int .i64 y.s.lr, .int .i64 y.s.vv, .int .i64 y.s.vr, .int .i64 y.s.polka, .int .i64 y.s.dec, .slice A9 y.l.length c9], .slice B9 y.o.length d9, .bool true]) (by simp [results, Try.results69, go_sem, tz]) rfl ⟨A9, c9, B9, d9, by rw [HE9.out] <;> rfl, ?_, ?_⟩
    · rw [HE9.out]
      exact (fillN_rows (g := w.heap.size + 1) (A := A9) (n := y.l.length) (c := c9) (s := y.s) HR10.out (by show w.heap.size + 1 < _; omega)).mono fun q hq => by show q < _; have hq : q < w.heap.size := hq; omega
    · exact fillN_keep (g := w.heap.size + 1) (A := A9) (n := y.l.length) (c := c9) (s := y.s) HK10.out (by show ¬ (w.heap.size + 1 < _); omega)
end Go.Proofs.Ytjgaelnonacdkaa
