/- FnNode: a node sends one message of each kind a round; it keeps to its lock and never changes its decision. No conditions. (written by wip/fnode.py) -/
import Derived.Test.YtmpppmeloieamaaDrawNode5
import Derived.Test.YtmpppmeloieamaaActCalls
import Derived.Test.YtmpppmeloieamaaCount2
import Derived.Test.YtmpppmeloieamaaFnL
namespace Go.Proofs.Ytmpppmeloieamaa
open Go.ChangeShapes Go.WideShapes Go.ChangeAt Go.RowKit Go.Joins

theorem Chg.under {lo hi B : Nat} {a b : World} (h : Chg lo hi a b) (hB : B ≤ lo ∨ hi ≤ lo) (hs : B ≤ a.heap.size) : Below B a b :=
  ⟨h.os, h.tape, h.output, h.size, fun k hk => h.block k (by omega) (by omega)⟩
set_option maxHeartbeats 1000000 in
theorem sameMsgs_same (A : Option Addr) (n c : Nat) (A' : Option Addr) (c' : Nat) (l : List NMsgD) (w : World) (hl : RdL msgC 5 w w.heap.size A n c l) (hl' : RdL msgC 5 w w.heap.size A' n c' l) :
    Calls Try.prog 24 #[.slice A n c, .slice A' n c'] w fun e w' => e = .returned (.bool true) ∧ Below w.heap.size w w' := by
  have hn := hl.le
  have HL := Lib.hid hl
  have HL' := Lib.hid hl'
  clear hl hl'
  go_enter Try.func24, Try.ntmps24
  go_wp2_with fail
  go_loopw [5] (fun i wr => ∃ k : Nat, k ≤ n ∧ i = .int .i64 k ∧ Below w.heap.size w wr) (fun i _ => n - (intOf i).toNat)
  case atStart => exact ⟨0, by omega, rfl, Below.refl _ _⟩
  case round =>
    obtain ⟨k, hk, rfl, hb⟩ := hrel
    have hz := hb.size
    by_cases hkn : k < n
    · obtain ⟨b, off, p, rfl, hb1, hp, c0, c1, c2, c3, c4⟩ := msg_cells (HL.out.below hb (Nat.le_refl _)) hkn
      obtain ⟨b', off', p', rfl, hb1', hp', d0, d1, d2, d3, d4⟩ := msg_cells (HL'.out.below hb (Nat.le_refl _)) hkn
      obtain rfl : p = p' := by rw [hp] at hp'; injection hp'
      clear hp hp'
      have hlt : b < wr.heap.size := by omega
      have hlt' : b' < wr.heap.size := by omega
      go_wp2_with fail
      refine wp_region_below (by kernel_rfl) (by kernel_rfl) ?_
      repeat (first | go_big_quiet_skip | (go_big_quiet_want; go_big_quiet_op; first | go_big_quiet_on | (apply Exists.intro; refine ⟨fun w1 hC => ?_, ?_⟩; (focus (first | rfl | fail | (simp [(bcell hC).1, hlt, hlt', c0, c1, c2, c3, c4, d0, d1, d2, d3, d4]; done) | (simp [(bcell hC).1, hlt, hlt', c0, c1, c2, c3, c4, d0, d1, d2, d3, d4]; rfl))); go_big_quiet_on)))
      refine wpQuiet_nil ?_
      intro w2 hb2
      obtain ⟨hc2, hf2, hz2⟩ := bcell hb2
      go_wp2
      go_roundw
      case rel => exact ⟨k + 1, by omega, by go_num, hb.trans (hb2.mono hz)⟩
      case measure => simp [intOf]; omega
    · obtain rfl : k = n := by omega
      go_wp2
      go_ret
      exact ⟨rfl, hb⟩
theorem sNodeOk_b (s : NodeS) (A : Option Addr) (n c : Nat) (l : List NMsgD) (b : Bool) (w : World) (hl : RdL msgC 5 w w.heap.size A n c l) (hb : nodeB s l = b) :
    Calls Try.prog 25 #[.agg #[.int .i64 s.me, .int .i64 s.round, .int .i64 s.step, .int .i64 s.lv, .int .i64 s.lr, .int .i64 s.vv, .int .i64 s.vr, .int .i64 s.polka, .int .i64 s.dec, .slice A n c]] w fun e w' => e = .returned (.bool b) ∧ Below w.heap.size w w' := by
  have h := sNodeOk_any s A n c l w hl
  rw [hb] at h
  exact h

set_option maxRecDepth 100000 in
set_option maxHeartbeats 8000000 in
theorem FnNode_walk (A : Option Addr) (n c : Nat) (l : List UInt8) (w : World) (hl : RdL octC 1 w w.heap.size A n c l) :
    Calls Try.prog 6 #[.slice A n c] w fun e w' => e = .returned (.bool true) ∧ Below w.heap.size w w' := by
  have HL := Lib.hid hl
  clear hl
  by_cases hn : (1048576 : Int) < n
  · have hnb : decide ((1048576 : Int) < n) = true := decide_eq_true hn
    go_enter Try.func6, Try.ntmps6
    go_wp2_with (go_at_call 22; (with_reducible refine (big_any A n c _).mono ?_); rintro e w' ⟨rfl, rfl⟩)
    go_ret
    exact ⟨rfl, Below.refl _ _⟩
  have hnb : decide ((1048576 : Int) < n) = false := decide_eq_false hn
  go_enter Try.func6, Try.ntmps6
  go_wp2_with (go_at_call 22; (with_reducible refine (big_any A n c _).mono ?_); rintro e w' ⟨rfl, rfl⟩)
  clear hnb
  refine (DrawNodeGet_any A n c l _ HL.out (by omega)).mono ?_
  rintro e w1 ⟨s, ln, B, d, m, rfl, ho, hll, hb⟩
  have B0 : Hid (Below w.heap.size w w) := Lib.hid (Below.refl _ _)
  have C : Chg 0 0 w w1 := Chg.of_below hb
  have HO := Lib.hid ho
  clear ho hb
  have hs1 := C.size
  have B1 : Hid (Below w.heap.size w w1) := Lib.hid (B0.out.trans (C.under (B := w.heap.size) (by omega) (by omega)))
  clear B0
  clear C
  have On1 := HO
  clear HO
  obtain ⟨y, k, hr⟩ : ∃ y k, getN s ln m = (y, k) := ⟨_, _, rfl⟩
  have HR := Lib.hid hr
  obtain ⟨hyl, hyo⟩ := getN_len s ln m
  rw [hr] at hyl hyo
  dsimp only at hyl hyo
  clear hr
  go_upto_region 4 with fail
  obtain ⟨w1b, hnw1b⟩ : ∃ q, q = w1.alloc (.cells #[.int .i64 s.me, .int .i64 s.round, .int .i64 s.step, .int .i64 s.lv, .int .i64 s.lr, .int .i64 s.vv, .int .i64 s.vr, .int .i64 s.polka, .int .i64 s.dec, .slice B ln.length d] 28) := ⟨_, rfl⟩
  rw [← hnw1b]
  have C : Chg 0 0 w1 w1b := by rw [hnw1b]; exact (Chg.refl _ _ _).alloc _
  have hzw1b : w1b.heap.size = w1.heap.size + 1 := by rw [hnw1b]; simp
  have yn : ∀ o, w1b.cell? ⟨w1.heap.size, o, none⟩ = (#[.int .i64 s.me, .int .i64 s.round, .int .i64 s.step, .int .i64 s.lv, .int .i64 s.lr, .int .i64 s.vv, .int .i64 s.vr, .int .i64 s.polka, .int .i64 s.dec, .slice B ln.length d] : Array Value)[o]? := fun o => by rw [hnw1b]; exact Blk.cell (show Blk (w1.alloc (.cells #[.int .i64 s.me, .int .i64 s.round, .int .i64 s.step, .int .i64 s.lv, .int .i64 s.lr, .int .i64 s.vv, .int .i64 s.vr, .int .i64 s.polka, .int .i64 s.dec, .slice B ln.length d] 28)) w1.heap.size 28 #[.int .i64 s.me, .int .i64 s.round, .int .i64 s.step, .int .i64 s.lv, .int .i64 s.lr, .int .i64 s.vv, .int .i64 s.vr, .int .i64 s.polka, .int .i64 s.dec, .slice B ln.length d] from heap_alloc_new w1 _) o
  clear hnw1b
  have huw1b : w1.heap.size + 1 ≤ w1b.heap.size := Nat.le_of_eq hzw1b.symm
  have hvw1b : w1b.heap.size ≤ w1.heap.size + 1 := Nat.le_of_eq hzw1b
  clear hzw1b
  have hs2 := C.size
  have B2 : Hid (Below w.heap.size w w1b) := Lib.hid (B1.out.trans (C.under (B := w.heap.size) (by omega) (by omega)))
  clear B1
  have On2 := Lib.hid (On1.out.chg C (by omega))
  clear On1
  have Yn := yn
  clear yn C
  have yn2 := Yn
  clear Yn
  obtain ⟨w1bb, hnw1bb⟩ : ∃ q, q = w1b.alloc (.cells #[.int .i64 m.k, .int .i64 m.r, .int .i64 m.v, .int .i64 m.p, .int .i64 m.f] 40) := ⟨_, rfl⟩
  rw [← hnw1bb]
  have C : Chg 0 0 w1b w1bb := by rw [hnw1bb]; exact (Chg.refl _ _ _).alloc _
  have hzw1bb : w1bb.heap.size = w1b.heap.size + 1 := by rw [hnw1bb]; simp
  have yn : ∀ o, w1bb.cell? ⟨w1b.heap.size, o, none⟩ = (#[.int .i64 m.k, .int .i64 m.r, .int .i64 m.v, .int .i64 m.p, .int .i64 m.f] : Array Value)[o]? := fun o => by rw [hnw1bb]; exact Blk.cell (show Blk (w1b.alloc (.cells #[.int .i64 m.k, .int .i64 m.r, .int .i64 m.v, .int .i64 m.p, .int .i64 m.f] 40)) w1b.heap.size 40 #[.int .i64 m.k, .int .i64 m.r, .int .i64 m.v, .int .i64 m.p, .int .i64 m.f] from heap_alloc_new w1b _) o
  rw [show w1b.heap.size = w1.heap.size + 1 by omega] at yn
  clear hnw1bb
  have huw1bb : w1b.heap.size + 1 ≤ w1bb.heap.size := Nat.le_of_eq hzw1bb.symm
  have hvw1bb : w1bb.heap.size ≤ w1b.heap.size + 1 := Nat.le_of_eq hzw1bb
  clear hzw1bb
  have hs3 := C.size
  have B3 : Hid (Below w.heap.size w w1bb) := Lib.hid (B2.out.trans (C.under (B := w.heap.size) (by omega) (by omega)))
  clear B2
  have yn3 : ∀ o, w1bb.cell? ⟨w1.heap.size, o, none⟩ = _ := fun o => (C.cell (k := w1.heap.size) (by omega) (by omega)).trans (yn2 o)
  clear yn2
  have On3 := Lib.hid (On2.out.chg C (by omega))
  clear On2
  have Ym := yn
  clear yn C
  have ym3 := Ym
  clear Ym
  go_wp2_with fail
  refine (NodeGet_any s B d ln m _ ((On3.out.rd msgC_len).more (by omega))).mono ?_
  rintro e w2 ⟨A2, c2, D2, d2, he, hr, hk⟩
  have C : Chg 0 0 w1bb w2 := by exact Chg.of_below (hk.below fun q h => h)
  rw [HR.out] at he hr
  dsimp only at he hr
  subst he
  have P1 := Lib.hid (hr.msgs hk.size)
  have P2 := Lib.hid (hr.sent hk.size)
  clear hr hk
  have hs4 := C.size
  have B4 : Hid (Below w.heap.size w w2) := Lib.hid (B3.out.trans (C.under (B := w.heap.size) (by omega) (by omega)))
  clear B3
  have yn4 : ∀ o, w2.cell? ⟨w1.heap.size, o, none⟩ = _ := fun o => (C.cell (k := w1.heap.size) (by omega) (by omega)).trans (yn3 o)
  clear yn3
  have ym4 : ∀ o, w2.cell? ⟨w1.heap.size + 1, o, none⟩ = _ := fun o => (C.cell (k := w1.heap.size + 1) (by omega) (by omega)).trans (ym3 o)
  clear ym3
  have On4 := Lib.hid (On3.out.chg C (by omega))
  clear On3
  clear C
  have O2l4 := P1
  have O2o4 := P2
  clear P1 P2
  go_upto_region 5 with fail
  obtain ⟨w2b, hnw2b⟩ : ∃ q, q = w2.alloc (.cells #[.int .i64 y.s.me, .int .i64 y.s.round, .int .i64 y.s.step, .int .i64 y.s.lv, .int .i64 y.s.lr, .int .i64 y.s.vv, .int .i64 y.s.vr, .int .i64 y.s.polka, .int .i64 y.s.dec, .slice A2 y.l.length c2] 28) := ⟨_, rfl⟩
  rw [← hnw2b]
  have C : Chg 0 0 w2 w2b := by rw [hnw2b]; exact (Chg.refl _ _ _).alloc _
  have hzw2b : w2b.heap.size = w2.heap.size + 1 := by rw [hnw2b]; simp
  have yn : ∀ o, w2b.cell? ⟨w2.heap.size, o, none⟩ = (#[.int .i64 y.s.me, .int .i64 y.s.round, .int .i64 y.s.step, .int .i64 y.s.lv, .int .i64 y.s.lr, .int .i64 y.s.vv, .int .i64 y.s.vr, .int .i64 y.s.polka, .int .i64 y.s.dec, .slice A2 y.l.length c2] : Array Value)[o]? := fun o => by rw [hnw2b]; exact Blk.cell (show Blk (w2.alloc (.cells #[.int .i64 y.s.me, .int .i64 y.s.round, .int .i64 y.s.step, .int .i64 y.s.lv, .int .i64 y.s.lr, .int .i64 y.s.vv, .int .i64 y.s.vr, .int .i64 y.s.polka, .int .i64 y.s.dec, .slice A2 y.l.length c2] 28)) w2.heap.size 28 #[.int .i64 y.s.me, .int .i64 y.s.round, .int .i64 y.s.step, .int .i64 y.s.lv, .int .i64 y.s.lr, .int .i64 y.s.vv, .int .i64 y.s.vr, .int .i64 y.s.polka, .int .i64 y.s.dec, .slice A2 y.l.length c2] from heap_alloc_new w2 _) o
  clear hnw2b
  have huw2b : w2.heap.size + 1 ≤ w2b.heap.size := Nat.le_of_eq hzw2b.symm
  have hvw2b : w2b.heap.size ≤ w2.heap.size + 1 := Nat.le_of_eq hzw2b
  clear hzw2b
  have hs5 := C.size
  have B5 : Hid (Below w.heap.size w w2b) := Lib.hid (B4.out.trans (C.under (B := w.heap.size) (by omega) (by omega)))
  clear B4
  have yn5 : ∀ o, w2b.cell? ⟨w1.heap.size, o, none⟩ = _ := fun o => (C.cell (k := w1.heap.size) (by omega) (by omega)).trans (yn4 o)
  clear yn4
  have ym5 : ∀ o, w2b.cell? ⟨w1.heap.size + 1, o, none⟩ = _ := fun o => (C.cell (k := w1.heap.size + 1) (by omega) (by omega)).trans (ym4 o)
  clear ym4
  have On5 := Lib.hid (On4.out.chg C (by omega))
  clear On4
  have O2l5 := Lib.hid (O2l4.out.chg C (by omega))
  clear O2l4
  have O2o5 := Lib.hid (O2o4.out.chg C (by omega))
  clear O2o4
  have Yx := yn
  clear yn C
  have yx5 := Yx
  clear Yx
  go_wp2_with fail
  refine (sNodeGet_any s B d ln m _ ((On5.out.rd msgC_len).more (by omega))).mono ?_
  rintro e w3 ⟨A3, c3, D3, d3, he, hr, hk⟩
  have C : Chg 0 0 w2b w3 := by exact Chg.of_below (hk.below fun q h => h)
  rw [HR.out] at he hr
  dsimp only at he hr
  subst he
  have P1 := Lib.hid (hr.msgs hk.size)
  have P2 := Lib.hid (hr.sent hk.size)
  clear hr hk
  have hs6 := C.size
  have B6 : Hid (Below w.heap.size w w3) := Lib.hid (B5.out.trans (C.under (B := w.heap.size) (by omega) (by omega)))
  clear B5
  have yn6 : ∀ o, w3.cell? ⟨w1.heap.size, o, none⟩ = _ := fun o => (C.cell (k := w1.heap.size) (by omega) (by omega)).trans (yn5 o)
  clear yn5
  have ym6 : ∀ o, w3.cell? ⟨w1.heap.size + 1, o, none⟩ = _ := fun o => (C.cell (k := w1.heap.size + 1) (by omega) (by omega)).trans (ym5 o)
  clear ym5
  have yx6 : ∀ o, w3.cell? ⟨w2.heap.size, o, none⟩ = _ := fun o => (C.cell (k := w2.heap.size) (by omega) (by omega)).trans (yx5 o)
  clear yx5
  have On6 := Lib.hid (On5.out.chg C (by omega))
  clear On5
  have O2l6 := Lib.hid (O2l5.out.chg C (by omega))
  clear O2l5
  have O2o6 := Lib.hid (O2o5.out.chg C (by omega))
  clear O2o5
  clear C
  have O3l6 := P1
  have O3o6 := P2
  clear P1 P2
  go_upto_region 6 with fail
  obtain ⟨w3b, hnw3b⟩ : ∃ q, q = w3.alloc (.cells #[.int .i64 y.s.me, .int .i64 y.s.round, .int .i64 y.s.step, .int .i64 y.s.lv, .int .i64 y.s.lr, .int .i64 y.s.vv, .int .i64 y.s.vr, .int .i64 y.s.polka, .int .i64 y.s.dec, .slice A3 y.l.length c3] 28) := ⟨_, rfl⟩
  rw [← hnw3b]
  have C : Chg 0 0 w3 w3b := by rw [hnw3b]; exact (Chg.refl _ _ _).alloc _
  have hzw3b : w3b.heap.size = w3.heap.size + 1 := by rw [hnw3b]; simp
  have yn : ∀ o, w3b.cell? ⟨w3.heap.size, o, none⟩ = (#[.int .i64 y.s.me, .int .i64 y.s.round, .int .i64 y.s.step, .int .i64 y.s.lv, .int .i64 y.s.lr, .int .i64 y.s.vv, .int .i64 y.s.vr, .int .i64 y.s.polka, .int .i64 y.s.dec, .slice A3 y.l.length c3] : Array Value)[o]? := fun o => by rw [hnw3b]; exact Blk.cell (show Blk (w3.alloc (.cells #[.int .i64 y.s.me, .int .i64 y.s.round, .int .i64 y.s.step, .int .i64 y.s.lv, .int .i64 y.s.lr, .int .i64 y.s.vv, .int .i64 y.s.vr, .int .i64 y.s.polka, .int .i64 y.s.dec, .slice A3 y.l.length c3] 28)) w3.heap.size 28 #[.int .i64 y.s.me, .int .i64 y.s.round, .int .i64 y.s.step, .int .i64 y.s.lv, .int .i64 y.s.lr, .int .i64 y.s.vv, .int .i64 y.s.vr, .int .i64 y.s.polka, .int .i64 y.s.dec, .slice A3 y.l.length c3] from heap_alloc_new w3 _) o
  clear hnw3b
  have huw3b : w3.heap.size + 1 ≤ w3b.heap.size := Nat.le_of_eq hzw3b.symm
  have hvw3b : w3b.heap.size ≤ w3.heap.size + 1 := Nat.le_of_eq hzw3b
  clear hzw3b
  have hs7 := C.size
  have B7 : Hid (Below w.heap.size w w3b) := Lib.hid (B6.out.trans (C.under (B := w.heap.size) (by omega) (by omega)))
  clear B6
  have yn7 : ∀ o, w3b.cell? ⟨w1.heap.size, o, none⟩ = _ := fun o => (C.cell (k := w1.heap.size) (by omega) (by omega)).trans (yn6 o)
  clear yn6
  have ym7 : ∀ o, w3b.cell? ⟨w1.heap.size + 1, o, none⟩ = _ := fun o => (C.cell (k := w1.heap.size + 1) (by omega) (by omega)).trans (ym6 o)
  clear ym6
  have yx7 : ∀ o, w3b.cell? ⟨w2.heap.size, o, none⟩ = _ := fun o => (C.cell (k := w2.heap.size) (by omega) (by omega)).trans (yx6 o)
  clear yx6
  have On7 := Lib.hid (On6.out.chg C (by omega))
  clear On6
  have O2l7 := Lib.hid (O2l6.out.chg C (by omega))
  clear O2l6
  have O2o7 := Lib.hid (O2o6.out.chg C (by omega))
  clear O2o6
  have O3l7 := Lib.hid (O3l6.out.chg C (by omega))
  clear O3l6
  have O3o7 := Lib.hid (O3o6.out.chg C (by omega))
  clear O3o6
  have Yz := yn
  clear yn C
  have yz7 := Yz
  clear Yz
  go_wp2_with fail
  refine (sameMsgs_same D2 y.o.length d2 D3 d3 y.o _ ((O2o7.out.rd msgC_len).more (by omega)) ((O3o7.out.rd msgC_len).more (by omega))).mono ?_
  rintro e w4 ⟨rfl, hb⟩
  have C : Chg 0 0 w3b w4 := by exact Chg.of_below hb
  clear hb
  have hs8 := C.size
  have B8 : Hid (Below w.heap.size w w4) := Lib.hid (B7.out.trans (C.under (B := w.heap.size) (by omega) (by omega)))
  clear B7
  have yn8 : ∀ o, w4.cell? ⟨w1.heap.size, o, none⟩ = _ := fun o => (C.cell (k := w1.heap.size) (by omega) (by omega)).trans (yn7 o)
  clear yn7
  have ym8 : ∀ o, w4.cell? ⟨w1.heap.size + 1, o, none⟩ = _ := fun o => (C.cell (k := w1.heap.size + 1) (by omega) (by omega)).trans (ym7 o)
  clear ym7
  have yx8 : ∀ o, w4.cell? ⟨w2.heap.size, o, none⟩ = _ := fun o => (C.cell (k := w2.heap.size) (by omega) (by omega)).trans (yx7 o)
  clear yx7
  have yz8 : ∀ o, w4.cell? ⟨w3.heap.size, o, none⟩ = _ := fun o => (C.cell (k := w3.heap.size) (by omega) (by omega)).trans (yz7 o)
  clear yz7
  have On8 := Lib.hid (On7.out.chg C (by omega))
  clear On7
  have O2l8 := Lib.hid (O2l7.out.chg C (by omega))
  clear O2l7
  have O2o8 := Lib.hid (O2o7.out.chg C (by omega))
  clear O2o7
  have O3l8 := Lib.hid (O3l7.out.chg C (by omega))
  clear O3l7
  have O3o8 := Lib.hid (O3o7.out.chg C (by omega))
  clear O3o7
  clear C
  clear ym8
  clear O3l8
  clear O3o8
  cases hd : nodeB s ln
  · have e0 : (y, k) = (⟨zeroNS, [], []⟩, false) := by rw [← HR.out]; unfold getN; rw [hd]; rfl
    have hme : y.s.me = 0 := by rw [show y = ⟨zeroNS, [], []⟩ from congrArg Prod.fst e0]; rfl
    have hyz : y.o.length = 0 := by rw [show y = ⟨zeroNS, [], []⟩ from congrArg Prod.fst e0]; rfl
    have HD := Lib.hid hd
    have HME := Lib.hid hme
    have HYZ := Lib.hid hyz
    clear hd e0 hme hyz
    go_wp2_with fail
    refine (sNodeOk_b s B ln.length d ln false _ ((On8.out.rd msgC_len).more (by omega)) HD.out).mono ?_
    rintro e w5 ⟨rfl, hb⟩
    have hs6 := hb.size
    have B6 : Hid (Below w.heap.size w w5) := Lib.hid (B8.out.trans (hb.mono (by omega)))
    have yx6 : ∀ o, w5.cell? ⟨w2.heap.size, o, none⟩ = _ := fun o => (hb.cell (p := ⟨w2.heap.size, o, none⟩) (by show w2.heap.size < w4.heap.size; omega)).trans (yx8 o)
    clear hb
    rw [HME.out] at yx6
    have HYZ2 := HYZ.out
    go_wp2_with fail
    go_ret
    exact ⟨rfl, B6.out⟩
  have hq0 := get_q (m := m) ((nodeB_iff s ln).1 hd)
  rw [HR.out] at hq0
  obtain ⟨hq, _⟩ := hq0
  have hrd : s.round ≤ y.s.round := hq.round
  have hlr : s.lr ≤ y.s.lr := hq.lr
  have HQ := Lib.hid hq
  have HDY : Hid (nodeB y.s y.l = true) := Lib.hid ((nodeB_iff _ _).2 hq.node)
  have HD := Lib.hid hd
  clear hd hq
  go_wp2_with fail
  refine (sNodeOk_b s B ln.length d ln true _ ((On8.out.rd msgC_len).more (by omega)) HD.out).mono ?_
  rintro e w5 ⟨rfl, hb⟩
  have C : Chg 0 0 w4 w5 := Chg.of_below hb
  clear hb
  have hs9 := C.size
  have B9 : Hid (Below w.heap.size w w5) := Lib.hid (B8.out.trans (C.under (B := w.heap.size) (by omega) (by omega)))
  clear B8
  have yn9 : ∀ o, w5.cell? ⟨w1.heap.size, o, none⟩ = _ := fun o => (C.cell (k := w1.heap.size) (by omega) (by omega)).trans (yn8 o)
  clear yn8
  have yx9 : ∀ o, w5.cell? ⟨w2.heap.size, o, none⟩ = _ := fun o => (C.cell (k := w2.heap.size) (by omega) (by omega)).trans (yx8 o)
  clear yx8
  have yz9 : ∀ o, w5.cell? ⟨w3.heap.size, o, none⟩ = _ := fun o => (C.cell (k := w3.heap.size) (by omega) (by omega)).trans (yz8 o)
  clear yz8
  have On9 := Lib.hid (On8.out.chg C (by omega))
  clear On8
  have O2l9 := Lib.hid (O2l8.out.chg C (by omega))
  clear O2l8
  have O2o9 := Lib.hid (O2o8.out.chg C (by omega))
  clear O2o8
  clear C
  go_upto_region 10 with fail
  go_cut [104] (fun sx wx => sx = .bool false ∧ Below w5.heap.size w5 wx)
  case first =>
    by_cases hdec : 0 < s.dec
    · have hde := Lib.hid (HQ.out.dec hdec)
      go_wp2_with fail
      refine (sNodeOk_b y.s A2 y.l.length c2 y.l true _ ((O2l9.out.rd msgC_len).more (by omega)) HDY.out).mono ?_
      rintro e w6 ⟨rfl, hb⟩
      have hs7 := hb.size
      have yx7 : ∀ o, w6.cell? ⟨w2.heap.size, o, none⟩ = _ := fun o => (hb.cell (p := ⟨w2.heap.size, o, none⟩) (by show w2.heap.size < w5.heap.size; omega)).trans (yx9 o)
      have yn7 : ∀ o, w6.cell? ⟨w1.heap.size, o, none⟩ = _ := fun o => (hb.cell (p := ⟨w1.heap.size, o, none⟩) (by show w1.heap.size < w5.heap.size; omega)).trans (yn9 o)
      clear yx9 yn9
      rw [hde.out] at yx7
      go_wp2_with fail
      go_meet
      exact ⟨by rw [decide_eq_false (show ¬ y.s.round < s.round by omega), decide_eq_false (show ¬ y.s.lr < s.lr by omega)]; rfl, hb⟩
    · have hdec2 : s.dec ≤ 0 := by omega
      clear hdec
      go_wp2_with fail
      refine (sNodeOk_b y.s A2 y.l.length c2 y.l true _ ((O2l9.out.rd msgC_len).more (by omega)) HDY.out).mono ?_
      rintro e w6 ⟨rfl, hb⟩
      have hs7 := hb.size
      have yx7 : ∀ o, w6.cell? ⟨w2.heap.size, o, none⟩ = _ := fun o => (hb.cell (p := ⟨w2.heap.size, o, none⟩) (by show w2.heap.size < w5.heap.size; omega)).trans (yx9 o)
      have yn7 : ∀ o, w6.cell? ⟨w1.heap.size, o, none⟩ = _ := fun o => (hb.cell (p := ⟨w1.heap.size, o, none⟩) (by show w1.heap.size < w5.heap.size; omega)).trans (yn9 o)
      clear yx9 yn9
      go_wp2_with fail
      go_meet
      exact ⟨by rw [decide_eq_false (show ¬ y.s.round < s.round by omega), decide_eq_false (show ¬ y.s.lr < s.lr by omega)]; rfl, hb⟩
  case rest =>
  obtain ⟨rfl, hb⟩ := hcut
  obtain ⟨w6, hw6⟩ : ∃ q, q = wc := ⟨_, rfl⟩
  subst hw6
  have C : Chg 0 0 w5 w6 := Chg.of_below hb
  clear hb
  have hs10 := C.size
  have B10 : Hid (Below w.heap.size w w6) := Lib.hid (B9.out.trans (C.under (B := w.heap.size) (by omega) (by omega)))
  clear B9
  have yn10 : ∀ o, w6.cell? ⟨w1.heap.size, o, none⟩ = _ := fun o => (C.cell (k := w1.heap.size) (by omega) (by omega)).trans (yn9 o)
  clear yn9
  have yx10 : ∀ o, w6.cell? ⟨w2.heap.size, o, none⟩ = _ := fun o => (C.cell (k := w2.heap.size) (by omega) (by omega)).trans (yx9 o)
  clear yx9
  have yz10 : ∀ o, w6.cell? ⟨w3.heap.size, o, none⟩ = _ := fun o => (C.cell (k := w3.heap.size) (by omega) (by omega)).trans (yz9 o)
  clear yz9
  have On10 := Lib.hid (On9.out.chg C (by omega))
  clear On9
  have O2l10 := Lib.hid (O2l9.out.chg C (by omega))
  clear O2l9
  have O2o10 := Lib.hid (O2o9.out.chg C (by omega))
  clear O2o9
  clear C
  clear yx10
  clear yz10
  clear O2l10
  go_wp2_with fail
  go_loopw [11] (fun i wr => ∃ k : Nat, k ≤ y.o.length ∧ i = .int .i64 k ∧ Below w6.heap.size w6 wr) (fun i _ => y.o.length - (intOf i).toNat)
  case atStart => exact ⟨0, by omega, rfl, Below.refl _ _⟩
  case round =>
    obtain ⟨k1, hk, rfl, hb⟩ := hrel
    obtain ⟨wo, rfl⟩ : ∃ wo : World, wo = wr := ⟨_, rfl⟩
    by_cases hkn : k1 < y.o.length
    · have hz1 := hb.size
      have HB := Lib.hid hb
      have yn : ∀ o, wo.cell? ⟨w1.heap.size, o, none⟩ = _ := fun o => (hb.cell (p := ⟨w1.heap.size, o, none⟩) (by show w1.heap.size < w6.heap.size; omega)).trans (yn10 o)
      have hn0 : w1.heap.size < wo.heap.size := by omega
      have HO : Hid (RdL msgC 5 wo wo.heap.size D2 y.o.length d2 y.o) := Lib.hid (((O2o10.out.rd msgC_len).below hb (by omega)).more (by omega))
      clear hb yn10
      obtain ⟨b, off, p, rfl, hb1, hp, c0, c1, c2, c3, c4⟩ := msg_cells HO.out hkn
      obtain ⟨q1, q2, _, _⟩ := HQ.out.out p (List.mem_of_getElem? hp)
      rw [q2] at c4
      have hM : ∀ w, Hid (Calls Try.prog 26 #[.agg #[.int .i64 p.k, .int .i64 p.r, .int .i64 p.v, .int .i64 p.p, .int .i64 s.me]] w fun e w' => e = .returned (.bool true) ∧ Below w.heap.size w w') := fun w => by
        have h := sMsgOk_any p.k p.r p.v p.p s.me w
        rw [show msgB p.k p.r p.v p.p s.me = true from by rw [← q2]; exact q1] at h
        exact h
      have HP := Lib.hid hp
      clear hp q1 q2
      have hcn : k1 ≤ 9223372036854775807 := by omega
      go_wp2_with fail
      refine wp_region_below (by kernel_rfl) (by kernel_rfl) ?_
      repeat (first | go_big_quiet_skip | (go_big_quiet_want; go_big_quiet_op; first | go_big_quiet_on | (apply Exists.intro; refine ⟨fun w1 hC => ?_, ?_⟩; (focus (first | rfl | (go_at_call 26; exact quiet_below hC ((hM _).out)) | (simp [(bcell hC).1, hb1, hn0, yn, c0, c1, c2, c3, c4]; done) | (simp [(bcell hC).1, hb1, hn0, yn, c0, c1, c2, c3, c4]; rfl))); go_big_quiet_on)))
      refine wpQuiet_nil ?_
      intro w2 hb2
      obtain ⟨hc2, hf2, hz2⟩ := bcell hb2
      clear hM
      obtain ⟨wp, hwp⟩ : ∃ q, q = w2 := ⟨_, rfl⟩
      subst hwp
      have HB2 : Hid (Below w6.heap.size w6 wp) := Lib.hid (HB.out.trans (hb2.mono hz1))
      have hz2' := hb2.size
      have d0 := (hb2.cell (p := ⟨b, off + k1 * 5, none⟩) hb1).trans c0
      have d1 := (hb2.cell (p := ⟨b, off + k1 * 5 + 1, none⟩) hb1).trans c1
      have HO2 := Lib.hid ((HO.out.below hb2 (Nat.le_refl _)).more hz2')
      clear hb2 hc2 hf2 hz2 c0 c1 c2 c3 c4 yn
      have HBP := HB2
      go_wp2_with fail
      go_loopw [12] (fun i wr => ∃ j : Nat, j ≤ k1 ∧ i = .int .i64 j ∧ Below wp.heap.size wp wr) (fun i _ => k1 - (intOf i).toNat)
      case atStart => exact ⟨0, by omega, rfl, Below.refl _ _⟩
      case round =>
        obtain ⟨j, hj, rfl, hb⟩ := hrel
        have hzr := hb.size
        have HB3 : Hid (Below w6.heap.size w6 wr) := Lib.hid (HB2.out.trans (hb.mono (by omega)))
        by_cases hjn : j < k1
        · have hbr : b < wr.heap.size := by omega
          have e0 := (hb.cell (p := ⟨b, off + k1 * 5, none⟩) (by show b < wp.heap.size; omega)).trans d0
          have e1 := (hb.cell (p := ⟨b, off + k1 * 5 + 1, none⟩) (by show b < wp.heap.size; omega)).trans d1
          obtain ⟨b2, off2, q, he, hbq, hy, g0, g1, g2, g3, g4⟩ := msg_cells (HO2.out.below hb (Nat.le_refl _)) (show j < y.o.length by omega)
          simp only [Option.some.injEq, Addr.mk.injEq, and_true] at he
          obtain ⟨rfl, rfl⟩ := he
          have hne : ¬ (q.k = p.k ∧ q.r = p.r) := by
            have h := List.pairwise_iff_getElem.1 HQ.out.uniq j k1 (by omega) hkn hjn
            obtain ⟨_, e2⟩ := List.getElem?_eq_some_iff.1 hy
            obtain ⟨_, e3⟩ := List.getElem?_eq_some_iff.1 HP.out
            rw [e2, e3] at h
            exact h
          have HBR := Lib.hid hb
          clear hb g2 g3 g4 d0 d1 hy
          cases t1 : (p.k == q.k)
          · clear hne
            go_wp2_with fail
            refine wp_region_below (by kernel_rfl) (by kernel_rfl) ?_
            repeat (first | go_big_quiet_skip | (go_big_quiet_want; go_big_quiet_op; first | go_big_quiet_on | (apply Exists.intro; refine ⟨fun w1 hC => ?_, ?_⟩; (focus (first | rfl | fail | (simp [(bcell hC).1, hbr, e0, e1, g0, g1, t1]; done) | (simp [(bcell hC).1, hbr, e0, e1, g0, g1, t1]; rfl))); go_big_quiet_on)))
            refine wpQuiet_nil ?_
            intro w2 hb2
            obtain ⟨hc2, hf2, hz2⟩ := bcell hb2
            go_wp2_with fail
            go_roundw
            case rel => exact ⟨j + 1, by omega, by go_num, HBR.out.trans (hb2.mono hzr)⟩
            case measure => simp [intOf]; omega
          · have t2 : (p.r == q.r) = false := by
              rw [beq_iff_eq] at t1
              rw [beq_eq_false_iff_ne]
              exact fun e => hne ⟨t1.symm, e.symm⟩
            clear hne
            go_wp2_with fail
            refine wp_region_below (by kernel_rfl) (by kernel_rfl) ?_
            repeat (first | go_big_quiet_skip | (go_big_quiet_want; go_big_quiet_op; first | go_big_quiet_on | (apply Exists.intro; refine ⟨fun w1 hC => ?_, ?_⟩; (focus (first | rfl | fail | (simp [(bcell hC).1, hbr, e0, e1, g0, g1, t1, t2]; done) | (simp [(bcell hC).1, hbr, e0, e1, g0, g1, t1, t2]; rfl))); go_big_quiet_on)))
            refine wpQuiet_nil ?_
            intro w2 hb2
            obtain ⟨hc2, hf2, hz2⟩ := bcell hb2
            go_wp2_with fail
            go_roundw
            case rel => exact ⟨j + 1, by omega, by go_num, HBR.out.trans (hb2.mono hzr)⟩
            case measure => simp [intOf]; omega
        · obtain rfl : j = k1 := by omega
          clear hb
          go_wp2_with fail
          go_roundw
          case rel => exact ⟨j + 1, by omega, by go_num, HB3.out⟩
          case measure => simp [intOf]; omega
    · obtain rfl : k1 = y.o.length := by omega
      have C : Chg 0 0 w6 wo := Chg.of_below hb
      clear hb
      have hs11 := C.size
      have B11 : Hid (Below w.heap.size w wo) := Lib.hid (B10.out.trans (C.under (B := w.heap.size) (by omega) (by omega)))
      clear B10
      have yn11 : ∀ o, wo.cell? ⟨w1.heap.size, o, none⟩ = _ := fun o => (C.cell (k := w1.heap.size) (by omega) (by omega)).trans (yn10 o)
      clear yn10
      have On11 := Lib.hid (On10.out.chg C (by omega))
      clear On10
      have O2o11 := Lib.hid (O2o10.out.chg C (by omega))
      clear O2o10
      clear C
      clear O2o11
      go_wp2_with fail
      refine (DrawNodeTime_any A n c l _ ((HL.out.below B11.out (Nat.le_refl _)).more B11.out.size) (by omega)).mono ?_
      rintro e w7 ⟨s8, l8, B8, e8, k8, rfl, ho, hll8, hb⟩
      have C : Chg 0 0 wo w7 := Chg.of_below hb
      have HO := Lib.hid ho
      clear ho hb
      have hs12 := C.size
      have B12 : Hid (Below w.heap.size w w7) := Lib.hid (B11.out.trans (C.under (B := w.heap.size) (by omega) (by omega)))
      clear B11
      have yn12 : ∀ o, w7.cell? ⟨w1.heap.size, o, none⟩ = _ := fun o => (C.cell (k := w1.heap.size) (by omega) (by omega)).trans (yn11 o)
      clear yn11
      have On12 := Lib.hid (On11.out.chg C (by omega))
      clear On11
      clear C
      have Ot12 := Lib.hid (HO.out.wide (lo' := 0) (hi' := w7.heap.size) (Nat.zero_le _) (Nat.le_refl _))
      clear HO
      obtain ⟨y8, r8, hr⟩ : ∃ y k, timeN s8 l8 k8 = (y, k) := ⟨_, _, rfl⟩
      have HR8 := Lib.hid hr
      obtain ⟨hyl8, hyo8⟩ := timeN_len s8 l8 k8
      rw [hr] at hyl8 hyo8
      dsimp only at hyl8 hyo8
      clear hr
      go_upto_region 23 with fail
      obtain ⟨w7b, hnw7b⟩ : ∃ q, q = w7.alloc (.cells #[.int .i64 s8.me, .int .i64 s8.round, .int .i64 s8.step, .int .i64 s8.lv, .int .i64 s8.lr, .int .i64 s8.vv, .int .i64 s8.vr, .int .i64 s8.polka, .int .i64 s8.dec, .slice B8 l8.length e8] 28) := ⟨_, rfl⟩
      rw [← hnw7b]
      have C : Chg 0 0 w7 w7b := by rw [hnw7b]; exact (Chg.refl _ _ _).alloc _
      have hzw7b : w7b.heap.size = w7.heap.size + 1 := by rw [hnw7b]; simp
      have yn : ∀ o, w7b.cell? ⟨w7.heap.size, o, none⟩ = (#[.int .i64 s8.me, .int .i64 s8.round, .int .i64 s8.step, .int .i64 s8.lv, .int .i64 s8.lr, .int .i64 s8.vv, .int .i64 s8.vr, .int .i64 s8.polka, .int .i64 s8.dec, .slice B8 l8.length e8] : Array Value)[o]? := fun o => by rw [hnw7b]; exact Blk.cell (show Blk (w7.alloc (.cells #[.int .i64 s8.me, .int .i64 s8.round, .int .i64 s8.step, .int .i64 s8.lv, .int .i64 s8.lr, .int .i64 s8.vv, .int .i64 s8.vr, .int .i64 s8.polka, .int .i64 s8.dec, .slice B8 l8.length e8] 28)) w7.heap.size 28 #[.int .i64 s8.me, .int .i64 s8.round, .int .i64 s8.step, .int .i64 s8.lv, .int .i64 s8.lr, .int .i64 s8.vv, .int .i64 s8.vr, .int .i64 s8.polka, .int .i64 s8.dec, .slice B8 l8.length e8] from heap_alloc_new w7 _) o
      clear hnw7b
      have huw7b : w7.heap.size + 1 ≤ w7b.heap.size := Nat.le_of_eq hzw7b.symm
      have hvw7b : w7b.heap.size ≤ w7.heap.size + 1 := Nat.le_of_eq hzw7b
      clear hzw7b
      have hs13 := C.size
      have B13 : Hid (Below w.heap.size w w7b) := Lib.hid (B12.out.trans (C.under (B := w.heap.size) (by omega) (by omega)))
      clear B12
      have yn13 : ∀ o, w7b.cell? ⟨w1.heap.size, o, none⟩ = _ := fun o => (C.cell (k := w1.heap.size) (by omega) (by omega)).trans (yn12 o)
      clear yn12
      have On13 := Lib.hid (On12.out.chg C (by omega))
      clear On12
      have Ot13 := Lib.hid (Ot12.out.chg C (by omega))
      clear Ot12
      have Yt := yn
      clear yn C
      have yt13 := Yt
      clear Yt
      go_wp2_with fail
      refine (NodeTime_any s8 B8 e8 l8 k8 _ ((Ot13.out.rd msgC_len).more (by omega))).mono ?_
      rintro e w8 ⟨A8, c8, D8, d8, he, hr, hk⟩
      have C : Chg 0 0 w7b w8 := by exact Chg.of_below (hk.below fun q h => h)
      rw [HR8.out] at he hr
      dsimp only at he hr
      subst he
      have P1 := Lib.hid (hr.msgs hk.size)
      have P2 := Lib.hid (hr.sent hk.size)
      clear hr hk
      have hs14 := C.size
      have B14 : Hid (Below w.heap.size w w8) := Lib.hid (B13.out.trans (C.under (B := w.heap.size) (by omega) (by omega)))
      clear B13
      have yn14 : ∀ o, w8.cell? ⟨w1.heap.size, o, none⟩ = _ := fun o => (C.cell (k := w1.heap.size) (by omega) (by omega)).trans (yn13 o)
      clear yn13
      have yt14 : ∀ o, w8.cell? ⟨w7.heap.size, o, none⟩ = _ := fun o => (C.cell (k := w7.heap.size) (by omega) (by omega)).trans (yt13 o)
      clear yt13
      have On14 := Lib.hid (On13.out.chg C (by omega))
      clear On13
      have Ot14 := Lib.hid (Ot13.out.chg C (by omega))
      clear Ot13
      clear C
      have O8l14 := P1
      have O8o14 := P2
      clear P1 P2
      go_upto_region 24 with fail
      obtain ⟨w8b, hnw8b⟩ : ∃ q, q = w8.alloc (.cells #[.int .i64 y8.s.me, .int .i64 y8.s.round, .int .i64 y8.s.step, .int .i64 y8.s.lv, .int .i64 y8.s.lr, .int .i64 y8.s.vv, .int .i64 y8.s.vr, .int .i64 y8.s.polka, .int .i64 y8.s.dec, .slice A8 y8.l.length c8] 28) := ⟨_, rfl⟩
      rw [← hnw8b]
      have C : Chg 0 0 w8 w8b := by rw [hnw8b]; exact (Chg.refl _ _ _).alloc _
      have hzw8b : w8b.heap.size = w8.heap.size + 1 := by rw [hnw8b]; simp
      have yn : ∀ o, w8b.cell? ⟨w8.heap.size, o, none⟩ = (#[.int .i64 y8.s.me, .int .i64 y8.s.round, .int .i64 y8.s.step, .int .i64 y8.s.lv, .int .i64 y8.s.lr, .int .i64 y8.s.vv, .int .i64 y8.s.vr, .int .i64 y8.s.polka, .int .i64 y8.s.dec, .slice A8 y8.l.length c8] : Array Value)[o]? := fun o => by rw [hnw8b]; exact Blk.cell (show Blk (w8.alloc (.cells #[.int .i64 y8.s.me, .int .i64 y8.s.round, .int .i64 y8.s.step, .int .i64 y8.s.lv, .int .i64 y8.s.lr, .int .i64 y8.s.vv, .int .i64 y8.s.vr, .int .i64 y8.s.polka, .int .i64 y8.s.dec, .slice A8 y8.l.length c8] 28)) w8.heap.size 28 #[.int .i64 y8.s.me, .int .i64 y8.s.round, .int .i64 y8.s.step, .int .i64 y8.s.lv, .int .i64 y8.s.lr, .int .i64 y8.s.vv, .int .i64 y8.s.vr, .int .i64 y8.s.polka, .int .i64 y8.s.dec, .slice A8 y8.l.length c8] from heap_alloc_new w8 _) o
      clear hnw8b
      have huw8b : w8.heap.size + 1 ≤ w8b.heap.size := Nat.le_of_eq hzw8b.symm
      have hvw8b : w8b.heap.size ≤ w8.heap.size + 1 := Nat.le_of_eq hzw8b
      clear hzw8b
      have hs15 := C.size
      have B15 : Hid (Below w.heap.size w w8b) := Lib.hid (B14.out.trans (C.under (B := w.heap.size) (by omega) (by omega)))
      clear B14
      have yn15 : ∀ o, w8b.cell? ⟨w1.heap.size, o, none⟩ = _ := fun o => (C.cell (k := w1.heap.size) (by omega) (by omega)).trans (yn14 o)
      clear yn14
      have yt15 : ∀ o, w8b.cell? ⟨w7.heap.size, o, none⟩ = _ := fun o => (C.cell (k := w7.heap.size) (by omega) (by omega)).trans (yt14 o)
      clear yt14
      have On15 := Lib.hid (On14.out.chg C (by omega))
      clear On14
      have Ot15 := Lib.hid (Ot14.out.chg C (by omega))
      clear Ot14
      have O8l15 := Lib.hid (O8l14.out.chg C (by omega))
      clear O8l14
      have O8o15 := Lib.hid (O8o14.out.chg C (by omega))
      clear O8o14
      have Yx := yn
      clear yn C
      have yx15 := Yx
      clear Yx
      go_wp2_with fail
      refine (sNodeTime_any s8 B8 e8 l8 k8 _ ((Ot15.out.rd msgC_len).more (by omega))).mono ?_
      rintro e w9 ⟨A9, c9, D9, d9, he, hr, hk⟩
      have C : Chg 0 0 w8b w9 := by exact Chg.of_below (hk.below fun q h => h)
      rw [HR8.out] at he hr
      dsimp only at he hr
      subst he
      have P1 := Lib.hid (hr.msgs hk.size)
      have P2 := Lib.hid (hr.sent hk.size)
      clear hr hk
      have hs16 := C.size
      have B16 : Hid (Below w.heap.size w w9) := Lib.hid (B15.out.trans (C.under (B := w.heap.size) (by omega) (by omega)))
      clear B15
      have yn16 : ∀ o, w9.cell? ⟨w1.heap.size, o, none⟩ = _ := fun o => (C.cell (k := w1.heap.size) (by omega) (by omega)).trans (yn15 o)
      clear yn15
      have yt16 : ∀ o, w9.cell? ⟨w7.heap.size, o, none⟩ = _ := fun o => (C.cell (k := w7.heap.size) (by omega) (by omega)).trans (yt15 o)
      clear yt15
      have yx16 : ∀ o, w9.cell? ⟨w8.heap.size, o, none⟩ = _ := fun o => (C.cell (k := w8.heap.size) (by omega) (by omega)).trans (yx15 o)
      clear yx15
      have On16 := Lib.hid (On15.out.chg C (by omega))
      clear On15
      have Ot16 := Lib.hid (Ot15.out.chg C (by omega))
      clear Ot15
      have O8l16 := Lib.hid (O8l15.out.chg C (by omega))
      clear O8l15
      have O8o16 := Lib.hid (O8o15.out.chg C (by omega))
      clear O8o15
      clear C
      have O9l16 := P1
      have O9o16 := P2
      clear P1 P2
      clear O9l16
      clear O9o16
      clear O8o16
      go_upto_region 25 with fail
      obtain ⟨w9b, hnw9b⟩ : ∃ q, q = w9.alloc (.cells #[.int .i64 y8.s.me, .int .i64 y8.s.round, .int .i64 y8.s.step, .int .i64 y8.s.lv, .int .i64 y8.s.lr, .int .i64 y8.s.vv, .int .i64 y8.s.vr, .int .i64 y8.s.polka, .int .i64 y8.s.dec, .slice A9 y8.l.length c9] 28) := ⟨_, rfl⟩
      rw [← hnw9b]
      have C : Chg 0 0 w9 w9b := by rw [hnw9b]; exact (Chg.refl _ _ _).alloc _
      have hzw9b : w9b.heap.size = w9.heap.size + 1 := by rw [hnw9b]; simp
      have yn : ∀ o, w9b.cell? ⟨w9.heap.size, o, none⟩ = (#[.int .i64 y8.s.me, .int .i64 y8.s.round, .int .i64 y8.s.step, .int .i64 y8.s.lv, .int .i64 y8.s.lr, .int .i64 y8.s.vv, .int .i64 y8.s.vr, .int .i64 y8.s.polka, .int .i64 y8.s.dec, .slice A9 y8.l.length c9] : Array Value)[o]? := fun o => by rw [hnw9b]; exact Blk.cell (show Blk (w9.alloc (.cells #[.int .i64 y8.s.me, .int .i64 y8.s.round, .int .i64 y8.s.step, .int .i64 y8.s.lv, .int .i64 y8.s.lr, .int .i64 y8.s.vv, .int .i64 y8.s.vr, .int .i64 y8.s.polka, .int .i64 y8.s.dec, .slice A9 y8.l.length c9] 28)) w9.heap.size 28 #[.int .i64 y8.s.me, .int .i64 y8.s.round, .int .i64 y8.s.step, .int .i64 y8.s.lv, .int .i64 y8.s.lr, .int .i64 y8.s.vv, .int .i64 y8.s.vr, .int .i64 y8.s.polka, .int .i64 y8.s.dec, .slice A9 y8.l.length c9] from heap_alloc_new w9 _) o
      clear hnw9b
      have huw9b : w9.heap.size + 1 ≤ w9b.heap.size := Nat.le_of_eq hzw9b.symm
      have hvw9b : w9b.heap.size ≤ w9.heap.size + 1 := Nat.le_of_eq hzw9b
      clear hzw9b
      have hs17 := C.size
      have B17 : Hid (Below w.heap.size w w9b) := Lib.hid (B16.out.trans (C.under (B := w.heap.size) (by omega) (by omega)))
      clear B16
      have yn17 : ∀ o, w9b.cell? ⟨w1.heap.size, o, none⟩ = _ := fun o => (C.cell (k := w1.heap.size) (by omega) (by omega)).trans (yn16 o)
      clear yn16
      have yt17 : ∀ o, w9b.cell? ⟨w7.heap.size, o, none⟩ = _ := fun o => (C.cell (k := w7.heap.size) (by omega) (by omega)).trans (yt16 o)
      clear yt16
      have yx17 : ∀ o, w9b.cell? ⟨w8.heap.size, o, none⟩ = _ := fun o => (C.cell (k := w8.heap.size) (by omega) (by omega)).trans (yx16 o)
      clear yx16
      have On17 := Lib.hid (On16.out.chg C (by omega))
      clear On16
      have Ot17 := Lib.hid (Ot16.out.chg C (by omega))
      clear Ot16
      have O8l17 := Lib.hid (O8l16.out.chg C (by omega))
      clear O8l16
      have Yz := yn
      clear yn C
      have yz17 := Yz
      clear Yz
      clear yz17
      have RT : Hid (RdL msgC 5 w9b w9b.heap.size B8 l8.length e8 l8) := Lib.hid ((Ot17.out.rd msgC_len).more (by omega))
      have RN : Hid (RdL msgC 5 w9b w9b.heap.size B ln.length d ln) := Lib.hid ((On17.out.rd msgC_len).more (by omega))
      have RX : Hid (RdL msgC 5 w9b w9b.heap.size A8 y8.l.length c8 y8.l) := Lib.hid ((O8l17.out.rd msgC_len).more (by omega))
      have hq1 : w7.heap.size < w9b.heap.size := by omega
      have hq2 : w8.heap.size < w9b.heap.size := by omega
      have hq3 : w1.heap.size < w9b.heap.size := by omega
      cases hd8 : nodeB s8 l8
      · have HD8 := Lib.hid hd8
        clear hd8
        cases r8
        all_goals
          refine wp_region_below (by kernel_rfl) (by kernel_rfl) ?_
          repeat (first | go_big_quiet_skip | (go_big_quiet_want; go_big_quiet_op; first | go_big_quiet_on | (apply Exists.intro; refine ⟨fun w1 hC => ?_, ?_⟩; (focus (first | rfl | (go_at_call 25; with_reducible exact quiet_below hC (sNodeOk_b s8 B8 l8.length e8 l8 false _ (by exact (RT.out.below hC (Nat.le_refl _)).more hC.size) HD8.out)) | (go_at_call 28; with_reducible exact quiet_below hC (Count_any s B ln.length d 2 0 11 ln _ (by exact (RN.out.below hC (Nat.le_refl _)).more hC.size))) | (go_at_call 29; with_reducible exact quiet_below hC (sCount_any s B ln.length d 2 0 11 ln _ (by exact (RN.out.below hC (Nat.le_refl _)).more hC.size))) | (simp [(bcell hC).1, hq1, hq2, hq3, yt17, yx17, yn17]; done) | (simp [(bcell hC).1, hq1, hq2, hq3, yt17, yx17, yn17]; rfl))); go_big_quiet_on)))
          refine wpQuiet_nil ?_
          intro w2 hb2
          obtain ⟨hc2, hf2, hz2⟩ := bcell hb2
          go_wp2_with fail
          go_ret
          exact ⟨rfl, B17.out.trans (hb2.mono (by omega))⟩
      · have HD8 := Lib.hid hd8
        have HX8 : Hid (nodeB y8.s y8.l = true) := by
          have h := (time_q (k := k8) ((nodeB_iff s8 l8).1 hd8)).run.node
          rw [HR8.out] at h
          exact Lib.hid ((nodeB_iff _ _).2 h)
        clear hd8
        cases r8
        all_goals
          refine wp_region_below (by kernel_rfl) (by kernel_rfl) ?_
          repeat (first | go_big_quiet_skip | (go_big_quiet_want; go_big_quiet_op; first | go_big_quiet_on | (apply Exists.intro; refine ⟨fun w1 hC => ?_, ?_⟩; (focus (first | rfl | (go_at_call 25; with_reducible exact quiet_below hC (sNodeOk_b s8 B8 l8.length e8 l8 true _ (by exact (RT.out.below hC (Nat.le_refl _)).more hC.size) HD8.out)) | (go_at_call 25; with_reducible exact quiet_below hC (sNodeOk_b y8.s A8 y8.l.length c8 y8.l true _ (by exact (RX.out.below hC (Nat.le_refl _)).more hC.size) HX8.out)) | (go_at_call 28; with_reducible exact quiet_below hC (Count_any s B ln.length d 2 0 11 ln _ (by exact (RN.out.below hC (Nat.le_refl _)).more hC.size))) | (go_at_call 29; with_reducible exact quiet_below hC (sCount_any s B ln.length d 2 0 11 ln _ (by exact (RN.out.below hC (Nat.le_refl _)).more hC.size))) | (simp [(bcell hC).1, hq1, hq2, hq3, yt17, yx17, yn17]; done) | (simp [(bcell hC).1, hq1, hq2, hq3, yt17, yx17, yn17]; rfl))); go_big_quiet_on)))
          refine wpQuiet_nil ?_
          intro w2 hb2
          obtain ⟨hc2, hf2, hz2⟩ := bcell hb2
          go_wp2_with fail
          go_ret
          exact ⟨rfl, B17.out.trans (hb2.mono (by omega))⟩

set_option maxRecDepth 100000 in
theorem FnNode_lifted (os : Os) (started : os.Started) (H : Type) (enc : TypeId × Value → H) :
    ReturnsInHanded {} Try.checked os 6 .any (Rows.fnNodeSpec.pre6 enc Try.prog Try.f6 Rows.fnNodeRow.domain false) (Rows.fnNodeSpec.post enc Try.prog Try.f6 false true false false) := by
  refine returnsInHanded_of_change (C := Try.checked) own started (by kernel_rfl) Try.func6
    (ChangeSpec.witness6 (enc := enc) (C := Try.checked) false ⟨#[], #[.slice none 0 0], []⟩ 8 (by kernel_rfl) (by kernel_rfl) (by kernel_rfl) (by kernel_rfl)) ?_
  intro W base args ds gs before hval0 hW hcnd _
  have hval : ∀ (j : Nat) t v, Try.f6.params[j]? = some t → args[j]? = some v → Value.okWide Try.prog W .any base t v := hval0
  have hW' := hW
  obtain ⟨p, q, hA0, hV, rfl, hfz, hnd⟩ := hW
  have hA : DataW.TrodAll enc Try.prog W 0 (fun _ => true) true Try.f6.params.toList args.toList ds p := hA0
  rw [Try.params6] at hA hval
  obtain ⟨v0, vs0, d0, ds0, p0, q0, hargs, rfl, rfl, h0, r0⟩ := trodAll_cons hA
  obtain ⟨rfl, rfl, rfl⟩ := trodAll_nil r0
  obtain rfl : args = #[v0] := by cases args; simp_all
  obtain ⟨A, n, c, rfl, l, hl⟩ := open_code (hval 0 45 v0 rfl rfl) h0
  refine (FnNode_walk A n c l W hl).mono fun e W' ⟨he, hb⟩ => ?_
  subst he
  refine ⟨_, rfl, law_post (f := Try.f6) (tb := 4) rfl Try.underlying4 rfl (by kernel_rfl) (fun gs hg => by subst hg; rfl) (fun gs hg => by subst hg; rfl) (fun gs hg => by subst hg; rfl) hW' hb⟩

theorem FnNode_holds : Rows.FnNodeSaid :=
  OpenClaim.holds_of_wide 6 Try.f6 rfl rfl rfl rfl rfl rfl rfl ⟨rfl, rfl, rfl, rfl, rfl⟩ rfl rfl rfl rfl rfl (by kernel_rfl) Try.func6 (by kernel_rfl)
    (of_decide_eq_true (by kernel_rfl)) (by unfold Func.isWrapper; first | (rw [if_pos (by decide +kernel)]; kernel_rfl) | (rw [if_neg (by decide +kernel)]; exact ⟨rfl, rfl⟩))
    (fun os started H enc _ => FnNode_lifted os started H enc)
#print axioms FnNode_holds
end Go.Proofs.Ytmpppmeloieamaa
