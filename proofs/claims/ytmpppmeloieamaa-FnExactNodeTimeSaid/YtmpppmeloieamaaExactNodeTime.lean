/- The program's NodeTime returns what the reference's returns, for all arguments. No conditions. (written by wip/nlaw.py) -/
import Derived.Test.YtmpppmeloieamaaNodeLaw2
import Derived.Test.YtmpppmeloieamaaActCalls
import Derived.Test.YtmpppmeloieamaaRunCalls
import Derived.Test.YtmpppmeloieamaaElNMsg
import Derived.Test.YtmpppmeloieamaaL
import Derived.Deep.RegionWith
import Derived.Deep.DeepCutAuto
namespace Go.Proofs.Ytmpppmeloieamaa
open Go.ChangeShapes Go.WideShapes Go.ChangeAt Go.RowKit Go.Joins

theorem Chg.under {lo hi B : Nat} {a b : World} (h : Chg lo hi a b) (hB : B ≤ lo ∨ hi ≤ lo) (hs : B ≤ a.heap.size) : Below B a b :=
  ⟨h.os, h.tape, h.output, h.size, fun k hk => h.block k (by omega) (by omega)⟩
theorem own_row {w' : World} {B n : Nat} {A : Option Addr} {c : Nat} {l : List NMsgD} (h : w'.ownsRow B 40 5 (.slice A n c) n (l.flatMap msgC)) (hl : l.length = n) : OwnL msgC 5 40 w' B w'.heap.size A n c l := by
  obtain ⟨A', c', e, hr⟩ := OwnL.of_own hl h
  simp only [Value.slice.injEq, true_and] at e
  obtain ⟨rfl, rfl⟩ := e
  exact hr

set_option maxRecDepth 100000 in
set_option maxHeartbeats 8000000 in
theorem ExactNodeTime_walk (s : NodeS) (A : Option Addr) (n c : Nat) (l : List NMsgD) (k : Int) (w : World) (hl : RdL msgC 5 w w.heap.size A n c l) :
    Calls Try.prog 5 #[.agg #[.int .i64 s.me, .int .i64 s.round, .int .i64 s.step, .int .i64 s.lv, .int .i64 s.lr, .int .i64 s.vv, .int .i64 s.vr, .int .i64 s.polka, .int .i64 s.dec, .slice A n c], .int .i64 k] w fun e w' => e = .returned (.bool true) ∧ Below w.heap.size w w' := by
  obtain rfl : l.length = n := hl.1
  have hn := hl.le
  have HL := Lib.hid hl
  clear hl
  obtain ⟨r, hr⟩ : ∃ r, r = timeN s l k := ⟨_, rfl⟩
  have HR := Lib.hid hr
  obtain ⟨hrl, hro⟩ := timeN_len s l k
  rw [← hr] at hrl hro
  clear hr
  by_cases h6 : (1048576 : Int) < l.length
  · go_enter Try.func5, Try.ntmps5
    go_wp2_with (go_at_call 7; (refine (szNode_any _ _ _ _ _ _ hn (by decide) (by decide)).mono ?_); rw [if_pos h6]; rintro e w1 ⟨rfl, hb⟩; obtain ⟨hc, hf, hz⟩ := bcell hb; have hy := nlt (by simp at hz; omega : w.heap.size + 1 ≤ w1.heap.size))
    go_ret
    exact ⟨rfl, (by repeat (first | exact Below.refl _ _ | assumption | refine Below.drew ?_ | refine belN ?_ _ | refine Below.alloc ?_ (by first | exact Nat.le_refl _ | (simp; done) | (simp; omega) | omega) _ | refine Below.setCell ?_ (by first | exact Nat.le_refl _ | (simp; done) | (simp; omega) | omega) _ | refine Below.trans ?_ (Below.mono (by assumption) (by first | exact Nat.le_refl _ | (simp; done) | (simp; omega) | omega))))⟩
  go_enter Try.func5, Try.ntmps5
  go_wp2_with fail
  refine (szNode_any _ _ _ _ _ _ hn (by decide) (by decide)).mono ?_
  rw [if_neg (show ¬ ((1048576 : Int) < l.length) by omega)]
  rintro e w1 ⟨rfl, hb⟩
  have hpos : ¬ ((1048576 : Int) - l.length < 0) := by omega
  have hs1 : w.heap.size + 1 ≤ w1.heap.size := by have := hb.size; simpa using this
  have B1 : Hid (Below w.heap.size w w1) := Lib.hid (by repeat (first | exact Below.refl _ _ | assumption | refine Below.drew ?_ | refine belN ?_ _ | refine Below.alloc ?_ (by first | exact Nat.le_refl _ | (simp; done) | (simp; omega) | omega) _ | refine Below.setCell ?_ (by first | exact Nat.le_refl _ | (simp; done) | (simp; omega) | omega) _ | refine Below.trans ?_ (Below.mono (by assumption) (by first | exact Nat.le_refl _ | (simp; done) | (simp; omega) | omega))))
  have ya1 : ∀ o, w1.cell? ⟨w.heap.size, o, none⟩ = (#[.int .i64 s.me, .int .i64 s.round, .int .i64 s.step, .int .i64 s.lv, .int .i64 s.lr, .int .i64 s.vv, .int .i64 s.vr, .int .i64 s.polka, .int .i64 s.dec, .slice A l.length c] : Array Value)[o]? := fun o => (hb.cell (p := ⟨w.heap.size, o, none⟩) (by simp)).trans (Blk.cell (show Blk (w.alloc (.cells #[.int .i64 s.me, .int .i64 s.round, .int .i64 s.step, .int .i64 s.lv, .int .i64 s.lr, .int .i64 s.vv, .int .i64 s.vr, .int .i64 s.polka, .int .i64 s.dec, .slice A l.length c] 24)) w.heap.size 24 #[.int .i64 s.me, .int .i64 s.round, .int .i64 s.step, .int .i64 s.lv, .int .i64 s.lr, .int .i64 s.vv, .int .i64 s.vr, .int .i64 s.polka, .int .i64 s.dec, .slice A l.length c] from heap_alloc_new w _) o)
  clear hb
  go_wp2_with fail
  refine (toNode_any s A l.length c l _ ((HL.out.below B1.out (Nat.le_refl _)).more B1.out.size) (by omega)).mono ?_
  rintro e w2 ⟨A2, c2, rfl, ho, hb⟩
  have C : Chg 0 0 w1 w2 := by exact Chg.of_below hb
  have hq := own_row ho HL.out.1
  have HQ := Lib.hid hq
  clear ho hb hq
  have hs2 := C.size
  have B2 : Hid (Below w.heap.size w w2) := Lib.hid (B1.out.trans (C.under (B := w.heap.size) (by omega) (by omega)))
  clear B1
  have ya2 : ∀ o, w2.cell? ⟨w.heap.size, o, none⟩ = _ := fun o => (C.cell (k := w.heap.size) (by omega) (by omega)).trans (ya1 o)
  clear ya1
  clear C
  have O22 := HQ
  clear HQ
  go_wp2_with fail
  refine (sNodeTime_any s A2 c2 l k _ ((O22.out.rd msgC_len).more (by omega))).mono ?_
  rintro e w3 ⟨A3, c3, D3, d3, he, hr, hk⟩
  have C : Chg 0 0 w2 w3 := by exact Chg.of_below (hk.below fun q h => h)
  rw [← HR.out] at he hr
  subst he
  obtain ⟨a13, b13, a23, b23, p1, p2, h31, h32, h33, h34, h35, h36, h37⟩ := hr.split hk.size
  have P1 := Lib.hid p1
  have P2 := Lib.hid p2
  clear p1 p2 hr hk
  have hs3 := C.size
  have B3 : Hid (Below w.heap.size w w3) := Lib.hid (B2.out.trans (C.under (B := w.heap.size) (by omega) (by omega)))
  clear B2
  have ya3 : ∀ o, w3.cell? ⟨w.heap.size, o, none⟩ = _ := fun o => (C.cell (k := w.heap.size) (by omega) (by omega)).trans (ya2 o)
  clear ya2
  have O23 := Lib.hid (O22.out.chg C (by omega))
  clear O22
  clear C
  have O3l3 := P1
  have O3o3 := P2
  clear P1 P2
  clear O23
  go_upto_region 6 with fail
  obtain ⟨w3b, hnw3b⟩ : ∃ q, q = w3.alloc (.cells #[.int .i64 r.1.s.me, .int .i64 r.1.s.round, .int .i64 r.1.s.step, .int .i64 r.1.s.lv, .int .i64 r.1.s.lr, .int .i64 r.1.s.vv, .int .i64 r.1.s.vr, .int .i64 r.1.s.polka, .int .i64 r.1.s.dec, .slice A3 r.1.l.length c3] 28) := ⟨_, rfl⟩
  rw [← hnw3b]
  have C : Chg 0 0 w3 w3b := by rw [hnw3b]; exact (Chg.refl _ _ _).alloc _
  have hzw3b : w3b.heap.size = w3.heap.size + 1 := by rw [hnw3b]; simp
  have yn : ∀ o, w3b.cell? ⟨w3.heap.size, o, none⟩ = (#[.int .i64 r.1.s.me, .int .i64 r.1.s.round, .int .i64 r.1.s.step, .int .i64 r.1.s.lv, .int .i64 r.1.s.lr, .int .i64 r.1.s.vv, .int .i64 r.1.s.vr, .int .i64 r.1.s.polka, .int .i64 r.1.s.dec, .slice A3 r.1.l.length c3] : Array Value)[o]? := fun o => by rw [hnw3b]; exact Blk.cell (show Blk (w3.alloc (.cells #[.int .i64 r.1.s.me, .int .i64 r.1.s.round, .int .i64 r.1.s.step, .int .i64 r.1.s.lv, .int .i64 r.1.s.lr, .int .i64 r.1.s.vv, .int .i64 r.1.s.vr, .int .i64 r.1.s.polka, .int .i64 r.1.s.dec, .slice A3 r.1.l.length c3] 28)) w3.heap.size 28 #[.int .i64 r.1.s.me, .int .i64 r.1.s.round, .int .i64 r.1.s.step, .int .i64 r.1.s.lv, .int .i64 r.1.s.lr, .int .i64 r.1.s.vv, .int .i64 r.1.s.vr, .int .i64 r.1.s.polka, .int .i64 r.1.s.dec, .slice A3 r.1.l.length c3] from heap_alloc_new w3 _) o
  clear hnw3b
  have hs4 := C.size
  have B4 : Hid (Below w.heap.size w w3b) := Lib.hid (B3.out.trans (C.under (B := w.heap.size) (by omega) (by omega)))
  clear B3
  have ya4 : ∀ o, w3b.cell? ⟨w.heap.size, o, none⟩ = _ := fun o => (C.cell (k := w.heap.size) (by omega) (by omega)).trans (ya3 o)
  clear ya3
  have O3l4 := Lib.hid (O3l3.out.chg C (by omega))
  clear O3l3
  have O3o4 := Lib.hid (O3o3.out.chg C (by omega))
  clear O3o3
  have Yh := yn
  clear yn C
  have yh4 := Yh
  clear Yh
  go_wp2_with fail
  refine (toNode_any s A l.length c l _ ((HL.out.below B4.out (Nat.le_refl _)).more B4.out.size) (by omega)).mono ?_
  rintro e w4 ⟨A4, c4, rfl, ho, hb⟩
  have C : Chg 0 0 w3b w4 := by exact Chg.of_below hb
  have hq := own_row ho HL.out.1
  have HQ := Lib.hid hq
  clear ho hb hq
  have hs5 := C.size
  have B5 : Hid (Below w.heap.size w w4) := Lib.hid (B4.out.trans (C.under (B := w.heap.size) (by omega) (by omega)))
  clear B4
  have ya5 : ∀ o, w4.cell? ⟨w.heap.size, o, none⟩ = _ := fun o => (C.cell (k := w.heap.size) (by omega) (by omega)).trans (ya4 o)
  clear ya4
  have yh5 : ∀ o, w4.cell? ⟨w3.heap.size, o, none⟩ = _ := fun o => (C.cell (k := w3.heap.size) (by omega) (by omega)).trans (yh4 o)
  clear yh4
  have O3l5 := Lib.hid (O3l4.out.chg C (by omega))
  clear O3l4
  have O3o5 := Lib.hid (O3o4.out.chg C (by omega))
  clear O3o4
  clear C
  have O45 := HQ
  clear HQ
  go_upto_region 7 with fail
  obtain ⟨w4b, hnw4b⟩ : ∃ q, q = w4.alloc (.cells #[.int .i64 s.me, .int .i64 s.round, .int .i64 s.step, .int .i64 s.lv, .int .i64 s.lr, .int .i64 s.vv, .int .i64 s.vr, .int .i64 s.polka, .int .i64 s.dec, .slice A4 l.length c4] 28) := ⟨_, rfl⟩
  rw [← hnw4b]
  have C : Chg 0 0 w4 w4b := by rw [hnw4b]; exact (Chg.refl _ _ _).alloc _
  have hzw4b : w4b.heap.size = w4.heap.size + 1 := by rw [hnw4b]; simp
  have yn : ∀ o, w4b.cell? ⟨w4.heap.size, o, none⟩ = (#[.int .i64 s.me, .int .i64 s.round, .int .i64 s.step, .int .i64 s.lv, .int .i64 s.lr, .int .i64 s.vv, .int .i64 s.vr, .int .i64 s.polka, .int .i64 s.dec, .slice A4 l.length c4] : Array Value)[o]? := fun o => by rw [hnw4b]; exact Blk.cell (show Blk (w4.alloc (.cells #[.int .i64 s.me, .int .i64 s.round, .int .i64 s.step, .int .i64 s.lv, .int .i64 s.lr, .int .i64 s.vv, .int .i64 s.vr, .int .i64 s.polka, .int .i64 s.dec, .slice A4 l.length c4] 28)) w4.heap.size 28 #[.int .i64 s.me, .int .i64 s.round, .int .i64 s.step, .int .i64 s.lv, .int .i64 s.lr, .int .i64 s.vv, .int .i64 s.vr, .int .i64 s.polka, .int .i64 s.dec, .slice A4 l.length c4] from heap_alloc_new w4 _) o
  clear hnw4b
  have hs6 := C.size
  have B6 : Hid (Below w.heap.size w w4b) := Lib.hid (B5.out.trans (C.under (B := w.heap.size) (by omega) (by omega)))
  clear B5
  have ya6 : ∀ o, w4b.cell? ⟨w.heap.size, o, none⟩ = _ := fun o => (C.cell (k := w.heap.size) (by omega) (by omega)).trans (ya5 o)
  clear ya5
  have yh6 : ∀ o, w4b.cell? ⟨w3.heap.size, o, none⟩ = _ := fun o => (C.cell (k := w3.heap.size) (by omega) (by omega)).trans (yh5 o)
  clear yh5
  have O3l6 := Lib.hid (O3l5.out.chg C (by omega))
  clear O3l5
  have O3o6 := Lib.hid (O3o5.out.chg C (by omega))
  clear O3o5
  have O46 := Lib.hid (O45.out.chg C (by omega))
  clear O45
  have Yx := yn
  clear yn C
  have yx6 := Yx
  clear Yx
  go_wp2_with fail
  refine (NodeTime_any s A4 c4 l k _ ((O46.out.rd msgC_len).more (by omega))).mono ?_
  rintro e w5 ⟨A5, c5, D5, d5, he, hr, hk⟩
  have C : Chg 0 0 w4b w5 := by exact Chg.of_below (hk.below fun q h => h)
  rw [← HR.out] at he hr
  subst he
  obtain ⟨a15, b15, a25, b25, p1, p2, h51, h52, h53, h54, h55, h56, h57⟩ := hr.split hk.size
  have P1 := Lib.hid p1
  have P2 := Lib.hid p2
  clear p1 p2 hr hk
  have hs7 := C.size
  have B7 : Hid (Below w.heap.size w w5) := Lib.hid (B6.out.trans (C.under (B := w.heap.size) (by omega) (by omega)))
  clear B6
  have ya7 : ∀ o, w5.cell? ⟨w.heap.size, o, none⟩ = _ := fun o => (C.cell (k := w.heap.size) (by omega) (by omega)).trans (ya6 o)
  clear ya6
  have yh7 : ∀ o, w5.cell? ⟨w3.heap.size, o, none⟩ = _ := fun o => (C.cell (k := w3.heap.size) (by omega) (by omega)).trans (yh6 o)
  clear yh6
  have yx7 : ∀ o, w5.cell? ⟨w4.heap.size, o, none⟩ = _ := fun o => (C.cell (k := w4.heap.size) (by omega) (by omega)).trans (yx6 o)
  clear yx6
  have O3l7 := Lib.hid (O3l6.out.chg C (by omega))
  clear O3l6
  have O3o7 := Lib.hid (O3o6.out.chg C (by omega))
  clear O3o6
  have O47 := Lib.hid (O46.out.chg C (by omega))
  clear O46
  clear C
  have O5l7 := P1
  have O5o7 := P2
  clear P1 P2
  go_upto_region 8 with fail
  obtain ⟨w5b, hnw5b⟩ : ∃ q, q = w5.alloc (.cells #[.int .i64 r.1.s.me, .int .i64 r.1.s.round, .int .i64 r.1.s.step, .int .i64 r.1.s.lv, .int .i64 r.1.s.lr, .int .i64 r.1.s.vv, .int .i64 r.1.s.vr, .int .i64 r.1.s.polka, .int .i64 r.1.s.dec, .slice A5 r.1.l.length c5] 28) := ⟨_, rfl⟩
  rw [← hnw5b]
  have C : Chg 0 0 w5 w5b := by rw [hnw5b]; exact (Chg.refl _ _ _).alloc _
  have hzw5b : w5b.heap.size = w5.heap.size + 1 := by rw [hnw5b]; simp
  have yn : ∀ o, w5b.cell? ⟨w5.heap.size, o, none⟩ = (#[.int .i64 r.1.s.me, .int .i64 r.1.s.round, .int .i64 r.1.s.step, .int .i64 r.1.s.lv, .int .i64 r.1.s.lr, .int .i64 r.1.s.vv, .int .i64 r.1.s.vr, .int .i64 r.1.s.polka, .int .i64 r.1.s.dec, .slice A5 r.1.l.length c5] : Array Value)[o]? := fun o => by rw [hnw5b]; exact Blk.cell (show Blk (w5.alloc (.cells #[.int .i64 r.1.s.me, .int .i64 r.1.s.round, .int .i64 r.1.s.step, .int .i64 r.1.s.lv, .int .i64 r.1.s.lr, .int .i64 r.1.s.vv, .int .i64 r.1.s.vr, .int .i64 r.1.s.polka, .int .i64 r.1.s.dec, .slice A5 r.1.l.length c5] 28)) w5.heap.size 28 #[.int .i64 r.1.s.me, .int .i64 r.1.s.round, .int .i64 r.1.s.step, .int .i64 r.1.s.lv, .int .i64 r.1.s.lr, .int .i64 r.1.s.vv, .int .i64 r.1.s.vr, .int .i64 r.1.s.polka, .int .i64 r.1.s.dec, .slice A5 r.1.l.length c5] from heap_alloc_new w5 _) o
  clear hnw5b
  have hs8 := C.size
  have B8 : Hid (Below w.heap.size w w5b) := Lib.hid (B7.out.trans (C.under (B := w.heap.size) (by omega) (by omega)))
  clear B7
  have ya8 : ∀ o, w5b.cell? ⟨w.heap.size, o, none⟩ = _ := fun o => (C.cell (k := w.heap.size) (by omega) (by omega)).trans (ya7 o)
  clear ya7
  have yh8 : ∀ o, w5b.cell? ⟨w3.heap.size, o, none⟩ = _ := fun o => (C.cell (k := w3.heap.size) (by omega) (by omega)).trans (yh7 o)
  clear yh7
  have yx8 : ∀ o, w5b.cell? ⟨w4.heap.size, o, none⟩ = _ := fun o => (C.cell (k := w4.heap.size) (by omega) (by omega)).trans (yx7 o)
  clear yx7
  have O3l8 := Lib.hid (O3l7.out.chg C (by omega))
  clear O3l7
  have O3o8 := Lib.hid (O3o7.out.chg C (by omega))
  clear O3o7
  have O48 := Lib.hid (O47.out.chg C (by omega))
  clear O47
  have O5l8 := Lib.hid (O5l7.out.chg C (by omega))
  clear O5l7
  have O5o8 := Lib.hid (O5o7.out.chg C (by omega))
  clear O5o7
  have Yg := yn
  clear yn C
  have yg8 := Yg
  clear Yg
  go_wp2_with fail
  refine (eqNode_same r.1.s A5 r.1.l.length c5 A3 c3 r.1.l _ ((O5l8.out.rd msgC_len).more (by omega)) ((O3l8.out.rd msgC_len).more (by omega))).mono ?_
  rintro e w6 ⟨rfl, hb⟩
  have C : Chg 0 0 w5b w6 := by exact Chg.of_below hb
  clear hb
  have hs9 := C.size
  have B9 : Hid (Below w.heap.size w w6) := Lib.hid (B8.out.trans (C.under (B := w.heap.size) (by omega) (by omega)))
  clear B8
  have ya9 : ∀ o, w6.cell? ⟨w.heap.size, o, none⟩ = _ := fun o => (C.cell (k := w.heap.size) (by omega) (by omega)).trans (ya8 o)
  clear ya8
  have yh9 : ∀ o, w6.cell? ⟨w3.heap.size, o, none⟩ = _ := fun o => (C.cell (k := w3.heap.size) (by omega) (by omega)).trans (yh8 o)
  clear yh8
  have yx9 : ∀ o, w6.cell? ⟨w4.heap.size, o, none⟩ = _ := fun o => (C.cell (k := w4.heap.size) (by omega) (by omega)).trans (yx8 o)
  clear yx8
  have yg9 : ∀ o, w6.cell? ⟨w5.heap.size, o, none⟩ = _ := fun o => (C.cell (k := w5.heap.size) (by omega) (by omega)).trans (yg8 o)
  clear yg8
  have O3l9 := Lib.hid (O3l8.out.chg C (by omega))
  clear O3l8
  have O3o9 := Lib.hid (O3o8.out.chg C (by omega))
  clear O3o8
  have O49 := Lib.hid (O48.out.chg C (by omega))
  clear O48
  have O5l9 := Lib.hid (O5l8.out.chg C (by omega))
  clear O5l8
  have O5o9 := Lib.hid (O5o8.out.chg C (by omega))
  clear O5o8
  clear C
  go_wp2_with fail
  refine (eqNMsgS_same D5 r.1.o.length d5 D3 d3 r.1.o _ ((O5o9.out.rd msgC_len).more (by omega)) ((O3o9.out.rd msgC_len).more (by omega))).mono ?_
  rintro e w6p ⟨rfl, hb⟩
  have C : Chg 0 0 w6 w6p := by exact Chg.of_below hb
  clear hb
  have hs10 := C.size
  have B10 : Hid (Below w.heap.size w w6p) := Lib.hid (B9.out.trans (C.under (B := w.heap.size) (by omega) (by omega)))
  clear B9
  have ya10 : ∀ o, w6p.cell? ⟨w.heap.size, o, none⟩ = _ := fun o => (C.cell (k := w.heap.size) (by omega) (by omega)).trans (ya9 o)
  clear ya9
  have yh10 : ∀ o, w6p.cell? ⟨w3.heap.size, o, none⟩ = _ := fun o => (C.cell (k := w3.heap.size) (by omega) (by omega)).trans (yh9 o)
  clear yh9
  have yx10 : ∀ o, w6p.cell? ⟨w4.heap.size, o, none⟩ = _ := fun o => (C.cell (k := w4.heap.size) (by omega) (by omega)).trans (yx9 o)
  clear yx9
  have yg10 : ∀ o, w6p.cell? ⟨w5.heap.size, o, none⟩ = _ := fun o => (C.cell (k := w5.heap.size) (by omega) (by omega)).trans (yg9 o)
  clear yg9
  have O3l10 := Lib.hid (O3l9.out.chg C (by omega))
  clear O3l9
  have O3o10 := Lib.hid (O3o9.out.chg C (by omega))
  clear O3o9
  have O410 := Lib.hid (O49.out.chg C (by omega))
  clear O49
  have O5l10 := Lib.hid (O5l9.out.chg C (by omega))
  clear O5l9
  have O5o10 := Lib.hid (O5o9.out.chg C (by omega))
  clear O5o9
  clear C
  go_upto_region 10 with fail
  go_cut [60] (fun sx wx => sx = .bool false ∧ Below w6p.heap.size w6p wx)
  case first =>
    go_region_with (first
      | (go_at_call 9; (refine (toNode_any s A l.length c l _ (by exact ((HL.out.below B10.out (Nat.le_refl _)).more B10.out.size)) (by omega)).mono ?_); rintro e wr ⟨A6, c6, rfl, ho, hb6⟩; have hb6 : Below w6p.heap.size w6p wr := ⟨hb6.os, hb6.tape, hb6.output, hb6.size, hb6.block⟩; have R6 := Lib.hid (RdL.of_own HL.out.1 ho); clear ho; have z6 : ∀ o, wr.cell? ⟨w4.heap.size, o, none⟩ = _ := (fun o => (hb6.cell (p := ⟨w4.heap.size, o, none⟩) (by show w4.heap.size < w6p.heap.size; omega)).trans (yx10 o)); have R7 := Lib.hid ((O410.out.rd msgC_len).below hb6 (by show w4.heap.size ≤ w6p.heap.size; omega)); have G6 := Lib.hid hb6; clear hb6)
      | (go_at_call 11; (refine (eqNode_same s A4 l.length c4 A6 c6 l _ (by exact (R7.out.more (by have h6 : w6p.heap.size ≤ wr.heap.size := G6.out.size; omega))) (by exact R6.out)).mono ?_); rintro e ws ⟨rfl, hb7⟩; have G7 := Lib.hid hb7; clear hb7))
    all_goals
      go_wp2_with fail
      go_meet
      exact ⟨rfl, G6.out.trans (G7.out.mono G6.out.size)⟩
  case rest =>
  obtain ⟨rfl, hb⟩ := hcut
  obtain ⟨w7, hw7⟩ : ∃ q, q = wc := ⟨_, rfl⟩
  subst hw7
  have C : Chg 0 0 w6p w7 := Chg.of_below hb
  clear hb
  have hs11 := C.size
  have B11 : Hid (Below w.heap.size w w7) := Lib.hid (B10.out.trans (C.under (B := w.heap.size) (by omega) (by omega)))
  clear B10
  have ya11 : ∀ o, w7.cell? ⟨w.heap.size, o, none⟩ = _ := fun o => (C.cell (k := w.heap.size) (by omega) (by omega)).trans (ya10 o)
  clear ya10
  have yh11 : ∀ o, w7.cell? ⟨w3.heap.size, o, none⟩ = _ := fun o => (C.cell (k := w3.heap.size) (by omega) (by omega)).trans (yh10 o)
  clear yh10
  have yx11 : ∀ o, w7.cell? ⟨w4.heap.size, o, none⟩ = _ := fun o => (C.cell (k := w4.heap.size) (by omega) (by omega)).trans (yx10 o)
  clear yx10
  have yg11 : ∀ o, w7.cell? ⟨w5.heap.size, o, none⟩ = _ := fun o => (C.cell (k := w5.heap.size) (by omega) (by omega)).trans (yg10 o)
  clear yg10
  have O3l11 := Lib.hid (O3l10.out.chg C (by omega))
  clear O3l10
  have O3o11 := Lib.hid (O3o10.out.chg C (by omega))
  clear O3o10
  have O411 := Lib.hid (O410.out.chg C (by omega))
  clear O410
  have O5l11 := Lib.hid (O5l10.out.chg C (by omega))
  clear O5l10
  have O5o11 := Lib.hid (O5o10.out.chg C (by omega))
  clear O5o10
  clear C
  go_wp2_with fail
  refine (markNode_any s A4 l.length c4 l _ w4.heap.size 1 _ O411.out (by omega) (by decide) (by omega) (by decide)).mono ?_
  rintro e w8 ⟨rfl, ho, C⟩
  have HO := Lib.hid ho
  clear ho
  clear O411
  have hs12 := C.size
  have B12 : Hid (Below w.heap.size w w8) := Lib.hid (B11.out.trans (C.under (B := w.heap.size) (by omega) (by omega)))
  clear B11
  have ya12 : ∀ o, w8.cell? ⟨w.heap.size, o, none⟩ = _ := fun o => (C.cell (k := w.heap.size) (by omega) (by omega)).trans (ya11 o)
  clear ya11
  have yh12 : ∀ o, w8.cell? ⟨w3.heap.size, o, none⟩ = _ := fun o => (C.cell (k := w3.heap.size) (by omega) (by omega)).trans (yh11 o)
  clear yh11
  have yx12 : ∀ o, w8.cell? ⟨w4.heap.size, o, none⟩ = _ := fun o => (C.cell (k := w4.heap.size) (by omega) (by omega)).trans (yx11 o)
  clear yx11
  have yg12 : ∀ o, w8.cell? ⟨w5.heap.size, o, none⟩ = _ := fun o => (C.cell (k := w5.heap.size) (by omega) (by omega)).trans (yg11 o)
  clear yg11
  have O3l12 := Lib.hid (O3l11.out.chg C (by omega))
  clear O3l11
  have O3o12 := Lib.hid (O3o11.out.chg C (by omega))
  clear O3o11
  have O5l12 := Lib.hid (O5l11.out.chg C (by omega))
  clear O5l11
  have O5o12 := Lib.hid (O5o11.out.chg C (by omega))
  clear O5o11
  clear C
  have O412 := HO
  clear HO
  clear O412
  go_wp2_with fail
  refine (eqNode_same r.1.s A5 r.1.l.length c5 A3 c3 r.1.l _ ((O5l12.out.rd msgC_len).more (by omega)) ((O3l12.out.rd msgC_len).more (by omega))).mono ?_
  rintro e w9 ⟨rfl, hb⟩
  have C : Chg 0 0 w8 w9 := by exact Chg.of_below hb
  clear hb
  have hs13 := C.size
  have B13 : Hid (Below w.heap.size w w9) := Lib.hid (B12.out.trans (C.under (B := w.heap.size) (by omega) (by omega)))
  clear B12
  have ya13 : ∀ o, w9.cell? ⟨w.heap.size, o, none⟩ = _ := fun o => (C.cell (k := w.heap.size) (by omega) (by omega)).trans (ya12 o)
  clear ya12
  have yh13 : ∀ o, w9.cell? ⟨w3.heap.size, o, none⟩ = _ := fun o => (C.cell (k := w3.heap.size) (by omega) (by omega)).trans (yh12 o)
  clear yh12
  have yx13 : ∀ o, w9.cell? ⟨w4.heap.size, o, none⟩ = _ := fun o => (C.cell (k := w4.heap.size) (by omega) (by omega)).trans (yx12 o)
  clear yx12
  have yg13 : ∀ o, w9.cell? ⟨w5.heap.size, o, none⟩ = _ := fun o => (C.cell (k := w5.heap.size) (by omega) (by omega)).trans (yg12 o)
  clear yg12
  have O3l13 := Lib.hid (O3l12.out.chg C (by omega))
  clear O3l12
  have O3o13 := Lib.hid (O3o12.out.chg C (by omega))
  clear O3o12
  have O5l13 := Lib.hid (O5l12.out.chg C (by omega))
  clear O5l12
  have O5o13 := Lib.hid (O5o12.out.chg C (by omega))
  clear O5o12
  clear C
  go_wp2_with fail
  refine (eqNMsgS_same D5 r.1.o.length d5 D3 d3 r.1.o _ ((O5o13.out.rd msgC_len).more (by omega)) ((O3o13.out.rd msgC_len).more (by omega))).mono ?_
  rintro e w9p ⟨rfl, hb⟩
  have C : Chg 0 0 w9 w9p := by exact Chg.of_below hb
  clear hb
  have hs14 := C.size
  have B14 : Hid (Below w.heap.size w w9p) := Lib.hid (B13.out.trans (C.under (B := w.heap.size) (by omega) (by omega)))
  clear B13
  have ya14 : ∀ o, w9p.cell? ⟨w.heap.size, o, none⟩ = _ := fun o => (C.cell (k := w.heap.size) (by omega) (by omega)).trans (ya13 o)
  clear ya13
  have yh14 : ∀ o, w9p.cell? ⟨w3.heap.size, o, none⟩ = _ := fun o => (C.cell (k := w3.heap.size) (by omega) (by omega)).trans (yh13 o)
  clear yh13
  have yx14 : ∀ o, w9p.cell? ⟨w4.heap.size, o, none⟩ = _ := fun o => (C.cell (k := w4.heap.size) (by omega) (by omega)).trans (yx13 o)
  clear yx13
  have yg14 : ∀ o, w9p.cell? ⟨w5.heap.size, o, none⟩ = _ := fun o => (C.cell (k := w5.heap.size) (by omega) (by omega)).trans (yg13 o)
  clear yg13
  have O3l14 := Lib.hid (O3l13.out.chg C (by omega))
  clear O3l13
  have O3o14 := Lib.hid (O3o13.out.chg C (by omega))
  clear O3o13
  have O5l14 := Lib.hid (O5l13.out.chg C (by omega))
  clear O5l13
  have O5o14 := Lib.hid (O5o13.out.chg C (by omega))
  clear O5o13
  clear C
  go_wp2_with fail
  refine (markNode_any r.1.s A5 r.1.l.length c5 r.1.l a15 b15 1 _ O5l14.out (by omega) (by decide) (by omega) (by decide)).mono ?_
  rintro e w10 ⟨rfl, ho, C⟩
  have HO := Lib.hid ho
  clear ho
  clear O5l14
  have hs15 := C.size
  have B15 : Hid (Below w.heap.size w w10) := Lib.hid (B14.out.trans (C.under (B := w.heap.size) (by omega) (by omega)))
  clear B14
  have ya15 : ∀ o, w10.cell? ⟨w.heap.size, o, none⟩ = _ := fun o => (C.cell (k := w.heap.size) (by omega) (by omega)).trans (ya14 o)
  clear ya14
  have yh15 : ∀ o, w10.cell? ⟨w3.heap.size, o, none⟩ = _ := fun o => (C.cell (k := w3.heap.size) (by omega) (by omega)).trans (yh14 o)
  clear yh14
  have yx15 : ∀ o, w10.cell? ⟨w4.heap.size, o, none⟩ = _ := fun o => (C.cell (k := w4.heap.size) (by omega) (by omega)).trans (yx14 o)
  clear yx14
  have yg15 : ∀ o, w10.cell? ⟨w5.heap.size, o, none⟩ = _ := fun o => (C.cell (k := w5.heap.size) (by omega) (by omega)).trans (yg14 o)
  clear yg14
  have O3l15 := Lib.hid (O3l14.out.chg C (by omega))
  clear O3l14
  have O3o15 := Lib.hid (O3o14.out.chg C (by omega))
  clear O3o14
  have O5o15 := Lib.hid (O5o14.out.chg C (by omega))
  clear O5o14
  clear C
  have O5l15 := HO
  clear HO
  go_wp2_with fail
  refine (markNMsgS_any 40 D5 r.1.o.length d5 r.1.o a25 b25 (1 + r.1.l.length * 5) _ O5o15.out (by omega) (by omega) (by omega)).mono ?_
  rintro e w11 ⟨rfl, ho, C⟩
  have HO := Lib.hid ho
  clear ho
  clear O5o15
  have hs16 := C.size
  have B16 : Hid (Below w.heap.size w w11) := Lib.hid (B15.out.trans (C.under (B := w.heap.size) (by omega) (by omega)))
  clear B15
  have ya16 : ∀ o, w11.cell? ⟨w.heap.size, o, none⟩ = _ := fun o => (C.cell (k := w.heap.size) (by omega) (by omega)).trans (ya15 o)
  clear ya15
  have yh16 : ∀ o, w11.cell? ⟨w3.heap.size, o, none⟩ = _ := fun o => (C.cell (k := w3.heap.size) (by omega) (by omega)).trans (yh15 o)
  clear yh15
  have yx16 : ∀ o, w11.cell? ⟨w4.heap.size, o, none⟩ = _ := fun o => (C.cell (k := w4.heap.size) (by omega) (by omega)).trans (yx15 o)
  clear yx15
  have yg16 : ∀ o, w11.cell? ⟨w5.heap.size, o, none⟩ = _ := fun o => (C.cell (k := w5.heap.size) (by omega) (by omega)).trans (yg15 o)
  clear yg15
  have O3l16 := Lib.hid (O3l15.out.chg C (by omega))
  clear O3l15
  have O3o16 := Lib.hid (O3o15.out.chg C (by omega))
  clear O3o15
  have O5l16 := Lib.hid (O5l15.out.chg C (by omega))
  clear O5l15
  clear C
  have O5o16 := HO
  clear HO
  go_wp2_with fail
  refine (heldNode_any r.1.s A5 r.1.l.length c5 1 _ ((O5l16.out.rd msgC_len).more (by omega)) (by decide) (by omega) (by decide)).mono ?_
  rintro e w12 ⟨rfl, hb⟩
  have C : Chg 0 0 w11 w12 := by exact Chg.of_below hb
  clear hb
  have hs17 := C.size
  have B17 : Hid (Below w.heap.size w w12) := Lib.hid (B16.out.trans (C.under (B := w.heap.size) (by omega) (by omega)))
  clear B16
  have ya17 : ∀ o, w12.cell? ⟨w.heap.size, o, none⟩ = _ := fun o => (C.cell (k := w.heap.size) (by omega) (by omega)).trans (ya16 o)
  clear ya16
  have yh17 : ∀ o, w12.cell? ⟨w3.heap.size, o, none⟩ = _ := fun o => (C.cell (k := w3.heap.size) (by omega) (by omega)).trans (yh16 o)
  clear yh16
  have yx17 : ∀ o, w12.cell? ⟨w4.heap.size, o, none⟩ = _ := fun o => (C.cell (k := w4.heap.size) (by omega) (by omega)).trans (yx16 o)
  clear yx16
  have yg17 : ∀ o, w12.cell? ⟨w5.heap.size, o, none⟩ = _ := fun o => (C.cell (k := w5.heap.size) (by omega) (by omega)).trans (yg16 o)
  clear yg16
  have O3l17 := Lib.hid (O3l16.out.chg C (by omega))
  clear O3l16
  have O3o17 := Lib.hid (O3o16.out.chg C (by omega))
  clear O3o16
  have O5l17 := Lib.hid (O5l16.out.chg C (by omega))
  clear O5l16
  have O5o17 := Lib.hid (O5o16.out.chg C (by omega))
  clear O5o16
  clear C
  have hp12 : ¬ ((1 + r.1.l.length * 5 : Nat) : Int) < 0 := by omega
  go_wp2_with fail
  refine (heldNMsgS_any D5 r.1.o.length d5 (1 + r.1.l.length * 5) _ ((O5o17.out.rd msgC_len).more (by omega)) (by omega) (by omega) (by omega)).mono ?_
  rintro e w12p ⟨rfl, hb⟩
  have C : Chg 0 0 w12 w12p := by exact Chg.of_below hb
  clear hb
  have hs18 := C.size
  have B18 : Hid (Below w.heap.size w w12p) := Lib.hid (B17.out.trans (C.under (B := w.heap.size) (by omega) (by omega)))
  clear B17
  have ya18 : ∀ o, w12p.cell? ⟨w.heap.size, o, none⟩ = _ := fun o => (C.cell (k := w.heap.size) (by omega) (by omega)).trans (ya17 o)
  clear ya17
  have yh18 : ∀ o, w12p.cell? ⟨w3.heap.size, o, none⟩ = _ := fun o => (C.cell (k := w3.heap.size) (by omega) (by omega)).trans (yh17 o)
  clear yh17
  have yx18 : ∀ o, w12p.cell? ⟨w4.heap.size, o, none⟩ = _ := fun o => (C.cell (k := w4.heap.size) (by omega) (by omega)).trans (yx17 o)
  clear yx17
  have yg18 : ∀ o, w12p.cell? ⟨w5.heap.size, o, none⟩ = _ := fun o => (C.cell (k := w5.heap.size) (by omega) (by omega)).trans (yg17 o)
  clear yg17
  have O3l18 := Lib.hid (O3l17.out.chg C (by omega))
  clear O3l17
  have O3o18 := Lib.hid (O3o17.out.chg C (by omega))
  clear O3o17
  have O5l18 := Lib.hid (O5l17.out.chg C (by omega))
  clear O5l17
  have O5o18 := Lib.hid (O5o17.out.chg C (by omega))
  clear O5o17
  clear C
  have hp12p : ¬ ((1 + r.1.l.length * 5 + r.1.o.length * 5 : Nat) : Int) < 0 := by omega
  go_wp2_with fail
  refine (toNode_any s A l.length c l _ ((HL.out.below B18.out (Nat.le_refl _)).more B18.out.size) (by omega)).mono ?_
  rintro e w13 ⟨A13, c13, rfl, ho, hb⟩
  have C : Chg 0 0 w12p w13 := by exact Chg.of_below hb
  have hq := own_row ho HL.out.1
  have HQ := Lib.hid hq
  clear ho hb hq
  have hs19 := C.size
  have B19 : Hid (Below w.heap.size w w13) := Lib.hid (B18.out.trans (C.under (B := w.heap.size) (by omega) (by omega)))
  clear B18
  have ya19 : ∀ o, w13.cell? ⟨w.heap.size, o, none⟩ = _ := fun o => (C.cell (k := w.heap.size) (by omega) (by omega)).trans (ya18 o)
  clear ya18
  have yh19 : ∀ o, w13.cell? ⟨w3.heap.size, o, none⟩ = _ := fun o => (C.cell (k := w3.heap.size) (by omega) (by omega)).trans (yh18 o)
  clear yh18
  have yx19 : ∀ o, w13.cell? ⟨w4.heap.size, o, none⟩ = _ := fun o => (C.cell (k := w4.heap.size) (by omega) (by omega)).trans (yx18 o)
  clear yx18
  have yg19 : ∀ o, w13.cell? ⟨w5.heap.size, o, none⟩ = _ := fun o => (C.cell (k := w5.heap.size) (by omega) (by omega)).trans (yg18 o)
  clear yg18
  have O3l19 := Lib.hid (O3l18.out.chg C (by omega))
  clear O3l18
  have O3o19 := Lib.hid (O3o18.out.chg C (by omega))
  clear O3o18
  have O5l19 := Lib.hid (O5l18.out.chg C (by omega))
  clear O5l18
  have O5o19 := Lib.hid (O5o18.out.chg C (by omega))
  clear O5o18
  clear C
  have O1319 := HQ
  clear HQ
  go_wp2_with fail
  refine (NodeTime_any s A13 c13 l k _ ((O1319.out.rd msgC_len).more (by omega))).mono ?_
  rintro e w14 ⟨A14, c14, D14, d14, he, hr, hk⟩
  have C : Chg 0 0 w13 w14 := by exact Chg.of_below (hk.below fun q h => h)
  rw [← HR.out] at he hr
  subst he
  obtain ⟨a114, b114, a214, b214, p1, p2, h141, h142, h143, h144, h145, h146, h147⟩ := hr.split hk.size
  have P1 := Lib.hid p1
  have P2 := Lib.hid p2
  clear p1 p2 hr hk
  have hs20 := C.size
  have B20 : Hid (Below w.heap.size w w14) := Lib.hid (B19.out.trans (C.under (B := w.heap.size) (by omega) (by omega)))
  clear B19
  have ya20 : ∀ o, w14.cell? ⟨w.heap.size, o, none⟩ = _ := fun o => (C.cell (k := w.heap.size) (by omega) (by omega)).trans (ya19 o)
  clear ya19
  have yh20 : ∀ o, w14.cell? ⟨w3.heap.size, o, none⟩ = _ := fun o => (C.cell (k := w3.heap.size) (by omega) (by omega)).trans (yh19 o)
  clear yh19
  have yx20 : ∀ o, w14.cell? ⟨w4.heap.size, o, none⟩ = _ := fun o => (C.cell (k := w4.heap.size) (by omega) (by omega)).trans (yx19 o)
  clear yx19
  have yg20 : ∀ o, w14.cell? ⟨w5.heap.size, o, none⟩ = _ := fun o => (C.cell (k := w5.heap.size) (by omega) (by omega)).trans (yg19 o)
  clear yg19
  have O3l20 := Lib.hid (O3l19.out.chg C (by omega))
  clear O3l19
  have O3o20 := Lib.hid (O3o19.out.chg C (by omega))
  clear O3o19
  have O5l20 := Lib.hid (O5l19.out.chg C (by omega))
  clear O5l19
  have O5o20 := Lib.hid (O5o19.out.chg C (by omega))
  clear O5o19
  have O1320 := Lib.hid (O1319.out.chg C (by omega))
  clear O1319
  clear C
  have O14l20 := P1
  have O14o20 := P2
  clear P1 P2
  clear O1320
  go_upto_region 29 with fail
  obtain ⟨w14b, hnw14b⟩ : ∃ q, q = w14.alloc (.cells #[.int .i64 r.1.s.me, .int .i64 r.1.s.round, .int .i64 r.1.s.step, .int .i64 r.1.s.lv, .int .i64 r.1.s.lr, .int .i64 r.1.s.vv, .int .i64 r.1.s.vr, .int .i64 r.1.s.polka, .int .i64 r.1.s.dec, .slice A14 r.1.l.length c14] 28) := ⟨_, rfl⟩
  rw [← hnw14b]
  have C : Chg 0 0 w14 w14b := by rw [hnw14b]; exact (Chg.refl _ _ _).alloc _
  have hzw14b : w14b.heap.size = w14.heap.size + 1 := by rw [hnw14b]; simp
  have yn : ∀ o, w14b.cell? ⟨w14.heap.size, o, none⟩ = (#[.int .i64 r.1.s.me, .int .i64 r.1.s.round, .int .i64 r.1.s.step, .int .i64 r.1.s.lv, .int .i64 r.1.s.lr, .int .i64 r.1.s.vv, .int .i64 r.1.s.vr, .int .i64 r.1.s.polka, .int .i64 r.1.s.dec, .slice A14 r.1.l.length c14] : Array Value)[o]? := fun o => by rw [hnw14b]; exact Blk.cell (show Blk (w14.alloc (.cells #[.int .i64 r.1.s.me, .int .i64 r.1.s.round, .int .i64 r.1.s.step, .int .i64 r.1.s.lv, .int .i64 r.1.s.lr, .int .i64 r.1.s.vv, .int .i64 r.1.s.vr, .int .i64 r.1.s.polka, .int .i64 r.1.s.dec, .slice A14 r.1.l.length c14] 28)) w14.heap.size 28 #[.int .i64 r.1.s.me, .int .i64 r.1.s.round, .int .i64 r.1.s.step, .int .i64 r.1.s.lv, .int .i64 r.1.s.lr, .int .i64 r.1.s.vv, .int .i64 r.1.s.vr, .int .i64 r.1.s.polka, .int .i64 r.1.s.dec, .slice A14 r.1.l.length c14] from heap_alloc_new w14 _) o
  clear hnw14b
  have hs21 := C.size
  have B21 : Hid (Below w.heap.size w w14b) := Lib.hid (B20.out.trans (C.under (B := w.heap.size) (by omega) (by omega)))
  clear B20
  have ya21 : ∀ o, w14b.cell? ⟨w.heap.size, o, none⟩ = _ := fun o => (C.cell (k := w.heap.size) (by omega) (by omega)).trans (ya20 o)
  clear ya20
  have yh21 : ∀ o, w14b.cell? ⟨w3.heap.size, o, none⟩ = _ := fun o => (C.cell (k := w3.heap.size) (by omega) (by omega)).trans (yh20 o)
  clear yh20
  have yx21 : ∀ o, w14b.cell? ⟨w4.heap.size, o, none⟩ = _ := fun o => (C.cell (k := w4.heap.size) (by omega) (by omega)).trans (yx20 o)
  clear yx20
  have yg21 : ∀ o, w14b.cell? ⟨w5.heap.size, o, none⟩ = _ := fun o => (C.cell (k := w5.heap.size) (by omega) (by omega)).trans (yg20 o)
  clear yg20
  have O3l21 := Lib.hid (O3l20.out.chg C (by omega))
  clear O3l20
  have O3o21 := Lib.hid (O3o20.out.chg C (by omega))
  clear O3o20
  have O5l21 := Lib.hid (O5l20.out.chg C (by omega))
  clear O5l20
  have O5o21 := Lib.hid (O5o20.out.chg C (by omega))
  clear O5o20
  have O14l21 := Lib.hid (O14l20.out.chg C (by omega))
  clear O14l20
  have O14o21 := Lib.hid (O14o20.out.chg C (by omega))
  clear O14o20
  have Yk := yn
  clear yn C
  have yk21 := Yk
  clear Yk
  go_wp2_with fail
  refine (eqNode_same r.1.s A14 r.1.l.length c14 A3 c3 r.1.l _ ((O14l21.out.rd msgC_len).more (by omega)) ((O3l21.out.rd msgC_len).more (by omega))).mono ?_
  rintro e w15 ⟨rfl, hb⟩
  have C : Chg 0 0 w14b w15 := by exact Chg.of_below hb
  clear hb
  have hs22 := C.size
  have B22 : Hid (Below w.heap.size w w15) := Lib.hid (B21.out.trans (C.under (B := w.heap.size) (by omega) (by omega)))
  clear B21
  have ya22 : ∀ o, w15.cell? ⟨w.heap.size, o, none⟩ = _ := fun o => (C.cell (k := w.heap.size) (by omega) (by omega)).trans (ya21 o)
  clear ya21
  have yh22 : ∀ o, w15.cell? ⟨w3.heap.size, o, none⟩ = _ := fun o => (C.cell (k := w3.heap.size) (by omega) (by omega)).trans (yh21 o)
  clear yh21
  have yx22 : ∀ o, w15.cell? ⟨w4.heap.size, o, none⟩ = _ := fun o => (C.cell (k := w4.heap.size) (by omega) (by omega)).trans (yx21 o)
  clear yx21
  have yg22 : ∀ o, w15.cell? ⟨w5.heap.size, o, none⟩ = _ := fun o => (C.cell (k := w5.heap.size) (by omega) (by omega)).trans (yg21 o)
  clear yg21
  have yk22 : ∀ o, w15.cell? ⟨w14.heap.size, o, none⟩ = _ := fun o => (C.cell (k := w14.heap.size) (by omega) (by omega)).trans (yk21 o)
  clear yk21
  have O3l22 := Lib.hid (O3l21.out.chg C (by omega))
  clear O3l21
  have O3o22 := Lib.hid (O3o21.out.chg C (by omega))
  clear O3o21
  have O5l22 := Lib.hid (O5l21.out.chg C (by omega))
  clear O5l21
  have O5o22 := Lib.hid (O5o21.out.chg C (by omega))
  clear O5o21
  have O14l22 := Lib.hid (O14l21.out.chg C (by omega))
  clear O14l21
  have O14o22 := Lib.hid (O14o21.out.chg C (by omega))
  clear O14o21
  clear C
  go_wp2_with fail
  refine (eqNMsgS_same D14 r.1.o.length d14 D3 d3 r.1.o _ ((O14o22.out.rd msgC_len).more (by omega)) ((O3o22.out.rd msgC_len).more (by omega))).mono ?_
  rintro e w15p ⟨rfl, hb⟩
  have C : Chg 0 0 w15 w15p := by exact Chg.of_below hb
  clear hb
  have hs23 := C.size
  have B23 : Hid (Below w.heap.size w w15p) := Lib.hid (B22.out.trans (C.under (B := w.heap.size) (by omega) (by omega)))
  clear B22
  have ya23 : ∀ o, w15p.cell? ⟨w.heap.size, o, none⟩ = _ := fun o => (C.cell (k := w.heap.size) (by omega) (by omega)).trans (ya22 o)
  clear ya22
  have yh23 : ∀ o, w15p.cell? ⟨w3.heap.size, o, none⟩ = _ := fun o => (C.cell (k := w3.heap.size) (by omega) (by omega)).trans (yh22 o)
  clear yh22
  have yx23 : ∀ o, w15p.cell? ⟨w4.heap.size, o, none⟩ = _ := fun o => (C.cell (k := w4.heap.size) (by omega) (by omega)).trans (yx22 o)
  clear yx22
  have yg23 : ∀ o, w15p.cell? ⟨w5.heap.size, o, none⟩ = _ := fun o => (C.cell (k := w5.heap.size) (by omega) (by omega)).trans (yg22 o)
  clear yg22
  have yk23 : ∀ o, w15p.cell? ⟨w14.heap.size, o, none⟩ = _ := fun o => (C.cell (k := w14.heap.size) (by omega) (by omega)).trans (yk22 o)
  clear yk22
  have O3l23 := Lib.hid (O3l22.out.chg C (by omega))
  clear O3l22
  have O3o23 := Lib.hid (O3o22.out.chg C (by omega))
  clear O3o22
  have O5l23 := Lib.hid (O5l22.out.chg C (by omega))
  clear O5l22
  have O5o23 := Lib.hid (O5o22.out.chg C (by omega))
  clear O5o22
  have O14l23 := Lib.hid (O14l22.out.chg C (by omega))
  clear O14l22
  have O14o23 := Lib.hid (O14o22.out.chg C (by omega))
  clear O14o22
  clear C
  go_wp2_with fail
  refine (heldNode_any r.1.s A5 r.1.l.length c5 1 _ ((O5l23.out.rd msgC_len).more (by omega)) (by decide) (by omega) (by decide)).mono ?_
  rintro e w16 ⟨rfl, hb⟩
  have C : Chg 0 0 w15p w16 := by exact Chg.of_below hb
  clear hb
  have hs24 := C.size
  have B24 : Hid (Below w.heap.size w w16) := Lib.hid (B23.out.trans (C.under (B := w.heap.size) (by omega) (by omega)))
  clear B23
  have ya24 : ∀ o, w16.cell? ⟨w.heap.size, o, none⟩ = _ := fun o => (C.cell (k := w.heap.size) (by omega) (by omega)).trans (ya23 o)
  clear ya23
  have yh24 : ∀ o, w16.cell? ⟨w3.heap.size, o, none⟩ = _ := fun o => (C.cell (k := w3.heap.size) (by omega) (by omega)).trans (yh23 o)
  clear yh23
  have yx24 : ∀ o, w16.cell? ⟨w4.heap.size, o, none⟩ = _ := fun o => (C.cell (k := w4.heap.size) (by omega) (by omega)).trans (yx23 o)
  clear yx23
  have yg24 : ∀ o, w16.cell? ⟨w5.heap.size, o, none⟩ = _ := fun o => (C.cell (k := w5.heap.size) (by omega) (by omega)).trans (yg23 o)
  clear yg23
  have yk24 : ∀ o, w16.cell? ⟨w14.heap.size, o, none⟩ = _ := fun o => (C.cell (k := w14.heap.size) (by omega) (by omega)).trans (yk23 o)
  clear yk23
  have O3l24 := Lib.hid (O3l23.out.chg C (by omega))
  clear O3l23
  have O3o24 := Lib.hid (O3o23.out.chg C (by omega))
  clear O3o23
  have O5l24 := Lib.hid (O5l23.out.chg C (by omega))
  clear O5l23
  have O5o24 := Lib.hid (O5o23.out.chg C (by omega))
  clear O5o23
  have O14l24 := Lib.hid (O14l23.out.chg C (by omega))
  clear O14l23
  have O14o24 := Lib.hid (O14o23.out.chg C (by omega))
  clear O14o23
  clear C
  have hp16 : ¬ ((1 + r.1.l.length * 5 : Nat) : Int) < 0 := by omega
  go_wp2_with fail
  refine (heldNMsgS_any D5 r.1.o.length d5 (1 + r.1.l.length * 5) _ ((O5o24.out.rd msgC_len).more (by omega)) (by omega) (by omega) (by omega)).mono ?_
  rintro e w16p ⟨rfl, hb⟩
  have C : Chg 0 0 w16 w16p := by exact Chg.of_below hb
  clear hb
  have hs25 := C.size
  have B25 : Hid (Below w.heap.size w w16p) := Lib.hid (B24.out.trans (C.under (B := w.heap.size) (by omega) (by omega)))
  clear B24
  have ya25 : ∀ o, w16p.cell? ⟨w.heap.size, o, none⟩ = _ := fun o => (C.cell (k := w.heap.size) (by omega) (by omega)).trans (ya24 o)
  clear ya24
  have yh25 : ∀ o, w16p.cell? ⟨w3.heap.size, o, none⟩ = _ := fun o => (C.cell (k := w3.heap.size) (by omega) (by omega)).trans (yh24 o)
  clear yh24
  have yx25 : ∀ o, w16p.cell? ⟨w4.heap.size, o, none⟩ = _ := fun o => (C.cell (k := w4.heap.size) (by omega) (by omega)).trans (yx24 o)
  clear yx24
  have yg25 : ∀ o, w16p.cell? ⟨w5.heap.size, o, none⟩ = _ := fun o => (C.cell (k := w5.heap.size) (by omega) (by omega)).trans (yg24 o)
  clear yg24
  have yk25 : ∀ o, w16p.cell? ⟨w14.heap.size, o, none⟩ = _ := fun o => (C.cell (k := w14.heap.size) (by omega) (by omega)).trans (yk24 o)
  clear yk24
  have O3l25 := Lib.hid (O3l24.out.chg C (by omega))
  clear O3l24
  have O3o25 := Lib.hid (O3o24.out.chg C (by omega))
  clear O3o24
  have O5l25 := Lib.hid (O5l24.out.chg C (by omega))
  clear O5l24
  have O5o25 := Lib.hid (O5o24.out.chg C (by omega))
  clear O5o24
  have O14l25 := Lib.hid (O14l24.out.chg C (by omega))
  clear O14l24
  have O14o25 := Lib.hid (O14o24.out.chg C (by omega))
  clear O14o24
  clear C
  have hp16p : ¬ ((1 + r.1.l.length * 5 + r.1.o.length * 5 : Nat) : Int) < 0 := by omega
  go_wp2_with fail
  go_ret
  exact ⟨rfl, B25.out⟩

set_option maxRecDepth 100000 in
theorem ExactNodeTime_lifted (os : Os) (started : os.Started) (H : Type) (enc : TypeId × Value → H) :
    ReturnsInHanded {} Try.checked os 5 .any (Rows.fnExactNodeTimeSpec.pre6 enc Try.prog Try.f5 Rows.fnExactNodeTimeRow.domain false) (Rows.fnExactNodeTimeSpec.post enc Try.prog Try.f5 false true false false) := by
  refine returnsInHanded_of_change (C := Try.checked) own started (by kernel_rfl) Try.func5
    (ChangeSpec.witness6 (enc := enc) (C := Try.checked) false ⟨#[], #[.agg #[.int .i64 0, .int .i64 0, .int .i64 0, .int .i64 0, .int .i64 0, .int .i64 0, .int .i64 0, .int .i64 0, .int .i64 0, .slice none 0 0], .int .i64 0], []⟩ 8 (by kernel_rfl) (by kernel_rfl) (by kernel_rfl) (by kernel_rfl)) ?_
  intro W base args ds gs before hval0 hW hcnd _
  have hval : ∀ (j : Nat) t v, Try.f5.params[j]? = some t → args[j]? = some v → Value.okWide Try.prog W .any base t v := hval0
  have hW' := hW
  obtain ⟨p, q, hA0, hV, rfl, hfz, hnd⟩ := hW
  have hA : DataW.TrodAll enc Try.prog W 0 (fun _ => true) true Try.f5.params.toList args.toList ds p := hA0
  rw [Try.params5] at hA hval
  obtain ⟨v0, vs0, d0, ds0, p0, q0, hargs, rfl, rfl, h0, r0⟩ := trodAll_cons hA
  obtain ⟨v1, vs1, d1, ds1, p1, q1, rfl, rfl, rfl, h1, r1⟩ := trodAll_cons r0
  obtain ⟨rfl, rfl, rfl⟩ := trodAll_nil r1
  obtain rfl : args = #[v0, v1] := by cases args; simp_all
  obtain ⟨cs, rfl, hlen, m, hf⟩ := agg_fields Try.underlying24 (hval 0 24 v0 rfl rfl) h0
  obtain ⟨y0, g0⟩ := hf 0 _ rfl
  obtain ⟨y1, g1⟩ := hf 1 _ rfl
  obtain ⟨y2, g2⟩ := hf 2 _ rfl
  obtain ⟨y3, g3⟩ := hf 3 _ rfl
  obtain ⟨y4, g4⟩ := hf 4 _ rfl
  obtain ⟨y5, g5⟩ := hf 5 _ rfl
  obtain ⟨y6, g6⟩ := hf 6 _ rfl
  obtain ⟨y7, g7⟩ := hf 7 _ rfl
  obtain ⟨y8, g8⟩ := hf 8 _ rfl
  obtain ⟨y9, g9⟩ := hf 9 _ rfl
  obtain ⟨c0, c1, c2, c3, c4, c5, c6, c7, c8, c9, rfl⟩ := list10 (hlen.trans (by kernel_rfl : Try.prog.cellsOf 24 = 10))
  obtain ⟨a0, rfl, _, _⟩ := field_int Try.underlying3 g0
  obtain ⟨a1, rfl, _, _⟩ := field_int Try.underlying3 g1
  obtain ⟨a2, rfl, _, _⟩ := field_int Try.underlying3 g2
  obtain ⟨a3, rfl, _, _⟩ := field_int Try.underlying3 g3
  obtain ⟨a4, rfl, _, _⟩ := field_int Try.underlying3 g4
  obtain ⟨a5, rfl, _, _⟩ := field_int Try.underlying3 g5
  obtain ⟨a6, rfl, _, _⟩ := field_int Try.underlying3 g6
  obtain ⟨a7, rfl, _, _⟩ := field_int Try.underlying3 g7
  obtain ⟨a8, rfl, _, _⟩ := field_int Try.underlying3 g8
  obtain ⟨A, n, c, rfl, l, hl⟩ := open_list Try.underlying22 (by kernel_rfl) (by decide) msgC_len (fun cs y n h => msg_el h) g9
  obtain ⟨k, rfl, _, _, _⟩ := open_int Try.underlying3 (hval 1 3 v1 rfl rfl) h1
  refine (ExactNodeTime_walk ⟨a0, a1, a2, a3, a4, a5, a6, a7, a8⟩ A n c l k W hl).mono fun e W' ⟨he, hb⟩ => ?_
  subst he
  refine ⟨_, rfl, law_post (f := Try.f5) (tb := 4) rfl Try.underlying4 rfl (by kernel_rfl) (fun gs hg => by subst hg; rfl) (fun gs hg => by subst hg; rfl) (fun gs hg => by subst hg; rfl) hW' hb⟩

theorem ExactNodeTime_holds : Rows.FnExactNodeTimeSaid :=
  OpenClaim.holds_of_wide 5 Try.f5 rfl rfl rfl rfl rfl rfl rfl ⟨rfl, rfl, rfl, rfl, rfl⟩ rfl rfl rfl rfl rfl (by kernel_rfl) Try.func5 (by kernel_rfl)
    (of_decide_eq_true (by kernel_rfl)) (by unfold Func.isWrapper; first | (rw [if_pos (by decide +kernel)]; kernel_rfl) | (rw [if_neg (by decide +kernel)]; exact ⟨rfl, rfl⟩))
    (fun os started H enc _ => ExactNodeTime_lifted os started H enc)
#print axioms ExactNodeTime_holds
end Go.Proofs.Ytmpppmeloieamaa
