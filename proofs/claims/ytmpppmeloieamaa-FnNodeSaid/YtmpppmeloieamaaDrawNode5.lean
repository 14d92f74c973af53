/- DrawNodeGet, DrawNodeTime: what is drawn: a node with messages of its own, and a message or a number. -/
import Derived.Test.YtmpppmeloieamaaDrawNode4
import Derived.WalkKit
import Derived.WalkSpells
import Derived.WalkLawsBesides
import Derived.Lib.Hide
namespace Go.Proofs.Ytmpppmeloieamaa
open Go.RowKit

def zeroMA : Array Value := #[.int .i64 0, .int .i64 0, .int .i64 0, .int .i64 0, .int .i64 0]
def GetDrew (w : World) (e : Ending) (w' : World) : Prop :=
  ∃ (s : NodeS) (l : List NMsgD) (B : Option Addr) (d : Nat) (m : NMsgD), e = .returned (.tuple #[.agg #[.int .i64 s.me, .int .i64 s.round, .int .i64 s.step, .int .i64 s.lv, .int .i64 s.lr, .int .i64 s.vv, .int .i64 s.vr, .int .i64 s.polka, .int .i64 s.dec, .slice B l.length d], .agg #[.int .i64 m.k, .int .i64 m.r, .int .i64 m.v, .int .i64 m.p, .int .i64 m.f]]) ∧ OwnL msgC 5 40 w' w.heap.size w'.heap.size B l.length d l ∧ l.length ≤ 3000 ∧ Below w.heap.size w w'
def TimeDrew (w : World) (e : Ending) (w' : World) : Prop :=
  ∃ (s : NodeS) (l : List NMsgD) (B : Option Addr) (d : Nat) (k : Int), e = .returned (.tuple #[.agg #[.int .i64 s.me, .int .i64 s.round, .int .i64 s.step, .int .i64 s.lv, .int .i64 s.lr, .int .i64 s.vv, .int .i64 s.vr, .int .i64 s.polka, .int .i64 s.dec, .slice B l.length d], .int .i64 k]) ∧ OwnL msgC 5 40 w' w.heap.size w'.heap.size B l.length d l ∧ l.length ≤ 3000 ∧ Below w.heap.size w w'

set_option maxRecDepth 100000 in
set_option maxHeartbeats 2000000 in
theorem DrawNodeGet_any (A : Option Addr) (n c : Nat) (l : List UInt8) (w : World) (hl : RdL octC 1 w w.heap.size A n c l) (hn : n ≤ 1048576) :
    Calls Try.prog 23 #[.slice A n c] w (GetDrew w) := by
  have HL := Lib.hid hl
  clear hl
  go_enter Try.func23, Try.ntmps23
  go_wp2_with fail
  refine (l1New_any A n c l _ (by exact ((HL.out.alloc (Nat.le_refl _) _).alloc (by simp) _).more (by simp; omega)) hn).mono ?_
  rintro e w1 ⟨rfl, hu, hb⟩
  have hcb : ((w.alloc (.cells zeroA 28)).alloc (.cells zeroMA 40)).heap.size = w.heap.size + 2 := by simp
  have hs1 : w.heap.size + 2 ≤ w1.heap.size := by have := hb.size; simpa using this
  have HR1 : Hid (Blk w1 w.heap.size 28 zeroA) := ((show Blk (w.alloc (.cells zeroA 28)) w.heap.size 28 zeroA from heap_alloc_new w _).alloc _).below hb (by simp; omega)
  have HM1 : Hid (Blk w1 (w.heap.size + 1) 40 zeroMA) := by
    have h := heap_alloc_new (w.alloc (.cells zeroA 28)) (.cells zeroMA 40)
    rw [World.size_alloc] at h
    exact (show Blk _ _ _ _ from h).below hb (by simp)
  have HB1 : Hid (Below w.heap.size w w1) := (((Below.refl _ _).alloc (Nat.le_refl _) _).alloc (by simp) _).trans (hb.mono (by simp; omega))
  have hu' : Cur w1 (w.heap.size + 2) A n c := by rw [← hcb]; exact hu
  have HU1 := Lib.hid hu'
  have hlt1 := hu'.lt
  unfold zeroA zeroMA at hcb
  rw [hcb]
  clear hb hu hu' hcb
  go_wp2_with fail
  refine (l1Size_any A n c 50 _ hn (by decide)).mono ?_
  rintro e w' ⟨m0, rfl, hm0, hm1, rfl⟩
  go_wp2_with fail
  refine (l16Some_any (w.heap.size + 2) A n c m0 _ HU1.out (by omega)).mono ?_
  rintro e w2 ⟨s, l0, B, d, rfl, ho, hll, hg, hu⟩
  have hs2 : w1.heap.size ≤ w2.heap.size := hg.size
  have HR2 : Hid (Blk w2 w.heap.size 28 zeroA) := (hg.block _ HR1.out.lt (.inl (by omega))).trans HR1.out
  have HM2 : Hid (Blk w2 (w.heap.size + 1) 40 zeroMA) := (hg.block _ HM1.out.lt (.inl (by omega))).trans HM1.out
  have HB2 : Hid (Below w.heap.size w w2) := HB1.out.trans (hg.below (by omega) (by omega))
  have HU2 := Lib.hid hu
  have HO2 := Lib.hid ho
  clear hg hu ho HR1 HM1 HB1 HU1
  go_upto_region 3 with fail
  obtain ⟨w3, hw3⟩ : ∃ q, q = w2.alloc (.cells (nodeA s B l0.length d) 28) := ⟨_, rfl⟩
  have HT3 : Hid (Blk w3 w2.heap.size 28 (nodeA s B l0.length d)) := by show Blk _ _ _ _; rw [hw3]; exact heap_alloc_new w2 _
  have hb3 : Below w2.heap.size w2 w3 := by rw [hw3]; exact (Below.refl _ _).alloc (Nat.le_refl _) _
  have HR3 : Hid (Blk w3 w.heap.size 28 zeroA) := HR2.out.below hb3 (by omega)
  have HM3 : Hid (Blk w3 (w.heap.size + 1) 40 zeroMA) := HM2.out.below hb3 (by omega)
  have HB3 : Hid (Below w.heap.size w w3) := HB2.out.trans (hb3.mono (by omega))
  have HU3 : Hid (Cur w3 (w.heap.size + 2) A n c) := HU2.out.below hb3 (by omega) (Nat.le_refl _)
  have HO3 : Hid (OwnL msgC 5 40 w3 (w.heap.size + 3) w2.heap.size B l0.length d l0) := (HO2.out.below hb3 (Nat.le_refl _)).wide (by omega) (Nat.le_refl _)
  unfold nodeA at hw3
  rw [← hw3]
  have hs3 := HT3.out.lt
  clear hw3 hb3 HR2 HM2 HB2 HU2 HO2
  have tg := HT3.out.cell
  unfold nodeA at tg
  go_region_with (go_at_call 50; (with_reducible refine (l16Msg_any (w.heap.size + 2) A n c _ (by exact HU3.out.drew)).mono ?_); rintro e w4 ⟨v, rfl, ⟨x1, x2, x3, x4, x5, rfl⟩, hg, hu⟩; have hg : Chg (w.heap.size + 2) (w.heap.size + 2 + 1) w3 w4 := ⟨hg.os, hg.tape, hg.output, hg.size, hg.block⟩; have tg4 := (show Blk w4 w2.heap.size _ _ from (hg.block _ hs3 (.inr (by omega))).trans HT3.out).cell; unfold nodeA at tg4; have HR4 := Lib.hid (show Blk w4 w.heap.size _ _ from (hg.block _ HR3.out.lt (.inl (by omega))).trans HR3.out); have HM4 := Lib.hid (show Blk w4 (w.heap.size + 1) _ _ from (hg.block _ HM3.out.lt (.inl (by omega))).trans HM3.out); have rg := HR4.out.cell; have rf := HR4.out.frozen; have mg := HM4.out.cell; have mf := HM4.out.frozen; unfold zeroA at rg; unfold zeroMA at mg; have HB4 : Hid (Below w.heap.size w w4) := HB3.out.trans (hg.below (by omega) (by omega)); have HO4 := Lib.hid (HO3.out.chg hg (.inr (by omega))); have hs4 := hg.size; clear hg hu)
  all_goals
    go_wp2_with fail
    refine bodyPost_ret (v := .tuple #[.agg #[.int .i64 s.me, .int .i64 s.round, .int .i64 s.step, .int .i64 s.lv, .int .i64 s.lr, .int .i64 s.vv, .int .i64 s.vr, .int .i64 s.polka, .int .i64 s.dec, .slice B l0.length d], .agg #[.int .i64 x1, .int .i64 x2, .int .i64 x3, .int .i64 x4, .int .i64 x5]]) (by simp [results, Try.results23, go_sem, rg, mg]) rfl ⟨s, l0, B, d, ⟨x1, x2, x3, x4, x5⟩, rfl, ?_, hll, ?_⟩
    · refine OwnL.wide (HO4.out.chg (lo' := w.heap.size) (hi' := w.heap.size + 2) ?_ (.inr (by omega))) (by omega) ?_
      · (repeat (first | with_reducible refine Chg.setCell ?_ (by first | exact Nat.le_refl _ | (simp; done) | (simp; omega)) (by first | (simp; done) | (simp; omega)) _ | with_reducible refine Chg.alloc ?_ _ | with_reducible refine Chg.drew ?_)); (with_reducible exact Chg.refl _ _ _)
      · first | omega | (simp only [World.size_setCell]; omega) | (simp; omega)
    · (repeat (first | with_reducible refine Below.setCell ?_ (by first | exact Nat.le_refl _ | (simp; done) | (simp; omega)) _ | with_reducible refine Below.alloc ?_ (by first | exact Nat.le_refl _ | (simp; done) | (simp; omega)) _ | with_reducible refine Below.drew ?_)); (with_reducible exact HB4.out)

set_option maxRecDepth 100000 in
set_option maxHeartbeats 2000000 in
theorem DrawNodeTime_any (A : Option Addr) (n c : Nat) (l : List UInt8) (w : World) (hl : RdL octC 1 w w.heap.size A n c l) (hn : n ≤ 1048576) :
    Calls Try.prog 27 #[.slice A n c] w (TimeDrew w) := by
  have HL := Lib.hid hl
  clear hl
  go_enter Try.func27, Try.ntmps27
  go_wp2_with fail
  refine (l1New_any A n c l _ (by exact (HL.out.alloc (Nat.le_refl _) _).more (by simp)) hn).mono ?_
  rintro e w1 ⟨rfl, hu, hb⟩
  have hcb : (w.alloc (.cells zeroA 28)).heap.size = w.heap.size + 1 := by simp
  have hs1 : w.heap.size + 1 ≤ w1.heap.size := by have := hb.size; simpa using this
  have HR1 : Hid (Blk w1 w.heap.size 28 zeroA) := (show Blk (w.alloc (.cells zeroA 28)) w.heap.size 28 zeroA from heap_alloc_new w _).below hb (by simp)
  have HB1 : Hid (Below w.heap.size w w1) := ((Below.refl _ _).alloc (Nat.le_refl _) _).trans (hb.mono (by simp))
  have hu' : Cur w1 (w.heap.size + 1) A n c := by rw [← hcb]; exact hu
  have HU1 := Lib.hid hu'
  have hlt1 := hu'.lt
  unfold zeroA at hcb
  rw [hcb]
  clear hb hu hu' hcb
  go_wp2_with fail
  refine (l1Size_any A n c 40 _ hn (by decide)).mono ?_
  rintro e w' ⟨m0, rfl, hm0, hm1, rfl⟩
  go_wp2_with fail
  refine (l16Some_any (w.heap.size + 1) A n c m0 _ HU1.out (by omega)).mono ?_
  rintro e w2 ⟨s, l0, B, d, rfl, ho, hll, hg, hu⟩
  have hs2 : w1.heap.size ≤ w2.heap.size := hg.size
  have HR2 : Hid (Blk w2 w.heap.size 28 zeroA) := (hg.block _ HR1.out.lt (.inl (by omega))).trans HR1.out
  have HB2 : Hid (Below w.heap.size w w2) := HB1.out.trans (hg.below (by omega) (by omega))
  have HU2 := Lib.hid hu
  have HO2 := Lib.hid ho
  clear hg hu ho HR1 HB1 HU1
  go_upto_region 3 with fail
  obtain ⟨w3, hw3⟩ : ∃ q, q = w2.alloc (.cells (nodeA s B l0.length d) 28) := ⟨_, rfl⟩
  have HT3 : Hid (Blk w3 w2.heap.size 28 (nodeA s B l0.length d)) := by show Blk _ _ _ _; rw [hw3]; exact heap_alloc_new w2 _
  have hb3 : Below w2.heap.size w2 w3 := by rw [hw3]; exact (Below.refl _ _).alloc (Nat.le_refl _) _
  have HR3 : Hid (Blk w3 w.heap.size 28 zeroA) := HR2.out.below hb3 (by omega)
  have HB3 : Hid (Below w.heap.size w w3) := HB2.out.trans (hb3.mono (by omega))
  have HU3 : Hid (Cur w3 (w.heap.size + 1) A n c) := HU2.out.below hb3 (by omega) (Nat.le_refl _)
  have HO3 : Hid (OwnL msgC 5 40 w3 (w.heap.size + 2) w2.heap.size B l0.length d l0) := (HO2.out.below hb3 (Nat.le_refl _)).wide (by omega) (Nat.le_refl _)
  unfold nodeA at hw3
  rw [← hw3]
  have hs3 := HT3.out.lt
  clear hw3 hb3 HR2 HB2 HU2 HO2
  go_wp2_with fail
  refine (l1Once_any (w.heap.size + 1) A n c 5 _ HU3.out (by omega)).mono ?_
  rintro e w4 ⟨v, rfl, ⟨b, rfl⟩, hg, hu⟩
  have HT4 := Lib.hid (show Blk w4 w2.heap.size 28 (nodeA s B l0.length d) from (hg.block _ hs3 (.inr (by omega))).trans HT3.out)
  have HR4 := Lib.hid (show Blk w4 w.heap.size _ _ from (hg.block _ HR3.out.lt (.inl (by omega))).trans HR3.out)
  have HB4 : Hid (Below w.heap.size w w4) := HB3.out.trans (hg.below (by omega) (by omega))
  have HO4 := Lib.hid (HO3.out.chg hg (.inr (by omega)))
  have HU4 := Lib.hid hu
  have hs4 := HT4.out.lt
  clear hg hu HT3 HR3 HB3 HO3 HU3
  have tg := HT4.out.cell
  unfold nodeA at tg
  have rg := HR4.out.cell
  have rf := HR4.out.frozen
  unfold zeroA at rg
  cases b
  · go_wp2_with fail
    go_region
    all_goals
      go_wp2_with fail
      refine bodyPost_ret (v := .tuple #[.agg #[.int .i64 s.me, .int .i64 s.round, .int .i64 s.step, .int .i64 s.lv, .int .i64 s.lr, .int .i64 s.vv, .int .i64 s.vr, .int .i64 s.polka, .int .i64 s.dec, .slice B l0.length d], .int .i64 s.step]) (by simp [results, Try.results27, go_sem, rg]) rfl ⟨s, l0, B, d, s.step, rfl, ?_, hll, ?_⟩
      · refine OwnL.wide (HO4.out.chg (lo' := w.heap.size) (hi' := w.heap.size + 1) ?_ (.inr (by omega))) (by omega) ?_
        · (repeat (first | with_reducible refine Chg.setCell ?_ (by first | exact Nat.le_refl _ | (simp; done) | (simp; omega)) (by first | (simp; done) | (simp; omega)) _ | with_reducible refine Chg.alloc ?_ _ | with_reducible refine Chg.drew ?_)); (with_reducible exact Chg.refl _ _ _)
        · first | omega | (simp only [World.size_setCell]; omega) | (simp; omega)
      · (repeat (first | with_reducible refine Below.setCell ?_ (by first | exact Nat.le_refl _ | (simp; done) | (simp; omega)) _ | with_reducible refine Below.alloc ?_ (by first | exact Nat.le_refl _ | (simp; done) | (simp; omega)) _ | with_reducible refine Below.drew ?_)); (with_reducible exact HB4.out)
  · go_upto_region 4 with fail
    clear rg rf
    go_region_with (go_at_call 55; (with_reducible refine (l1Below_any (w.heap.size + 1) A n c 5 _ (by exact HU4.out.drew) (by omega)).mono ?_); rintro e w5 ⟨v, rfl, ⟨x, rfl, _, _⟩, hg, hu⟩; have hg : Chg (w.heap.size + 1) (w.heap.size + 1 + 1) w4 w5 := ⟨hg.os, hg.tape, hg.output, hg.size, hg.block⟩; have tg5 := (show Blk w5 w2.heap.size _ _ from (hg.block _ hs4 (.inr (by omega))).trans HT4.out).cell; unfold nodeA at tg5; have HR5 := Lib.hid (show Blk w5 w.heap.size _ _ from (hg.block _ HR4.out.lt (.inl (by omega))).trans HR4.out); have rg := HR5.out.cell; have rf := HR5.out.frozen; unfold zeroA at rg; have HB5 : Hid (Below w.heap.size w w5) := HB4.out.trans (hg.below (by omega) (by omega)); have HO5 := Lib.hid (HO4.out.chg hg (.inr (by omega))); have hs5 := hg.size; clear hg hu)
    all_goals
      go_wp2_with fail
      refine bodyPost_ret (v := .tuple #[.agg #[.int .i64 s.me, .int .i64 s.round, .int .i64 s.step, .int .i64 s.lv, .int .i64 s.lr, .int .i64 s.vv, .int .i64 s.vr, .int .i64 s.polka, .int .i64 s.dec, .slice B l0.length d], .int .i64 x]) (by simp [results, Try.results27, go_sem, rg]) rfl ⟨s, l0, B, d, x, rfl, ?_, hll, ?_⟩
      · refine OwnL.wide (HO5.out.chg (lo' := w.heap.size) (hi' := w.heap.size + 1) ?_ (.inr (by omega))) (by omega) ?_
        · (repeat (first | with_reducible refine Chg.setCell ?_ (by first | exact Nat.le_refl _ | (simp; done) | (simp; omega)) (by first | (simp; done) | (simp; omega)) _ | with_reducible refine Chg.alloc ?_ _ | with_reducible refine Chg.drew ?_)); (with_reducible exact Chg.refl _ _ _)
        · first | omega | (simp only [World.size_setCell]; omega) | (simp; omega)
      · (repeat (first | with_reducible refine Below.setCell ?_ (by first | exact Nat.le_refl _ | (simp; done) | (simp; omega)) _ | with_reducible refine Below.alloc ?_ (by first | exact Nat.le_refl _ | (simp; done) | (simp; omega)) _ | with_reducible refine Below.drew ?_)); (with_reducible exact HB5.out)
end Go.Proofs.Ytmpppmeloieamaa
