/- DrawSignAsk, DrawMaySign. (written by wip/drawsign.py) -/
import Derived.Test.YteifmlmmfghjjaaDrawSign
import Derived.Test.YteifmlmmfghjjaaDrawSize
import Derived.WalkKit
import Derived.WalkSpells
import Derived.WalkLawsBesides
import Derived.Lib.Hide
namespace Go.Proofs.Yteifmlmmfghjjaa
open Go.RowKit

def zeroGA : Array Value := #[.int .i64 0, .int .i64 0, .int .i64 0, .string ⟨#[]⟩]
def zeroVA : Array Value := #[.int .i64 0, .int .i64 0, .int .i64 0, .string ⟨#[]⟩, .int .i64 0]
def AskDrew (w : World) (e : Ending) (w' : World) : Prop :=
  ∃ (s : SignS) (l : List VoteD) (B : Option Addr) (d : Nat) (v : VoteD), e = .returned (.tuple #[.agg #[.int .i64 s.val, .int .i64 s.dh, .int .i64 s.dr, .int .i64 s.ds, .string s.di, .int .i64 s.mh, .int .i64 s.mr, .int .i64 s.ms, .string s.mi, .bool s.pend, .slice B l.length d], .agg #[.int .i64 v.h, .int .i64 v.r, .int .i64 v.st, .string v.id, .int .i64 v.v]]) ∧ OwnL voteC 5 44 w' w.heap.size w'.heap.size B l.length d l ∧ l.length ≤ 61 ∧ Below w.heap.size w w'
def MayDrew (w : World) (e : Ending) (w' : World) : Prop :=
  ∃ (gh gr gs : Int) (gi : ByteArray) (v : VoteD), e = .returned (.tuple #[.agg #[.int .i64 gh, .int .i64 gr, .int .i64 gs, .string gi], .agg #[.int .i64 v.h, .int .i64 v.r, .int .i64 v.st, .string v.id, .int .i64 v.v]]) ∧ Below w.heap.size w w'

set_option maxRecDepth 100000 in
set_option maxHeartbeats 4000000 in
theorem DrawSignAsk_any (A : Option Addr) (n c : Nat) (l : List UInt8) (w : World) (hl : RdL octC 1 w w.heap.size A n c l) (hn : n ≤ 1048576) :
    Calls Try.prog 24 #[.slice A n c] w (AskDrew w) := by
  have HL := Lib.hid hl
  clear hl
  go_enter Try.func24, Try.ntmps24
  go_wp2_with fail
  refine (l1New_any A n c l _ (by exact ((HL.out.alloc (Nat.le_refl _) _).alloc (by simp) _).more (by simp; omega)) hn).mono ?_
  rintro e w1 ⟨rfl, hu, hb⟩
  have hcb : ((w.alloc (.cells zeroSA 32)).alloc (.cells zeroVA 44)).heap.size = w.heap.size + 2 := by simp
  have hs1 : w.heap.size + 2 ≤ w1.heap.size := by have := hb.size; simpa using this
  have HR1 : Hid (Blk w1 w.heap.size 32 zeroSA) := ((show Blk (w.alloc (.cells zeroSA 32)) w.heap.size 32 zeroSA from heap_alloc_new w _).alloc _).below hb (by simp; omega)
  have HM1 : Hid (Blk w1 (w.heap.size + 1) 44 zeroVA) := by
    have h := heap_alloc_new (w.alloc (.cells zeroSA 32)) (.cells zeroVA 44)
    rw [World.size_alloc] at h
    exact (show Blk _ _ _ _ from h).below hb (by simp)
  have HB1 : Hid (Below w.heap.size w w1) := (((Below.refl _ _).alloc (Nat.le_refl _) _).alloc (by simp) _).trans (hb.mono (by simp; omega))
  have hu' : Cur w1 (w.heap.size + 2) A n c := by rw [← hcb]; exact hu
  have HU1 := Lib.hid hu'
  have hlt1 := hu'.lt
  unfold zeroSA zeroVA at hcb
  rw [hcb]
  clear hb hu hu' hcb
  go_wp2_with fail
  refine (l1SizeS_any A n c 20 _ hn (by decide)).mono ?_
  rintro e w' ⟨m0, rfl, hm0, hm1, rfl⟩
  go_wp2_with fail
  refine (l14Some_any (w.heap.size + 2) A n c m0 _ HU1.out (by omega)).mono ?_
  rintro e w2 ⟨s, l0, B, d, rfl, ho, hll, hg, hu⟩
  have hs2 : w1.heap.size ≤ w2.heap.size := hg.size
  have HR2 : Hid (Blk w2 w.heap.size 32 zeroSA) := (hg.block _ HR1.out.lt (.inl (by omega))).trans HR1.out
  have HM2 : Hid (Blk w2 (w.heap.size + 1) 44 zeroVA) := (hg.block _ HM1.out.lt (.inl (by omega))).trans HM1.out
  have HB2 : Hid (Below w.heap.size w w2) := HB1.out.trans (hg.below (by omega) (by omega))
  have HU2 := Lib.hid hu
  have HO2 := Lib.hid (ho.wide (lo' := w.heap.size + 3) (hi' := w2.heap.size) (by omega) (Nat.le_refl _))
  clear hg hu ho HR1 HM1 HB1 HU1
  go_upto_region 3 with fail
  obtain ⟨w3, hw3⟩ : ∃ q, q = w2.alloc (.cells (signA s B l0.length d) 32) := ⟨_, rfl⟩
  have HT3 : Hid (Blk w3 w2.heap.size 32 (signA s B l0.length d)) := by show Blk _ _ _ _; rw [hw3]; exact heap_alloc_new w2 _
  have hb3 : Below w2.heap.size w2 w3 := by rw [hw3]; exact (Below.refl _ _).alloc (Nat.le_refl _) _
  have HR3 : Hid (Blk w3 w.heap.size 32 zeroSA) := HR2.out.below hb3 (by omega)
  have HM3 : Hid (Blk w3 (w.heap.size + 1) 44 zeroVA) := HM2.out.below hb3 (by omega)
  have HB3 : Hid (Below w.heap.size w w3) := HB2.out.trans (hb3.mono (by omega))
  have HU3 : Hid (Cur w3 (w.heap.size + 2) A n c) := HU2.out.below hb3 (by omega) (Nat.le_refl _)
  have HO3 := Lib.hid (HO2.out.below hb3 (Nat.le_refl _))
  unfold signA at hw3
  rw [← hw3]
  have hs3 := HT3.out.lt
  clear hw3 hb3 HR2 HM2 HB2 HU2 HO2
  go_wp2_with fail
  refine (l8Vote_any (w.heap.size + 2) A n c _ HU3.out).mono ?_
  rintro e w4 ⟨v, rfl, ⟨vh, vr, vs, vv, vi, rfl, hvi⟩, hg, hu⟩
  have HT4 := Lib.hid (show Blk w4 w2.heap.size _ _ from (hg.block _ hs3 (.inr (by omega))).trans HT3.out)
  have HR4 := Lib.hid (show Blk w4 w.heap.size _ _ from (hg.block _ HR3.out.lt (.inl (by omega))).trans HR3.out)
  have HM4 := Lib.hid (show Blk w4 (w.heap.size + 1) _ _ from (hg.block _ HM3.out.lt (.inl (by omega))).trans HM3.out)
  have HB4 : Hid (Below w.heap.size w w4) := HB3.out.trans (hg.below (by omega) (by omega))
  have HO4 := Lib.hid (HO3.out.chg hg (.inr (by omega)))
  have HU4 := Lib.hid hu
  have hs4 := HT4.out.lt
  clear hg hu HT3 HR3 HM3 HB3 HO3 HU3
  go_upto_region 4 with fail
  obtain ⟨w5, hw5⟩ : ∃ q, q = w4.alloc (.cells #[.int .i64 vh, .int .i64 vr, .int .i64 vs, .string vi, .int .i64 vv] 44) := ⟨_, rfl⟩
  rw [← hw5]
  have hb5 : Below w4.heap.size w4 w5 := by rw [hw5]; exact (Below.refl _ _).alloc (Nat.le_refl _) _
  have HV5 : Hid (Blk w5 w4.heap.size 44 #[.int .i64 vh, .int .i64 vr, .int .i64 vs, .string vi, .int .i64 vv]) := Lib.hid (by rw [hw5]; exact heap_alloc_new w4 _)
  have HT5 := Lib.hid (HT4.out.below hb5 HT4.out.lt)
  have HR5 := Lib.hid (HR4.out.below hb5 HR4.out.lt)
  have HM5 := Lib.hid (HM4.out.below hb5 HM4.out.lt)
  have HB5 : Hid (Below w.heap.size w w5) := HB4.out.trans (hb5.mono (by omega))
  have HU5 : Hid (Cur w5 (w.heap.size + 2) A n c) := HU4.out.below hb5 (by omega) (Nat.le_refl _)
  have HO5 := Lib.hid (HO4.out.below hb5 (by omega))
  have hs5 := HV5.out.lt
  clear hw5 hb5 HT4 HR4 HM4 HB4 HU4 HO4
  go_wp2_with fail
  refine (l1Once_any (w.heap.size + 2) A n c 5 _ HU5.out (by omega)).mono ?_
  rintro e w6 ⟨v, rfl, ⟨b, rfl⟩, hg, hu⟩
  have HV6 := Lib.hid (show Blk w6 w4.heap.size _ _ from (hg.block _ HV5.out.lt (.inr (by omega))).trans HV5.out)
  have HT6 := Lib.hid (show Blk w6 w2.heap.size _ _ from (hg.block _ HT5.out.lt (.inr (by omega))).trans HT5.out)
  have HR6 := Lib.hid (show Blk w6 w.heap.size _ _ from (hg.block _ HR5.out.lt (.inl (by omega))).trans HR5.out)
  have HM6 := Lib.hid (show Blk w6 (w.heap.size + 1) _ _ from (hg.block _ HM5.out.lt (.inl (by omega))).trans HM5.out)
  have HB6 : Hid (Below w.heap.size w w6) := HB5.out.trans (hg.below (by omega) (by omega))
  have HO6 := Lib.hid (HO5.out.chg hg (.inr (by omega)))
  have hs6 := hg.size
  clear hg hu HV5 HT5 HR5 HM5 HB5 HO5 HU5
  have hlv := HV6.out.lt
  go_upto_if 17 with fail
  go_cut [] (fun wx => ∃ xv : Int, Blk wx w4.heap.size 44 #[.int .i64 vh, .int .i64 vr, .int .i64 vs, .string vi, .int .i64 xv] ∧ Chg w4.heap.size (w4.heap.size + 1) w6 wx)
  case first =>
    cases b
    · have tg := HT6.out.cell
      unfold signA at tg
      have ht := HT6.out.lt
      have vg := HV6.out.cell
      have vf := HV6.out.frozen
      go_wp2_with fail
      go_meet
      refine ⟨s.val, ?_, (Chg.refl _ _ _).setCell (by simp) (by simp) _⟩
      have := HV6.out.set_ 4 (.int .i64 s.val)
      simpa using this
    · go_wp2_with fail
      go_meet
      exact ⟨vv, HV6.out, Chg.refl _ _ _⟩
  case rest =>
  obtain ⟨xv, hV, hC⟩ := hcut
  obtain ⟨w7, hwc⟩ : ∃ q, q = wc := ⟨_, rfl⟩
  subst hwc
  have HV7 := Lib.hid hV
  have HT7 := Lib.hid (show Blk w7 w2.heap.size _ _ from (hC.block _ HT6.out.lt (.inl (by omega))).trans HT6.out)
  have HR7 := Lib.hid (show Blk w7 w.heap.size _ _ from (hC.block _ HR6.out.lt (.inl (by omega))).trans HR6.out)
  have HM7 := Lib.hid (show Blk w7 (w.heap.size + 1) _ _ from (hC.block _ HM6.out.lt (.inl (by omega))).trans HM6.out)
  have HB7 : Hid (Below w.heap.size w w7) := HB6.out.trans (hC.below (by omega) (by omega))
  have HO7 := Lib.hid (HO6.out.chg hC (.inl (by omega)))
  have hs7 := hC.size
  clear hC hV HV6 HT6 HR6 HM6 HB6 HO6
  have tg := HT7.out.cell
  have vg := HV7.out.cell
  have rg := HR7.out.cell
  have rf := HR7.out.frozen
  have mg := HM7.out.cell
  have mf := HM7.out.frozen
  have l1 := HT7.out.lt
  have l2 := HV7.out.lt
  unfold signA at tg
  unfold zeroSA at rg
  unfold zeroVA at mg
  go_upto_region 6 with fail
  go_region
  all_goals
    go_wp2_with fail
    refine bodyPost_ret (v := .tuple #[.agg #[.int .i64 s.val, .int .i64 s.dh, .int .i64 s.dr, .int .i64 s.ds, .string s.di, .int .i64 s.mh, .int .i64 s.mr, .int .i64 s.ms, .string s.mi, .bool s.pend, .slice B l0.length d], .agg #[.int .i64 vh, .int .i64 vr, .int .i64 vs, .string vi, .int .i64 xv]]) (by simp [results, Try.results24, go_sem, rg, mg]) rfl ⟨s, l0, B, d, ⟨vh, vr, vs, vi, xv⟩, rfl, ?_, hll, ?_⟩
    · refine OwnL.wide (HO7.out.chg (lo' := w.heap.size) (hi' := w.heap.size + 2) ?_ (.inr (by omega))) (by omega) ?_
      · (repeat (first | with_reducible refine Chg.setCell ?_ (by first | exact Nat.le_refl _ | (simp; done) | (simp; omega)) (by first | (simp; done) | (simp; omega)) _ | with_reducible refine Chg.alloc ?_ _ | with_reducible refine Chg.drew ?_)); (with_reducible exact Chg.refl _ _ _)
      · first | omega | (simp only [World.size_setCell]; omega) | (simp; omega)
    · (repeat (first | with_reducible refine Below.setCell ?_ (by first | exact Nat.le_refl _ | (simp; done) | (simp; omega)) _ | with_reducible refine Below.alloc ?_ (by first | exact Nat.le_refl _ | (simp; done) | (simp; omega)) _ | with_reducible refine Below.drew ?_)); (with_reducible exact HB7.out)

set_option maxRecDepth 100000 in
set_option maxHeartbeats 4000000 in
theorem DrawMaySign_any (A : Option Addr) (n c : Nat) (l : List UInt8) (w : World) (hl : RdL octC 1 w w.heap.size A n c l) (hn : n ≤ 1048576) :
    Calls Try.prog 25 #[.slice A n c] w (MayDrew w) := by
  have HL := Lib.hid hl
  clear hl
  go_enter Try.func25, Try.ntmps25
  go_wp2_with fail
  refine (l1New_any A n c l _ (by exact ((HL.out.alloc (Nat.le_refl _) _).alloc (by simp) _).more (by simp; omega)) hn).mono ?_
  rintro e w1 ⟨rfl, hu, hb⟩
  have hcb : ((w.alloc (.cells zeroGA 29)).alloc (.cells zeroVA 44)).heap.size = w.heap.size + 2 := by simp
  have hs1 : w.heap.size + 2 ≤ w1.heap.size := by have := hb.size; simpa using this
  have HR1 : Hid (Blk w1 w.heap.size 29 zeroGA) := ((show Blk (w.alloc (.cells zeroGA 29)) w.heap.size 29 zeroGA from heap_alloc_new w _).alloc _).below hb (by simp; omega)
  have HM1 : Hid (Blk w1 (w.heap.size + 1) 44 zeroVA) := by
    have h := heap_alloc_new (w.alloc (.cells zeroGA 29)) (.cells zeroVA 44)
    rw [World.size_alloc] at h
    exact (show Blk _ _ _ _ from h).below hb (by simp)
  have HB1 : Hid (Below w.heap.size w w1) := (((Below.refl _ _).alloc (Nat.le_refl _) _).alloc (by simp) _).trans (hb.mono (by simp; omega))
  have hu' : Cur w1 (w.heap.size + 2) A n c := by rw [← hcb]; exact hu
  have HU1 := Lib.hid hu'
  have hlt1 := hu'.lt
  unfold zeroGA zeroVA at hcb
  rw [hcb]
  clear hb hu hu' hcb
  go_wp2_with fail
  refine (l8Vote_any (w.heap.size + 2) A n c _ HU1.out).mono ?_
  rintro e w2 ⟨v, rfl, ⟨ah, ar, az, av, ai, rfl, hai⟩, hg, hu⟩
  have HR2 := Lib.hid (show Blk w2 w.heap.size _ _ from (hg.block _ HR1.out.lt (.inl (by omega))).trans HR1.out)
  have HM2 := Lib.hid (show Blk w2 (w.heap.size + 1) _ _ from (hg.block _ HM1.out.lt (.inl (by omega))).trans HM1.out)
  have HB2 : Hid (Below w.heap.size w w2) := HB1.out.trans (hg.below (by omega) (by omega))
  have HU2 := Lib.hid hu
  have hs2 := hg.size
  clear hg hu HR1 HM1 HB1 HU1
  go_wp2_with fail
  refine (l14Of_any ah ar az ai av _).mono ?_
  rintro e w3 ⟨rfl, hb⟩
  have HR3 := Lib.hid (HR2.out.below hb HR2.out.lt)
  have HM3 := Lib.hid (HM2.out.below hb HM2.out.lt)
  have HB3 : Hid (Below w.heap.size w w3) := HB2.out.trans (hb.mono (by omega))
  have HU3 : Hid (Cur w3 (w.heap.size + 2) A n c) := HU2.out.below hb HU2.out.lt (Nat.le_refl _)
  have hs3 := hb.size
  clear hb HR2 HM2 HB2 HU2
  go_upto_region 3 with fail
  obtain ⟨w4, hw4⟩ : ∃ q, q = w3.alloc (.cells #[.int .i64 ah, .int .i64 ar, .int .i64 az, .string ai] 29) := ⟨_, rfl⟩
  rw [← hw4]
  have hb4 : Below w3.heap.size w3 w4 := by rw [hw4]; exact (Below.refl _ _).alloc (Nat.le_refl _) _
  have HG4 : Hid (Blk w4 w3.heap.size 29 #[.int .i64 ah, .int .i64 ar, .int .i64 az, .string ai]) := Lib.hid (by rw [hw4]; exact heap_alloc_new w3 _)
  have HR4 := Lib.hid (HR3.out.below hb4 HR3.out.lt)
  have HM4 := Lib.hid (HM3.out.below hb4 HM3.out.lt)
  have HB4 : Hid (Below w.heap.size w w4) := HB3.out.trans (hb4.mono (by omega))
  have HU4 : Hid (Cur w4 (w.heap.size + 2) A n c) := HU3.out.below hb4 HU3.out.lt (Nat.le_refl _)
  have hs4 := hb4.size
  clear hw4 hb4 HR3 HM3 HB3 HU3
  go_wp2_with fail
  refine (l1Once_any (w.heap.size + 2) A n c 5 _ HU4.out (by omega)).mono ?_
  rintro e w5 ⟨v, rfl, ⟨b, rfl⟩, hg, hu⟩
  have HG5 := Lib.hid (show Blk w5 w3.heap.size _ _ from (hg.block _ HG4.out.lt (.inr (by omega))).trans HG4.out)
  have HR5 := Lib.hid (show Blk w5 w.heap.size _ _ from (hg.block _ HR4.out.lt (.inl (by omega))).trans HR4.out)
  have HM5 := Lib.hid (show Blk w5 (w.heap.size + 1) _ _ from (hg.block _ HM4.out.lt (.inl (by omega))).trans HM4.out)
  have HB5 : Hid (Below w.heap.size w w5) := HB4.out.trans (hg.below (by omega) (by omega))
  have HU5 := Lib.hid hu
  have hs5 := hg.size
  clear hg hu HG4 HR4 HM4 HB4 HU4
  have hl5 := HG5.out.lt
  go_upto_if 12 with fail
  go_cut [] (fun wx => ∃ (gh gr gs : Int) (gi : ByteArray), Blk wx w3.heap.size 29 #[.int .i64 gh, .int .i64 gr, .int .i64 gs, .string gi] ∧ Chg w3.heap.size (w3.heap.size + 1) w5 wx)
  case first =>
    cases b
    · go_wp2_with fail
      go_meet
      exact ⟨ah, ar, az, ai, HG5.out, Chg.refl _ _ _⟩
    · have vg := HG5.out.cell
      have vf := HG5.out.frozen
      go_wp2_with fail
      go_meet
      refine ⟨0, 0, 0, ⟨#[]⟩, ?_, by (repeat (first | with_reducible refine Chg.setCell ?_ (by first | exact Nat.le_refl _ | (simp; done) | (simp; omega)) (by first | (simp; done) | (simp; omega)) _ | with_reducible refine Chg.alloc ?_ _ | with_reducible refine Chg.drew ?_)); (with_reducible exact Chg.refl _ _ _)⟩
      have := (((HG5.out.set_ 0 (.int .i64 0)).set_ 1 (.int .i64 0)).set_ 2 (.int .i64 0)).set_ 3 (.string ⟨#[]⟩)
      simpa using this
  case rest =>
  obtain ⟨gh, gr, gs, gi, hG, hC⟩ := hcut
  obtain ⟨w6, hwc⟩ : ∃ q, q = wc := ⟨_, rfl⟩
  subst hwc
  have HG6 := Lib.hid hG
  have HR6 := Lib.hid (show Blk w6 w.heap.size _ _ from (hC.block _ HR5.out.lt (.inl (by omega))).trans HR5.out)
  have HM6 := Lib.hid (show Blk w6 (w.heap.size + 1) _ _ from (hC.block _ HM5.out.lt (.inl (by omega))).trans HM5.out)
  have HB6 : Hid (Below w.heap.size w w6) := HB5.out.trans (hC.below (by omega) (by omega))
  have HU6 : Hid (Cur w6 (w.heap.size + 2) A n c) := HU5.out.chg hC (by omega)
  have hs6 := hC.size
  clear hC hG HG5 HR5 HM5 HB5 HU5
  go_wp2_with fail
  refine (l1Once_any (w.heap.size + 2) A n c 4 _ HU6.out (by omega)).mono ?_
  rintro e w7 ⟨v, rfl, ⟨b2, rfl⟩, hg, hu⟩
  have HG7 := Lib.hid (show Blk w7 w3.heap.size _ _ from (hg.block _ HG6.out.lt (.inr (by omega))).trans HG6.out)
  have HR7 := Lib.hid (show Blk w7 w.heap.size _ _ from (hg.block _ HR6.out.lt (.inl (by omega))).trans HR6.out)
  have HM7 := Lib.hid (show Blk w7 (w.heap.size + 1) _ _ from (hg.block _ HM6.out.lt (.inl (by omega))).trans HM6.out)
  have HB7 : Hid (Below w.heap.size w w7) := HB6.out.trans (hg.below (by omega) (by omega))
  have HU7 := Lib.hid hu
  have hs7 := hg.size
  clear hg hu HG6 HR6 HM6 HB6 HU6
  have vg := HG7.out.cell
  have l1 := HG7.out.lt
  cases b2
  · go_upto_region 7 with fail
    go_region_with (go_at_call 49; (with_reducible refine (l8Vote_any (w.heap.size + 2) A n c _ (by exact HU7.out.drew)).mono ?_); rintro e w8 ⟨v, rfl, ⟨vh, vr, vs, vv, vi, rfl, hvi⟩, hg, hu⟩; have hg : Chg (w.heap.size + 2) (w.heap.size + 2 + 1) w7 w8 := ⟨hg.os, hg.tape, hg.output, hg.size, hg.block⟩; have vg8 := (show Blk w8 w3.heap.size _ _ from (hg.block _ l1 (.inr (by omega))).trans HG7.out).cell; have HR8 := Lib.hid (show Blk w8 w.heap.size _ _ from (hg.block _ HR7.out.lt (.inl (by omega))).trans HR7.out); have HM8 := Lib.hid (show Blk w8 (w.heap.size + 1) _ _ from (hg.block _ HM7.out.lt (.inl (by omega))).trans HM7.out); have rg := HR8.out.cell; have rf := HR8.out.frozen; have mg := HM8.out.cell; have mf := HM8.out.frozen; unfold zeroGA at rg; unfold zeroVA at mg; have HB8 : Hid (Below w.heap.size w w8) := HB7.out.trans (hg.below (by omega) (by omega)); have hs8 := hg.size; clear hg hu)
    all_goals
      go_wp2_with fail
      refine bodyPost_ret (v := .tuple #[.agg #[.int .i64 gh, .int .i64 gr, .int .i64 gs, .string gi], .agg #[.int .i64 vh, .int .i64 vr, .int .i64 vs, .string vi, .int .i64 vv]]) (by simp [results, Try.results25, go_sem, rg, mg]) rfl ⟨gh, gr, gs, gi, ⟨vh, vr, vs, vi, vv⟩, rfl, ?_⟩
      (repeat (first | with_reducible refine Below.setCell ?_ (by first | exact Nat.le_refl _ | (simp; done) | (simp; omega)) _ | with_reducible refine Below.alloc ?_ (by first | exact Nat.le_refl _ | (simp; done) | (simp; omega)) _ | with_reducible refine Below.drew ?_)); (with_reducible exact HB8.out)
  · go_upto_region 6 with fail
    go_region_with (go_at_call 44; (with_reducible refine (l14Vote_any _ _ _ _ _ _).mono ?_); rintro e w8 ⟨rfl, hb⟩; have hb : Below w7.heap.size w7 w8 := ⟨hb.os, hb.tape, hb.output, hb.size, hb.block⟩; have vg8 := (HG7.out.below hb l1).cell; have HR8 := Lib.hid (HR7.out.below hb HR7.out.lt); have HM8 := Lib.hid (HM7.out.below hb HM7.out.lt); have rg := HR8.out.cell; have rf := HR8.out.frozen; have mg := HM8.out.cell; have mf := HM8.out.frozen; unfold zeroGA at rg; unfold zeroVA at mg; have HB8 : Hid (Below w.heap.size w w8) := HB7.out.trans (hb.mono (by omega)); have hs8 := hb.size; clear hb)
    all_goals
      go_wp2_with fail
      refine bodyPost_ret (v := .tuple #[.agg #[.int .i64 gh, .int .i64 gr, .int .i64 gs, .string gi], .agg #[.int .i64 gh, .int .i64 gr, .int .i64 gs, .string gi, .int .i64 2]]) (by simp [results, Try.results25, go_sem, rg, mg]) rfl ⟨gh, gr, gs, gi, ⟨gh, gr, gs, gi, 2⟩, rfl, ?_⟩
      (repeat (first | with_reducible refine Below.setCell ?_ (by first | exact Nat.le_refl _ | (simp; done) | (simp; omega)) _ | with_reducible refine Below.alloc ?_ (by first | exact Nat.le_refl _ | (simp; done) | (simp; omega)) _ | with_reducible refine Below.drew ?_)); (with_reducible exact HB8.out)
end Go.Proofs.Yteifmlmmfghjjaa
