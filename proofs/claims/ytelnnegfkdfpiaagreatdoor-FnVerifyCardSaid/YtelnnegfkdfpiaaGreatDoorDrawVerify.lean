/- DrawVerify. (written by wip/drawverify.py) -/
import Derived.Test.YtelnnegfkdfpiaaGreatDoorDraw
import Derived.Deep.RegionWith
import Derived.Deep.DeepCutAuto
import Derived.WalkKit
import Derived.WalkSpells
import Derived.WalkLawsBesides
import Derived.Lib.Hide
import Derived.Test.YtelnnegfkdfpiaaGreatDoorDrawNext
namespace Go.Proofs.YtelnnegfkdfpiaaGreatDoor
open Go.RowKit

def IsTrust (v : Value) : Prop := ∃ p s : Int, v = .agg #[.int .i64 p, .int .i64 s]

theorem Chg.trans_top {cb D : Nat} {w w1 w2 : World} (h : Chg cb (cb + 1) w w1) (hD : w.heap.size ≤ D) (k : Chg D (D + 1) w1 w2) : Chg cb (cb + 1) w w2 :=
  ⟨k.os.trans h.os, k.tape.trans h.tape, k.output.trans h.output, Nat.le_trans h.size k.size, fun q h1 h2 => (k.block q (by have := h.size; omega) (.inl (by omega))).trans (h.block q h1 h2)⟩

set_option maxRecDepth 100000 in
set_option maxHeartbeats 1000000 in
theorem l10At_any (cb : Nat) (A : Option Addr) (n c : Nat) (w : World) (hc : Cur w cb A n c) :
    Calls Tryz.prog 36 #[.pointer (some ⟨cb, 0, none⟩)] w (Drew cb A n c (IsIn (-1) 1000001) w) := by
  have HC := Lib.hid hc
  clear hc
  go_enter Tryz.func36, Tryz.ntmps36
  go_wp2_with fail
  refine (l1Once_any cb A n c 10 _ HC.out (by omega)).mono ?_
  rintro e w1 ⟨v, rfl, ⟨b, rfl⟩, hg, hu⟩
  have HG := Lib.hid hg
  have HU := Lib.hid hu
  have hlt := hu.lt
  clear hg hu
  cases b
  · go_wp2_with fail
    refine (l1Below_any cb A n c 150 _ HU.out (by omega)).mono ?_
    rintro e w2 ⟨v, rfl, ⟨x, rfl, x0, x1⟩, hg, hu⟩
    have HG2 := Lib.hid (HG.out.trans hg)
    have HU2 := Lib.hid hu
    clear hg hu
    simp at x1
    go_wp2_with fail
    go_ret
    exact ⟨_, rfl, ⟨x, rfl, by omega, by omega⟩, HG2.out, HU2.out⟩
  · go_wp2_with fail
    refine (l1PickInt_any cb A n c w1.heap.size 3 (-1) 1000001 _ (HU.out.alloc _) (by decide) (by decide) hlt (by simp) ?_).mono ?_
    · intro j hj
      rcases (by omega : j = 0 ∨ j = 1 ∨ j = 2) with rfl | rfl | rfl
      · exact ⟨-1, by simp, by omega, by omega⟩
      · exact ⟨1000000, by simp, by omega, by omega⟩
      · exact ⟨1000001, by simp, by omega, by omega⟩
    rintro e w2 ⟨v, rfl, ⟨x, rfl, x0, x1⟩, hg, hu⟩
    have HG2 := Lib.hid (HG.out.trans (((Chg.refl cb (cb + 1) w1).alloc _).trans hg))
    have HU2 := Lib.hid hu
    clear hg hu
    go_wp2_with fail
    go_ret
    exact ⟨_, rfl, ⟨x, rfl, by omega, by omega⟩, HG2.out, HU2.out⟩

set_option maxRecDepth 100000 in
set_option maxHeartbeats 1000000 in
theorem l10Trust_any (cb : Nat) (A : Option Addr) (n c : Nat) (w : World) (hc : Cur w cb A n c) :
    Calls Tryz.prog 31 #[.pointer (some ⟨cb, 0, none⟩)] w (Drew cb A n c IsTrust w) := by
  have HC := Lib.hid hc
  have hlt := hc.lt
  clear hc
  go_enter Tryz.func31, Tryz.ntmps31
  go_wp2_with fail
  refine (l1Below_any cb A n c 90 _ (HC.out.alloc _) (by omega)).mono ?_
  rintro e w1 ⟨v, rfl, ⟨x, rfl, x0, x1⟩, hg, hu⟩
  simp at x1
  have hs1 : w.heap.size + 1 ≤ w1.heap.size := by have := hg.size; simpa using this
  have r0 : ∀ o, w1.cell? ⟨w.heap.size, o, none⟩ = _ := fun o => hg.cell (by simp) (.inr hlt)
  have rf : ∀ o, w1.frozen? ⟨w.heap.size, o, none⟩ = _ := fun o => hg.frozen (by simp) (.inr hlt)
  have HG1 := Lib.hid (((Chg.refl cb (cb + 1) w).alloc _).trans hg)
  have HU1 := Lib.hid hu
  clear hg hu
  go_wp2_with fail
  refine (l1Below_any cb A n c 10 _ HU1.out (by omega)).mono ?_
  rintro e w2 ⟨v, rfl, ⟨y, rfl, y0, y1⟩, hg, hu⟩
  simp at y1
  have hs2 : w1.heap.size ≤ w2.heap.size := hg.size
  have q0 : w2.cell? ⟨w.heap.size, 0, none⟩ = some (.int .i64 0) := by rw [hg.cell (by omega) (.inr hlt), r0]; simp
  have q1 : w2.cell? ⟨w.heap.size, 1, none⟩ = some (.int .i64 0) := by rw [hg.cell (by omega) (.inr hlt), r0]; simp
  have qf : ∀ o, w2.frozen? ⟨w.heap.size, o, none⟩ = false := fun o => by rw [hg.frozen (by omega) (.inr hlt), rf]; simp
  have HG2 := Lib.hid (HG1.out.trans hg)
  have HU2 := Lib.hid hu
  have hltR : w.heap.size < w2.heap.size := by omega
  have hlt2 : cb < w2.heap.size := by omega
  clear hg hu r0 rf
  -- the two fields, whatever is drawn
  have fin : ∀ (p s : Int) (w3 : World), Chg cb (cb + 1) w w3 → Cur w3 cb A n c → True := fun _ _ _ _ _ => trivial
  clear fin
  go_wp2_with fail
  refine (l1Once_any cb A n c 12 _ (HU2.out.alloc _) (by omega)).mono ?_
  rintro e w3 ⟨v, rfl, ⟨b, rfl⟩, hg, hu⟩
  have hs3 : w2.heap.size + 1 ≤ w3.heap.size := by have := hg.size; simpa using this
  have a0 : w3.cell? ⟨w2.heap.size, 0, none⟩ = some (.int .i64 (10 + x)) := by rw [hg.cell (by simp) (.inr hlt2)]; simp
  have a1 : w3.cell? ⟨w2.heap.size, 1, none⟩ = some (.int .i64 y) := by rw [hg.cell (by simp) (.inr hlt2)]; simp
  have af : ∀ o, w3.frozen? ⟨w2.heap.size, o, none⟩ = false := fun o => by rw [hg.frozen (by simp) (.inr hlt2)]; simp
  have D3 := Lib.hid (((Chg.refl cb (cb + 1) w2).alloc _).trans hg)
  have k0 := (D3.out.cell hltR (.inr hlt)).trans q0
  have k1 := (D3.out.cell hltR (.inr hlt)).trans q1
  have kf : ∀ o, w3.frozen? ⟨w.heap.size, o, none⟩ = false := fun o => (D3.out.frozen hltR (.inr hlt)).trans (qf o)
  have HG3 := Lib.hid (HG2.out.trans D3.out)
  have HU3 := Lib.hid hu
  have hltR3 : w.heap.size < w3.heap.size := by omega
  have hltT3 : w2.heap.size < w3.heap.size := by omega
  have hne : w.heap.size ≠ w2.heap.size := by omega
  have hne' : w2.heap.size ≠ w.heap.size := by omega
  have hncb : cb ≠ w2.heap.size := by omega
  clear hg hu q0 q1 qf D3
  cases b
  · go_wp2_with fail
    refine (l1Once_any cb A n c 12 _ HU3.out (by omega)).mono ?_
    rintro e w4 ⟨v, rfl, ⟨b2, rfl⟩, hg, hu⟩
    have hs4 : w3.heap.size ≤ w4.heap.size := by have := hg.size; (try simp at this); omega
    have D4 := Lib.hid ((Chg.refl cb (cb + 1) w3).trans hg)
    have a0 := (D4.out.cell hltT3 (.inr hlt2)).trans a0
    have a1 := (D4.out.cell hltT3 (.inr hlt2)).trans a1
    have af : ∀ o, w4.frozen? ⟨w2.heap.size, o, none⟩ = false := fun o => (D4.out.frozen hltT3 (.inr hlt2)).trans (af o)
    have k0 := (D4.out.cell hltR3 (.inr hlt)).trans k0
    have k1 := (D4.out.cell hltR3 (.inr hlt)).trans k1
    have kf : ∀ o, w4.frozen? ⟨w.heap.size, o, none⟩ = false := fun o => (D4.out.frozen hltR3 (.inr hlt)).trans (kf o)
    have HG4 := Lib.hid (HG3.out.trans D4.out)
    have HU4 := Lib.hid hu
    have hltR4 : w.heap.size < w4.heap.size := by omega
    have hltT4 : w2.heap.size < w4.heap.size := by omega
    clear hg hu D4
    cases b2
    · go_wp2_with fail
      refine bodyPost_ret (v := .agg #[.int .i64 (10 + x), .int .i64 (y)]) (by simp [results, Tryz.results31, go_sem, k0, k1]) rfl ⟨_, rfl, ⟨_, _, rfl⟩, ?_, ?_⟩
      · exact HG4.out.trans_top (D := w.heap.size) (by omega) (by (repeat (first | with_reducible refine Chg.setCell ?_ (by first | exact Nat.le_refl _ | (simp; done) | (simp; omega)) (by first | (simp; done) | (simp; omega)) _ | with_reducible refine Chg.alloc ?_ _ | with_reducible refine Chg.drew ?_)); (with_reducible exact Chg.refl _ _ _)) 
      · refine HU4.out.chg (lo := w.heap.size) (hi := w.heap.size + 1) ?_ hlt
        (repeat (first | with_reducible refine Chg.setCell ?_ (by first | exact Nat.le_refl _ | (simp; done) | (simp; omega)) (by first | (simp; done) | (simp; omega)) _ | with_reducible refine Chg.alloc ?_ _ | with_reducible refine Chg.drew ?_)); (with_reducible exact Chg.refl _ _ _)
    · go_wp2_with fail
      refine (l1PickInt_any cb A n c w4.heap.size 3 (-1) 1001 _ (HU4.out.alloc _) (by decide) (by decide) HU4.out.lt (by simp) ?_).mono ?_
      · intro j hj
        rcases (by omega : j = 0 ∨ j = 1 ∨ j = 2) with rfl | rfl | rfl
        · exact ⟨-1, by simp, by omega, by omega⟩
        · exact ⟨1000, by simp, by omega, by omega⟩
        · exact ⟨1001, by simp, by omega, by omega⟩
      rintro e w5 ⟨v, rfl, ⟨z2, rfl, _, _⟩, hg, hu⟩
      have hs5 : w4.heap.size ≤ w5.heap.size := by have := hg.size; (try simp at this); omega
      have D5 := Lib.hid (((Chg.refl cb (cb + 1) w4).alloc _).trans hg)
      have a0 := (D5.out.cell hltT4 (.inr hlt2)).trans a0
      have a1 := (D5.out.cell hltT4 (.inr hlt2)).trans a1
      have af : ∀ o, w5.frozen? ⟨w2.heap.size, o, none⟩ = false := fun o => (D5.out.frozen hltT4 (.inr hlt2)).trans (af o)
      have k0 := (D5.out.cell hltR4 (.inr hlt)).trans k0
      have k1 := (D5.out.cell hltR4 (.inr hlt)).trans k1
      have kf : ∀ o, w5.frozen? ⟨w.heap.size, o, none⟩ = false := fun o => (D5.out.frozen hltR4 (.inr hlt)).trans (kf o)
      have HG5 := Lib.hid (HG4.out.trans D5.out)
      have HU5 := Lib.hid hu
      have hltR5 : w.heap.size < w5.heap.size := by omega
      have hltT5 : w2.heap.size < w5.heap.size := by omega
      clear hg hu D5
      go_upto_region 6 with fail
      obtain ⟨w6, hw⟩ : ∃ q, q = w5.setCell ⟨w2.heap.size, 1, none⟩ (.int .i64 z2) := ⟨_, rfl⟩
      have D6 : Hid (Chg w2.heap.size (w2.heap.size + 1) w5 w6) := by show Chg _ _ _ _; rw [hw]; exact Chg.setCell (p := ⟨w2.heap.size, 1, none⟩) (Chg.refl _ _ w5) (Nat.le_refl _) (Nat.lt_succ_self _) _
      have hs6 : w5.heap.size ≤ w6.heap.size := D6.out.size
      have a0' : w6.cell? ⟨w2.heap.size, 0, none⟩ = some (.int .i64 (10 + x)) := by rw [hw]; simp [go_sem, a0]
      have a1' : w6.cell? ⟨w2.heap.size, 1, none⟩ = some (.int .i64 (z2)) := by rw [hw]; simp [go_sem, a1]
      have af' : ∀ o, w6.frozen? ⟨w2.heap.size, o, none⟩ = false := fun o => by rw [hw]; simp [go_sem, af]
      have k0 := (D6.out.cell hltR5 (.inl (by omega))).trans k0
      have k1 := (D6.out.cell hltR5 (.inl (by omega))).trans k1
      have kf : ∀ o, w6.frozen? ⟨w.heap.size, o, none⟩ = false := fun o => (D6.out.frozen hltR5 (.inl (by omega))).trans (kf o)
      have HG6 : Hid (Chg cb (cb + 1) w w6) := Lib.hid ⟨D6.out.os.trans HG5.out.os, D6.out.tape.trans HG5.out.tape, D6.out.output.trans HG5.out.output, Nat.le_trans HG5.out.size D6.out.size, fun q h1 h2 => (D6.out.block q (by have := HG5.out.size; omega) (.inl (by omega))).trans (HG5.out.block q h1 h2)⟩
      have HU6 := Lib.hid (HU5.out.chg D6.out hlt2)
      have hltR6 : w.heap.size < w6.heap.size := by omega
      have hltT6 : w2.heap.size < w6.heap.size := by omega
      rw [← hw]
      clear hw D6 a0 a1 af
      have a0 := a0'
      have a1 := a1'
      go_wp2_with fail
      refine bodyPost_ret (v := .agg #[.int .i64 (10 + x), .int .i64 (z2)]) (by simp [results, Tryz.results31, go_sem, k0, k1]) rfl ⟨_, rfl, ⟨_, _, rfl⟩, ?_, ?_⟩
      · exact HG6.out.trans_top (D := w.heap.size) (by omega) (by (repeat (first | with_reducible refine Chg.setCell ?_ (by first | exact Nat.le_refl _ | (simp; done) | (simp; omega)) (by first | (simp; done) | (simp; omega)) _ | with_reducible refine Chg.alloc ?_ _ | with_reducible refine Chg.drew ?_)); (with_reducible exact Chg.refl _ _ _)) 
      · refine HU6.out.chg (lo := w.heap.size) (hi := w.heap.size + 1) ?_ hlt
        (repeat (first | with_reducible refine Chg.setCell ?_ (by first | exact Nat.le_refl _ | (simp; done) | (simp; omega)) (by first | (simp; done) | (simp; omega)) _ | with_reducible refine Chg.alloc ?_ _ | with_reducible refine Chg.drew ?_)); (with_reducible exact Chg.refl _ _ _)
  · go_wp2_with fail
    refine (l1PickInt_any cb A n c w3.heap.size 4 (0) 100001 _ (HU3.out.alloc _) (by decide) (by decide) HU3.out.lt (by simp) ?_).mono ?_
    · intro j hj
      rcases (by omega : j = 0 ∨ j = 1 ∨ j = 2 ∨ j = 3) with rfl | rfl | rfl | rfl
      · exact ⟨0, by simp, by omega, by omega⟩
      · exact ⟨1, by simp, by omega, by omega⟩
      · exact ⟨100000, by simp, by omega, by omega⟩
      · exact ⟨100001, by simp, by omega, by omega⟩
    rintro e w4 ⟨v, rfl, ⟨z1, rfl, _, _⟩, hg, hu⟩
    have hs4 : w3.heap.size ≤ w4.heap.size := by have := hg.size; (try simp at this); omega
    have D4 := Lib.hid (((Chg.refl cb (cb + 1) w3).alloc _).trans hg)
    have a0 := (D4.out.cell hltT3 (.inr hlt2)).trans a0
    have a1 := (D4.out.cell hltT3 (.inr hlt2)).trans a1
    have af : ∀ o, w4.frozen? ⟨w2.heap.size, o, none⟩ = false := fun o => (D4.out.frozen hltT3 (.inr hlt2)).trans (af o)
    have k0 := (D4.out.cell hltR3 (.inr hlt)).trans k0
    have k1 := (D4.out.cell hltR3 (.inr hlt)).trans k1
    have kf : ∀ o, w4.frozen? ⟨w.heap.size, o, none⟩ = false := fun o => (D4.out.frozen hltR3 (.inr hlt)).trans (kf o)
    have HG4 := Lib.hid (HG3.out.trans D4.out)
    have HU4 := Lib.hid hu
    have hltR4 : w.heap.size < w4.heap.size := by omega
    have hltT4 : w2.heap.size < w4.heap.size := by omega
    clear hg hu D4
    go_upto_region 4 with fail
    obtain ⟨w5, hw⟩ : ∃ q, q = w4.setCell ⟨w2.heap.size, 0, none⟩ (.int .i64 z1) := ⟨_, rfl⟩
    have D5 : Hid (Chg w2.heap.size (w2.heap.size + 1) w4 w5) := by show Chg _ _ _ _; rw [hw]; exact Chg.setCell (p := ⟨w2.heap.size, 0, none⟩) (Chg.refl _ _ w4) (Nat.le_refl _) (Nat.lt_succ_self _) _
    have hs5 : w4.heap.size ≤ w5.heap.size := D5.out.size
    have a0' : w5.cell? ⟨w2.heap.size, 0, none⟩ = some (.int .i64 (z1)) := by rw [hw]; simp [go_sem, a0]
    have a1' : w5.cell? ⟨w2.heap.size, 1, none⟩ = some (.int .i64 (y)) := by rw [hw]; simp [go_sem, a1]
    have af' : ∀ o, w5.frozen? ⟨w2.heap.size, o, none⟩ = false := fun o => by rw [hw]; simp [go_sem, af]
    have k0 := (D5.out.cell hltR4 (.inl (by omega))).trans k0
    have k1 := (D5.out.cell hltR4 (.inl (by omega))).trans k1
    have kf : ∀ o, w5.frozen? ⟨w.heap.size, o, none⟩ = false := fun o => (D5.out.frozen hltR4 (.inl (by omega))).trans (kf o)
    have HG5 : Hid (Chg cb (cb + 1) w w5) := Lib.hid ⟨D5.out.os.trans HG4.out.os, D5.out.tape.trans HG4.out.tape, D5.out.output.trans HG4.out.output, Nat.le_trans HG4.out.size D5.out.size, fun q h1 h2 => (D5.out.block q (by have := HG4.out.size; omega) (.inl (by omega))).trans (HG4.out.block q h1 h2)⟩
    have HU5 := Lib.hid (HU4.out.chg D5.out hlt2)
    have hltR5 : w.heap.size < w5.heap.size := by omega
    have hltT5 : w2.heap.size < w5.heap.size := by omega
    rw [← hw]
    clear hw D5 a0 a1 af
    have a0 := a0'
    have a1 := a1'
    have af := af'
    go_wp2_with fail
    refine (l1Once_any cb A n c 12 _ HU5.out (by omega)).mono ?_
    rintro e w6 ⟨v, rfl, ⟨b2, rfl⟩, hg, hu⟩
    have hs6 : w5.heap.size ≤ w6.heap.size := by have := hg.size; (try simp at this); omega
    have D6 := Lib.hid ((Chg.refl cb (cb + 1) w5).trans hg)
    have a0 := (D6.out.cell hltT5 (.inr hlt2)).trans a0
    have a1 := (D6.out.cell hltT5 (.inr hlt2)).trans a1
    have af : ∀ o, w6.frozen? ⟨w2.heap.size, o, none⟩ = false := fun o => (D6.out.frozen hltT5 (.inr hlt2)).trans (af o)
    have k0 := (D6.out.cell hltR5 (.inr hlt)).trans k0
    have k1 := (D6.out.cell hltR5 (.inr hlt)).trans k1
    have kf : ∀ o, w6.frozen? ⟨w.heap.size, o, none⟩ = false := fun o => (D6.out.frozen hltR5 (.inr hlt)).trans (kf o)
    have HG6 := Lib.hid (HG5.out.trans D6.out)
    have HU6 := Lib.hid hu
    have hltR6 : w.heap.size < w6.heap.size := by omega
    have hltT6 : w2.heap.size < w6.heap.size := by omega
    clear hg hu D6
    cases b2
    · go_wp2_with fail
      refine bodyPost_ret (v := .agg #[.int .i64 (z1), .int .i64 (y)]) (by simp [results, Tryz.results31, go_sem, k0, k1]) rfl ⟨_, rfl, ⟨_, _, rfl⟩, ?_, ?_⟩
      · exact HG6.out.trans_top (D := w.heap.size) (by omega) (by (repeat (first | with_reducible refine Chg.setCell ?_ (by first | exact Nat.le_refl _ | (simp; done) | (simp; omega)) (by first | (simp; done) | (simp; omega)) _ | with_reducible refine Chg.alloc ?_ _ | with_reducible refine Chg.drew ?_)); (with_reducible exact Chg.refl _ _ _)) 
      · refine HU6.out.chg (lo := w.heap.size) (hi := w.heap.size + 1) ?_ hlt
        (repeat (first | with_reducible refine Chg.setCell ?_ (by first | exact Nat.le_refl _ | (simp; done) | (simp; omega)) (by first | (simp; done) | (simp; omega)) _ | with_reducible refine Chg.alloc ?_ _ | with_reducible refine Chg.drew ?_)); (with_reducible exact Chg.refl _ _ _)
    · go_wp2_with fail
      refine (l1PickInt_any cb A n c w6.heap.size 3 (-1) 1001 _ (HU6.out.alloc _) (by decide) (by decide) HU6.out.lt (by simp) ?_).mono ?_
      · intro j hj
        rcases (by omega : j = 0 ∨ j = 1 ∨ j = 2) with rfl | rfl | rfl
        · exact ⟨-1, by simp, by omega, by omega⟩
        · exact ⟨1000, by simp, by omega, by omega⟩
        · exact ⟨1001, by simp, by omega, by omega⟩
      rintro e w7 ⟨v, rfl, ⟨z2, rfl, _, _⟩, hg, hu⟩
      have hs7 : w6.heap.size ≤ w7.heap.size := by have := hg.size; (try simp at this); omega
      have D7 := Lib.hid (((Chg.refl cb (cb + 1) w6).alloc _).trans hg)
      have a0 := (D7.out.cell hltT6 (.inr hlt2)).trans a0
      have a1 := (D7.out.cell hltT6 (.inr hlt2)).trans a1
      have af : ∀ o, w7.frozen? ⟨w2.heap.size, o, none⟩ = false := fun o => (D7.out.frozen hltT6 (.inr hlt2)).trans (af o)
      have k0 := (D7.out.cell hltR6 (.inr hlt)).trans k0
      have k1 := (D7.out.cell hltR6 (.inr hlt)).trans k1
      have kf : ∀ o, w7.frozen? ⟨w.heap.size, o, none⟩ = false := fun o => (D7.out.frozen hltR6 (.inr hlt)).trans (kf o)
      have HG7 := Lib.hid (HG6.out.trans D7.out)
      have HU7 := Lib.hid hu
      have hltR7 : w.heap.size < w7.heap.size := by omega
      have hltT7 : w2.heap.size < w7.heap.size := by omega
      clear hg hu D7
      go_upto_region 6 with fail
      obtain ⟨w8, hw⟩ : ∃ q, q = w7.setCell ⟨w2.heap.size, 1, none⟩ (.int .i64 z2) := ⟨_, rfl⟩
      have D8 : Hid (Chg w2.heap.size (w2.heap.size + 1) w7 w8) := by show Chg _ _ _ _; rw [hw]; exact Chg.setCell (p := ⟨w2.heap.size, 1, none⟩) (Chg.refl _ _ w7) (Nat.le_refl _) (Nat.lt_succ_self _) _
      have hs8 : w7.heap.size ≤ w8.heap.size := D8.out.size
      have a0' : w8.cell? ⟨w2.heap.size, 0, none⟩ = some (.int .i64 (z1)) := by rw [hw]; simp [go_sem, a0]
      have a1' : w8.cell? ⟨w2.heap.size, 1, none⟩ = some (.int .i64 (z2)) := by rw [hw]; simp [go_sem, a1]
      have af' : ∀ o, w8.frozen? ⟨w2.heap.size, o, none⟩ = false := fun o => by rw [hw]; simp [go_sem, af]
      have k0 := (D8.out.cell hltR7 (.inl (by omega))).trans k0
      have k1 := (D8.out.cell hltR7 (.inl (by omega))).trans k1
      have kf : ∀ o, w8.frozen? ⟨w.heap.size, o, none⟩ = false := fun o => (D8.out.frozen hltR7 (.inl (by omega))).trans (kf o)
      have HG8 : Hid (Chg cb (cb + 1) w w8) := Lib.hid ⟨D8.out.os.trans HG7.out.os, D8.out.tape.trans HG7.out.tape, D8.out.output.trans HG7.out.output, Nat.le_trans HG7.out.size D8.out.size, fun q h1 h2 => (D8.out.block q (by have := HG7.out.size; omega) (.inl (by omega))).trans (HG7.out.block q h1 h2)⟩
      have HU8 := Lib.hid (HU7.out.chg D8.out hlt2)
      have hltR8 : w.heap.size < w8.heap.size := by omega
      have hltT8 : w2.heap.size < w8.heap.size := by omega
      rw [← hw]
      clear hw D8 a0 a1 af
      have a0 := a0'
      have a1 := a1'
      go_wp2_with fail
      refine bodyPost_ret (v := .agg #[.int .i64 (z1), .int .i64 (z2)]) (by simp [results, Tryz.results31, go_sem, k0, k1]) rfl ⟨_, rfl, ⟨_, _, rfl⟩, ?_, ?_⟩
      · exact HG8.out.trans_top (D := w.heap.size) (by omega) (by (repeat (first | with_reducible refine Chg.setCell ?_ (by first | exact Nat.le_refl _ | (simp; done) | (simp; omega)) (by first | (simp; done) | (simp; omega)) _ | with_reducible refine Chg.alloc ?_ _ | with_reducible refine Chg.drew ?_)); (with_reducible exact Chg.refl _ _ _)) 
      · refine HU8.out.chg (lo := w.heap.size) (hi := w.heap.size + 1) ?_ hlt
        (repeat (first | with_reducible refine Chg.setCell ?_ (by first | exact Nat.le_refl _ | (simp; done) | (simp; omega)) (by first | (simp; done) | (simp; omega)) _ | with_reducible refine Chg.alloc ?_ _ | with_reducible refine Chg.drew ?_)); (with_reducible exact Chg.refl _ _ _)
end Go.Proofs.YtelnnegfkdfpiaaGreatDoor

namespace Go.Proofs.YtelnnegfkdfpiaaGreatDoor
open Go.RowKit

/-- what a verification is tried at -/
def VerDrew (w : World) (e : Ending) (w' : World) : Prop :=
  ∃ (per sl : Int) (sa : HeaderD) (al : List ValD) (Aa : Option Addr) (ca : Nat) (sh : HeaderD) (nl : List ValD) (B : Option Addr) (d : Nat) (pc : ComD) (sg : List CSigD) (D : Option Addr) (q : Nat) (now : Int),
    e = .returned (.tuple #[.agg #[.int .i64 per, .int .i64 sl], .agg #[.int .i64 sa.h, .int .i64 sa.t, .string sa.last, .string sa.vals, .string sa.next, .string sa.data, .slice Aa al.length ca], .agg #[.int .i64 sh.h, .int .i64 sh.t, .string sh.last, .string sh.vals, .string sh.next, .string sh.data], .slice B nl.length d, .agg #[.int .i64 pc.h, .int .i64 pc.r, .string pc.id, .slice D sg.length q], .int .i64 now]) ∧
    RdL valC 2 w' w'.heap.size Aa al.length ca al ∧ RdL valC 2 w' w'.heap.size B nl.length d nl ∧ RdL csigC 2 w' w'.heap.size D sg.length q sg ∧ al.length ≤ 100 ∧ nl.length ≤ 100 ∧ sg.length ≤ 100 ∧ Below w.heap.size w w'
/-- four boxes for results -/
structure Res4 (W0 : World) (r : Nat) (w : World) : Prop where
  chg : Chg r (r + 4) W0 w
  b0 : ∃ cs : Array Value, cs.size = 2 ∧ Blk w r 25 cs
  b1 : ∃ cs : Array Value, cs.size = 7 ∧ Blk w (r + 1) 30 cs
  b2 : ∃ cs : Array Value, cs.size = 6 ∧ Blk w (r + 1 + 1) 27 cs
  b3 : ∃ cs : Array Value, cs.size = 4 ∧ Blk w (r + 1 + 1 + 1) 33 cs
theorem Chg.keepB {lo hi g : Nat} {t : TypeId} {cs : Array Value} {a b : World} (h : Chg lo hi a b) (hb : Blk a g t cs) (hs : g < lo ∨ hi ≤ g) : Blk b g t cs := (h.block g hb.lt hs).trans hb
theorem lvs2 {l : List Value} (h : l.length = 2) : ∃ c0 c1, l = [c0, c1] := by
  match l, h with
  | [c0, c1], _ => exact ⟨c0, c1, rfl⟩
theorem lvs7 {l : List Value} (h : l.length = 7) : ∃ c0 c1 c2 c3 c4 c5 c6, l = [c0, c1, c2, c3, c4, c5, c6] := by
  match l, h with
  | [c0, c1, c2, c3, c4, c5, c6], _ => exact ⟨c0, c1, c2, c3, c4, c5, c6, rfl⟩
theorem lvs6 {l : List Value} (h : l.length = 6) : ∃ c0 c1 c2 c3 c4 c5, l = [c0, c1, c2, c3, c4, c5] := by
  match l, h with
  | [c0, c1, c2, c3, c4, c5], _ => exact ⟨c0, c1, c2, c3, c4, c5, rfl⟩
theorem lvs4 {l : List Value} (h : l.length = 4) : ∃ c0 c1 c2 c3, l = [c0, c1, c2, c3] := by
  match l, h with
  | [c0, c1, c2, c3], _ => exact ⟨c0, c1, c2, c3, rfl⟩

set_option maxRecDepth 100000 in
set_option maxHeartbeats 16000000 in
theorem DrawVerify_any (A : Option Addr) (n c : Nat) (l : List UInt8) (w : World) (hl : RdL octC 1 w w.heap.size A n c l) (hn : n ≤ 1048576) :
    Calls Tryz.prog 6 #[.slice A n c] w (VerDrew w) := by
  have HL := Lib.hid hl
  clear hl
  go_enter Tryz.func6, Tryz.ntmps6
  go_upto_region 1 with fail
  obtain ⟨v1, hwb⟩ : ∃ q, q = (((w.alloc (.cells #[.int .i64 0, .int .i64 0] 25)).alloc (.cells #[.int .i64 0, .int .i64 0, .string ⟨#[]⟩, .string ⟨#[]⟩, .string ⟨#[]⟩, .string ⟨#[]⟩, .slice none 0 0] 30)).alloc (.cells #[.int .i64 0, .int .i64 0, .string ⟨#[]⟩, .string ⟨#[]⟩, .string ⟨#[]⟩, .string ⟨#[]⟩] 27)).alloc (.cells #[.int .i64 0, .int .i64 0, .string ⟨#[]⟩, .slice none 0 0] 33) := ⟨_, rfl⟩
  rw [← hwb]
  have hxR0 : Blk v1 w.heap.size 25 #[.int .i64 0, .int .i64 0] := by rw [hwb]; have h := heap_alloc_new w (.cells #[.int .i64 0, .int .i64 0] 25); (try simp only [World.size_alloc] at h); exact (Blk.alloc (Blk.alloc (Blk.alloc h _) _) _)
  have hxR1 : Blk v1 (w.heap.size + 1) 30 #[.int .i64 0, .int .i64 0, .string ⟨#[]⟩, .string ⟨#[]⟩, .string ⟨#[]⟩, .string ⟨#[]⟩, .slice none 0 0] := by rw [hwb]; have h := heap_alloc_new (w.alloc (.cells #[.int .i64 0, .int .i64 0] 25)) (.cells #[.int .i64 0, .int .i64 0, .string ⟨#[]⟩, .string ⟨#[]⟩, .string ⟨#[]⟩, .string ⟨#[]⟩, .slice none 0 0] 30); (try simp only [World.size_alloc] at h); exact (Blk.alloc (Blk.alloc h _) _)
  have hxR2 : Blk v1 (w.heap.size + 1 + 1) 27 #[.int .i64 0, .int .i64 0, .string ⟨#[]⟩, .string ⟨#[]⟩, .string ⟨#[]⟩, .string ⟨#[]⟩] := by rw [hwb]; have h := heap_alloc_new ((w.alloc (.cells #[.int .i64 0, .int .i64 0] 25)).alloc (.cells #[.int .i64 0, .int .i64 0, .string ⟨#[]⟩, .string ⟨#[]⟩, .string ⟨#[]⟩, .string ⟨#[]⟩, .slice none 0 0] 30)) (.cells #[.int .i64 0, .int .i64 0, .string ⟨#[]⟩, .string ⟨#[]⟩, .string ⟨#[]⟩, .string ⟨#[]⟩] 27); (try simp only [World.size_alloc] at h); exact (Blk.alloc h _)
  have hxR3 : Blk v1 (w.heap.size + 1 + 1 + 1) 33 #[.int .i64 0, .int .i64 0, .string ⟨#[]⟩, .slice none 0 0] := by rw [hwb]; have h := heap_alloc_new (((w.alloc (.cells #[.int .i64 0, .int .i64 0] 25)).alloc (.cells #[.int .i64 0, .int .i64 0, .string ⟨#[]⟩, .string ⟨#[]⟩, .string ⟨#[]⟩, .string ⟨#[]⟩, .slice none 0 0] 30)).alloc (.cells #[.int .i64 0, .int .i64 0, .string ⟨#[]⟩, .string ⟨#[]⟩, .string ⟨#[]⟩, .string ⟨#[]⟩] 27)) (.cells #[.int .i64 0, .int .i64 0, .string ⟨#[]⟩, .slice none 0 0] 33); (try simp only [World.size_alloc] at h); exact h
  have hb0 : Below w.heap.size w v1 := by rw [hwb]; exact (Below.alloc (Below.alloc (Below.alloc (Below.alloc (Below.refl _ _) (by first | exact Nat.le_refl _ | (simp; done) | (simp; omega)) _) (by first | exact Nat.le_refl _ | (simp; done) | (simp; omega)) _) (by first | exact Nat.le_refl _ | (simp; done) | (simp; omega)) _) (by first | exact Nat.le_refl _ | (simp; done) | (simp; omega)) _)
  clear hwb
  have hs1 := hb0.size
  have XR01 := Lib.hid hxR0
  have ltR0 := hxR0.lt
  clear hxR0
  have XR11 := Lib.hid hxR1
  have ltR1 := hxR1.lt
  clear hxR1
  have XR21 := Lib.hid hxR2
  have ltR2 := hxR2.lt
  clear hxR2
  have XR31 := Lib.hid hxR3
  have ltR3 := hxR3.lt
  clear hxR3
  have B1 := Lib.hid hb0
  clear hb0
  go_wp2_with fail
  refine (l1New_any A n c l _ ((HL.out.below B1.out (Nat.le_refl _)).more B1.out.size) hn).mono ?_
  rintro e v2 ⟨rfl, hu, hb⟩
  have hcv := hu.lt
  have hs2 := hb.size
  have R02 := Lib.hid (XR01.out.below hb XR01.out.lt)
  have R12 := Lib.hid (XR11.out.below hb XR11.out.lt)
  have R22 := Lib.hid (XR21.out.below hb XR21.out.lt)
  have R32 := Lib.hid (XR31.out.below hb XR31.out.lt)
  have BW := Lib.hid (B1.out.trans (hb.mono B1.out.size))
  obtain ⟨cb, hcb⟩ : ∃ z, z = v1.heap.size := ⟨_, rfl⟩
  rw [← hcb] at hu hcv ⊢
  have hcb0 : w.heap.size + 4 ≤ cb := by omega
  have hcb1 : cb ≤ v2.heap.size := by omega
  clear hb hcb XR01 XR11 XR21 XR31 B1
  have U2 := Lib.hid hu
  have CH2 := Lib.hid (Chg.refl cb (cb + 1) v2)
  clear hu
  go_wp2_with fail
  refine (l10Trust_any cb A n c _ U2.out).mono ?_
  rintro e v3 ⟨v, rfl, ⟨per, sl, rfl⟩, hg, hu⟩
  have hs3 := hg.size
  have R03 := Lib.hid (show Blk _ _ _ _ from (hg.block _ R02.out.lt (by omega)).trans R02.out)
  have R13 := Lib.hid (show Blk _ _ _ _ from (hg.block _ R12.out.lt (by omega)).trans R12.out)
  have R23 := Lib.hid (show Blk _ _ _ _ from (hg.block _ R22.out.lt (by omega)).trans R22.out)
  have R33 := Lib.hid (show Blk _ _ _ _ from (hg.block _ R32.out.lt (by omega)).trans R32.out)
  have U3 := Lib.hid (hu)
  have CH3 := Lib.hid (CH2.out.trans hg)
  clear hg hu R02 R12 R22 R32 U2 CH2
  go_upto_region 3 with fail
  obtain ⟨v4, hnw⟩ : ∃ zq, zq = v3.alloc (.cells #[.int .i64 per, .int .i64 sl] 25) := ⟨_, rfl⟩
  rw [← hnw]
  have hb : Below v3.heap.size v3 v4 := by rw [hnw]; exact (Below.refl _ _).alloc (Nat.le_refl _) _
  have hxx : Blk v4 v3.heap.size 25 #[.int .i64 per, .int .i64 sl] := by rw [hnw]; exact heap_alloc_new v3 _
  clear hnw
  have hs4 := hb.size
  have R04 := Lib.hid (R03.out.below hb R03.out.lt)
  have R14 := Lib.hid (R13.out.below hb R13.out.lt)
  have R24 := Lib.hid (R23.out.below hb R23.out.lt)
  have R34 := Lib.hid (R33.out.below hb R33.out.lt)
  have U4 := Lib.hid (U3.out.below hb U3.out.lt (Nat.le_refl _))
  have CH4 := Lib.hid (CH3.out.below_trans hb)
  clear hb R03 R13 R23 R33 U3 CH3
  have BT4 := Lib.hid hxx
  have ltBT := hxx.lt
  clear hxx
  go_wp2_with fail
  refine (l11Anchor_any cb A n c _ U4.out).mono ?_
  rintro e v5 ⟨sa, al, Aa, ca, rfl, ho, hal, hg, hu⟩
  have HO := Lib.hid ho
  clear ho
  have hs5 := hg.size
  have R05 := Lib.hid (show Blk _ _ _ _ from (hg.block _ R04.out.lt (by omega)).trans R04.out)
  have R15 := Lib.hid (show Blk _ _ _ _ from (hg.block _ R14.out.lt (by omega)).trans R14.out)
  have R25 := Lib.hid (show Blk _ _ _ _ from (hg.block _ R24.out.lt (by omega)).trans R24.out)
  have R35 := Lib.hid (show Blk _ _ _ _ from (hg.block _ R34.out.lt (by omega)).trans R34.out)
  have U5 := Lib.hid (hu)
  have CH5 := Lib.hid (CH4.out.trans hg)
  have BT5 := Lib.hid (show Blk _ _ _ _ from (hg.block _ BT4.out.lt (by omega)).trans BT4.out)
  clear hg hu R04 R14 R24 R34 U4 CH4 BT4
  have OA5 := HO
  clear HO
  go_upto_region 4 with fail
  obtain ⟨v6, hnw⟩ : ∃ zq, zq = v5.alloc (.cells #[.int .i64 sa.h, .int .i64 sa.t, .string sa.last, .string sa.vals, .string sa.next, .string sa.data, .slice Aa al.length ca] 30) := ⟨_, rfl⟩
  rw [← hnw]
  have hb : Below v5.heap.size v5 v6 := by rw [hnw]; exact (Below.refl _ _).alloc (Nat.le_refl _) _
  have hxx : Blk v6 v5.heap.size 30 #[.int .i64 sa.h, .int .i64 sa.t, .string sa.last, .string sa.vals, .string sa.next, .string sa.data, .slice Aa al.length ca] := by rw [hnw]; exact heap_alloc_new v5 _
  clear hnw
  have hs6 := hb.size
  have R06 := Lib.hid (R05.out.below hb R05.out.lt)
  have R16 := Lib.hid (R15.out.below hb R15.out.lt)
  have R26 := Lib.hid (R25.out.below hb R25.out.lt)
  have R36 := Lib.hid (R35.out.below hb R35.out.lt)
  have U6 := Lib.hid (U5.out.below hb U5.out.lt (Nat.le_refl _))
  have CH6 := Lib.hid (CH5.out.below_trans hb)
  have BT6 := Lib.hid (BT5.out.below hb BT5.out.lt)
  have OA6 := Lib.hid (OA5.out.below hb (by omega))
  clear hb R05 R15 R25 R35 U5 CH5 BT5 OA5
  have BA6 := Lib.hid hxx
  have ltBA := hxx.lt
  clear hxx
  have ceBA := BA6.out.cell
  have lbBA := BA6.out.lt
  go_wp2_with fail
  refine (l11Next_any cb A n c sa Aa ca v2.heap.size al _ U6.out (OA6.out.wide (by omega) (by omega)) hcv hal).mono ?_
  rintro e v7 ⟨sh, nl, B, d, pc, sg, D, q, rfl, ho, hnl, ho2, hsg, hg, hu⟩
  have HO := Lib.hid ho
  clear ho
  have HO2 := Lib.hid ho2
  clear ho2
  clear ceBA lbBA
  have hs7 := hg.size
  have R07 := Lib.hid (show Blk _ _ _ _ from (hg.block _ R06.out.lt (by omega)).trans R06.out)
  have R17 := Lib.hid (show Blk _ _ _ _ from (hg.block _ R16.out.lt (by omega)).trans R16.out)
  have R27 := Lib.hid (show Blk _ _ _ _ from (hg.block _ R26.out.lt (by omega)).trans R26.out)
  have R37 := Lib.hid (show Blk _ _ _ _ from (hg.block _ R36.out.lt (by omega)).trans R36.out)
  have U7 := Lib.hid (hu)
  have CH7 := Lib.hid (CH6.out.trans hg)
  have BT7 := Lib.hid (show Blk _ _ _ _ from (hg.block _ BT6.out.lt (by omega)).trans BT6.out)
  have OA7 := Lib.hid (OA6.out.chg hg (by omega))
  have BA7 := Lib.hid (show Blk _ _ _ _ from (hg.block _ BA6.out.lt (by omega)).trans BA6.out)
  clear hg hu R06 R16 R26 R36 U6 CH6 BT6 OA6 BA6
  have ON7 := HO
  clear HO
  have OS7 := HO2
  clear HO2
  go_upto_region 5 with fail
  obtain ⟨v8, hnw⟩ : ∃ zq, zq = (v7.alloc (.cells #[.int .i64 sh.h, .int .i64 sh.t, .string sh.last, .string sh.vals, .string sh.next, .string sh.data] 27)).alloc (.cells #[.int .i64 pc.h, .int .i64 pc.r, .string pc.id, .slice D sg.length q] 33) := ⟨_, rfl⟩
  rw [← hnw]
  have hb : Below v7.heap.size v7 v8 := by rw [hnw]; exact ((Below.refl _ _).alloc (Nat.le_refl _) _).alloc (by simp) _
  have hxx : Blk v8 v7.heap.size 27 #[.int .i64 sh.h, .int .i64 sh.t, .string sh.last, .string sh.vals, .string sh.next, .string sh.data] := by rw [hnw]; exact Blk.alloc (heap_alloc_new v7 _) _
  have hxy : Blk v8 (v7.heap.size + 1) 33 #[.int .i64 pc.h, .int .i64 pc.r, .string pc.id, .slice D sg.length q] := by rw [hnw]; have h := heap_alloc_new (v7.alloc (.cells #[.int .i64 sh.h, .int .i64 sh.t, .string sh.last, .string sh.vals, .string sh.next, .string sh.data] 27)) (.cells #[.int .i64 pc.h, .int .i64 pc.r, .string pc.id, .slice D sg.length q] 33); rw [World.size_alloc] at h; exact h
  clear hnw
  have hs8 := hb.size
  have R08 := Lib.hid (R07.out.below hb R07.out.lt)
  have R18 := Lib.hid (R17.out.below hb R17.out.lt)
  have R28 := Lib.hid (R27.out.below hb R27.out.lt)
  have R38 := Lib.hid (R37.out.below hb R37.out.lt)
  have U8 := Lib.hid (U7.out.below hb U7.out.lt (Nat.le_refl _))
  have CH8 := Lib.hid (CH7.out.below_trans hb)
  have BT8 := Lib.hid (BT7.out.below hb BT7.out.lt)
  have OA8 := Lib.hid (OA7.out.below hb (by omega))
  have BA8 := Lib.hid (BA7.out.below hb BA7.out.lt)
  have ON8 := Lib.hid (ON7.out.below hb (by omega))
  have OS8 := Lib.hid (OS7.out.below hb (by omega))
  clear hb R07 R17 R27 R37 U7 CH7 BT7 OA7 BA7 ON7 OS7
  have BH8 := Lib.hid hxx
  have ltBH := hxx.lt
  have BC8 := Lib.hid hxy
  have ltBC := hxy.lt
  clear hxx hxy
  have ceBH := BH8.out.cell
  have lbBH := BH8.out.lt
  go_cut [14] (fun nv wx => ∃ x : Int, nv = .int .i64 x ∧ Chg cb (cb + 1) v8 wx ∧ Cur wx cb A n c)
  case first =>
    go_region_with (go_at_call 34; (refine (l1Below_any cb A n c 9 _ (by exact U8.out.drew) (by omega)).mono ?_); rintro e wr ⟨v, rfl, ⟨x, rfl, x0, x1⟩, hg, hu⟩; have hg : Chg cb (cb + 1) v8 wr := (Chg.refl cb (cb + 1) v8).drew.trans hg; have zr : ∀ o, wr.cell? ⟨v7.heap.size, o, none⟩ = _ := fun o => (hg.cell (k := v7.heap.size) (by omega) (.inr (by omega))).trans (ceBH o); have GR := Lib.hid hg; have UR := Lib.hid hu; clear hg hu)
    all_goals
      go_wp2_with fail
      go_meet
      exact ⟨_, rfl, GR.out, UR.out⟩
  case rest =>
  obtain ⟨now, rfl, hg, hu⟩ := hcut
  obtain ⟨v9, hwv⟩ : ∃ z, z = wc := ⟨_, rfl⟩
  subst hwv
  clear ceBH lbBH
  have hs9 := hg.size
  have R09 := Lib.hid (show Blk _ _ _ _ from (hg.block _ R08.out.lt (by omega)).trans R08.out)
  have R19 := Lib.hid (show Blk _ _ _ _ from (hg.block _ R18.out.lt (by omega)).trans R18.out)
  have R29 := Lib.hid (show Blk _ _ _ _ from (hg.block _ R28.out.lt (by omega)).trans R28.out)
  have R39 := Lib.hid (show Blk _ _ _ _ from (hg.block _ R38.out.lt (by omega)).trans R38.out)
  have U9 := Lib.hid (hu)
  have CH9 := Lib.hid (CH8.out.trans hg)
  have BT9 := Lib.hid (show Blk _ _ _ _ from (hg.block _ BT8.out.lt (by omega)).trans BT8.out)
  have OA9 := Lib.hid (OA8.out.chg hg (by omega))
  have BA9 := Lib.hid (show Blk _ _ _ _ from (hg.block _ BA8.out.lt (by omega)).trans BA8.out)
  have ON9 := Lib.hid (ON8.out.chg hg (by omega))
  have OS9 := Lib.hid (OS8.out.chg hg (by omega))
  have BH9 := Lib.hid (show Blk _ _ _ _ from (hg.block _ BH8.out.lt (by omega)).trans BH8.out)
  have BC9 := Lib.hid (show Blk _ _ _ _ from (hg.block _ BC8.out.lt (by omega)).trans BC8.out)
  clear hg hu R08 R18 R28 R38 U8 CH8 BT8 OA8 BA8 ON8 OS8 BH8 BC8
  go_wp2_with fail
  refine (l1Once_any cb A n c 5 _ U9.out (by omega)).mono ?_
  rintro e v10 ⟨v, rfl, ⟨b, rfl⟩, hg, hu⟩
  have hs10 := hg.size
  have R010 := Lib.hid (show Blk _ _ _ _ from (hg.block _ R09.out.lt (by omega)).trans R09.out)
  have R110 := Lib.hid (show Blk _ _ _ _ from (hg.block _ R19.out.lt (by omega)).trans R19.out)
  have R210 := Lib.hid (show Blk _ _ _ _ from (hg.block _ R29.out.lt (by omega)).trans R29.out)
  have R310 := Lib.hid (show Blk _ _ _ _ from (hg.block _ R39.out.lt (by omega)).trans R39.out)
  have U10 := Lib.hid (hu)
  have CH10 := Lib.hid (CH9.out.trans hg)
  have BT10 := Lib.hid (show Blk _ _ _ _ from (hg.block _ BT9.out.lt (by omega)).trans BT9.out)
  have OA10 := Lib.hid (OA9.out.chg hg (by omega))
  have BA10 := Lib.hid (show Blk _ _ _ _ from (hg.block _ BA9.out.lt (by omega)).trans BA9.out)
  have ON10 := Lib.hid (ON9.out.chg hg (by omega))
  have OS10 := Lib.hid (OS9.out.chg hg (by omega))
  have BH10 := Lib.hid (show Blk _ _ _ _ from (hg.block _ BH9.out.lt (by omega)).trans BH9.out)
  have BC10 := Lib.hid (show Blk _ _ _ _ from (hg.block _ BC9.out.lt (by omega)).trans BC9.out)
  clear hg hu R09 R19 R29 R39 U9 CH9 BT9 OA9 BA9 ON9 OS9 BH9 BC9
  go_upto_if 35 with fail
  go_cut [14] (fun nv wx => ∃ x : Int, nv = .int .i64 x ∧ Chg cb (cb + 1) v10 wx ∧ Cur wx cb A n c)
  case first =>
    cases b
    · go_wp2_with fail
      go_meet
      exact ⟨_, rfl, Chg.refl _ _ _, U10.out⟩
    · go_wp2_with fail
      refine (l10At_any cb A n c _ U10.out).mono ?_
      rintro e wr ⟨v, rfl, ⟨x, rfl, x0, x1⟩, hg, hu⟩
      go_wp2_with fail
      go_meet
      exact ⟨_, rfl, hg, hu⟩
  case rest =>
  obtain ⟨now, rfl, hg, hu⟩ := hcut
  obtain ⟨v11, hwv⟩ : ∃ z, z = wc := ⟨_, rfl⟩
  subst hwv
  have hs11 := hg.size
  have R011 := Lib.hid (show Blk _ _ _ _ from (hg.block _ R010.out.lt (by omega)).trans R010.out)
  have R111 := Lib.hid (show Blk _ _ _ _ from (hg.block _ R110.out.lt (by omega)).trans R110.out)
  have R211 := Lib.hid (show Blk _ _ _ _ from (hg.block _ R210.out.lt (by omega)).trans R210.out)
  have R311 := Lib.hid (show Blk _ _ _ _ from (hg.block _ R310.out.lt (by omega)).trans R310.out)
  have U11 := Lib.hid (hu)
  have CH11 := Lib.hid (CH10.out.trans hg)
  have BT11 := Lib.hid (show Blk _ _ _ _ from (hg.block _ BT10.out.lt (by omega)).trans BT10.out)
  have OA11 := Lib.hid (OA10.out.chg hg (by omega))
  have BA11 := Lib.hid (show Blk _ _ _ _ from (hg.block _ BA10.out.lt (by omega)).trans BA10.out)
  have ON11 := Lib.hid (ON10.out.chg hg (by omega))
  have OS11 := Lib.hid (OS10.out.chg hg (by omega))
  have BH11 := Lib.hid (show Blk _ _ _ _ from (hg.block _ BH10.out.lt (by omega)).trans BH10.out)
  have BC11 := Lib.hid (show Blk _ _ _ _ from (hg.block _ BC10.out.lt (by omega)).trans BC10.out)
  clear hg hu R010 R110 R210 R310 U10 CH10 BT10 OA10 BA10 ON10 OS10 BH10 BC10
  go_wp2_with fail
  refine (l1Once_any cb A n c 15 _ U11.out (by omega)).mono ?_
  rintro e v12 ⟨v, rfl, ⟨b, rfl⟩, hg, hu⟩
  have hs12 := hg.size
  have R012 := Lib.hid (show Blk _ _ _ _ from (hg.block _ R011.out.lt (by omega)).trans R011.out)
  have R112 := Lib.hid (show Blk _ _ _ _ from (hg.block _ R111.out.lt (by omega)).trans R111.out)
  have R212 := Lib.hid (show Blk _ _ _ _ from (hg.block _ R211.out.lt (by omega)).trans R211.out)
  have R312 := Lib.hid (show Blk _ _ _ _ from (hg.block _ R311.out.lt (by omega)).trans R311.out)
  have U12 := Lib.hid (hu)
  have CH12 := Lib.hid (CH11.out.trans hg)
  have BT12 := Lib.hid (show Blk _ _ _ _ from (hg.block _ BT11.out.lt (by omega)).trans BT11.out)
  have OA12 := Lib.hid (OA11.out.chg hg (by omega))
  have BA12 := Lib.hid (show Blk _ _ _ _ from (hg.block _ BA11.out.lt (by omega)).trans BA11.out)
  have ON12 := Lib.hid (ON11.out.chg hg (by omega))
  have OS12 := Lib.hid (OS11.out.chg hg (by omega))
  have BH12 := Lib.hid (show Blk _ _ _ _ from (hg.block _ BH11.out.lt (by omega)).trans BH11.out)
  have BC12 := Lib.hid (show Blk _ _ _ _ from (hg.block _ BC11.out.lt (by omega)).trans BC11.out)
  clear hg hu R011 R111 R211 R311 U11 CH11 BT11 OA11 BA11 ON11 OS11 BH11 BC11
  go_upto_if 39 with fail
  go_cut [] (fun wx => ∃ (al : List ValD) (Aa : Option Addr) (ca : Nat), Blk wx v5.heap.size 30 #[.int .i64 sa.h, .int .i64 sa.t, .string sa.last, .string sa.vals, .string sa.next, .string sa.data, .slice Aa al.length ca] ∧ OwnL valC 2 84 wx v2.heap.size wx.heap.size Aa al.length ca al ∧ al.length ≤ 8 ∧ Blk wx w.heap.size 25 #[.int .i64 0, .int .i64 0] ∧ Blk wx (w.heap.size + 1) 30 #[.int .i64 0, .int .i64 0, .string ⟨#[]⟩, .string ⟨#[]⟩, .string ⟨#[]⟩, .string ⟨#[]⟩, .slice none 0 0] ∧ Blk wx (w.heap.size + 1 + 1) 27 #[.int .i64 0, .int .i64 0, .string ⟨#[]⟩, .string ⟨#[]⟩, .string ⟨#[]⟩, .string ⟨#[]⟩] ∧ Blk wx (w.heap.size + 1 + 1 + 1) 33 #[.int .i64 0, .int .i64 0, .string ⟨#[]⟩, .slice none 0 0] ∧ Blk wx v3.heap.size 25 #[.int .i64 per, .int .i64 sl] ∧ Blk wx v7.heap.size 27 #[.int .i64 sh.h, .int .i64 sh.t, .string sh.last, .string sh.vals, .string sh.next, .string sh.data] ∧ Blk wx (v7.heap.size + 1) 33 #[.int .i64 pc.h, .int .i64 pc.r, .string pc.id, .slice D sg.length q] ∧ OwnL valC 2 84 wx v2.heap.size wx.heap.size B nl.length d nl ∧ OwnL csigC 2 91 wx v2.heap.size wx.heap.size D sg.length q sg ∧ Chg cb (cb + 1) v2 wx ∧ v12.heap.size ≤ wx.heap.size)
  case first =>
    cases b
    · go_wp2_with fail
      go_meet
      exact ⟨al, Aa, ca, BA12.out, OA12.out.wide (by omega) (by omega), hal, R012.out, R112.out, R212.out, R312.out, BT12.out, BH12.out, BC12.out, ON12.out.wide (by omega) (by omega), OS12.out.wide (by omega) (by omega), CH12.out, Nat.le_refl _⟩
    · skip
      go_wp2_with fail
      refine (l6Any_any cb A n c _ U12.out).mono ?_
      rintro e v13 ⟨al2, A2, c2, rfl, ho, m0, m1, hg, hu⟩
      have HO := Lib.hid ho
      clear ho
      have hs13 := hg.size
      have R013 := Lib.hid (show Blk _ _ _ _ from (hg.block _ R012.out.lt (by omega)).trans R012.out)
      have R113 := Lib.hid (show Blk _ _ _ _ from (hg.block _ R112.out.lt (by omega)).trans R112.out)
      have R213 := Lib.hid (show Blk _ _ _ _ from (hg.block _ R212.out.lt (by omega)).trans R212.out)
      have R313 := Lib.hid (show Blk _ _ _ _ from (hg.block _ R312.out.lt (by omega)).trans R312.out)
      have U13 := Lib.hid (hu)
      have CH13 := Lib.hid (CH12.out.trans hg)
      have BT13 := Lib.hid (show Blk _ _ _ _ from (hg.block _ BT12.out.lt (by omega)).trans BT12.out)
      have OA13 := Lib.hid (OA12.out.chg hg (by omega))
      have BA13 := Lib.hid (show Blk _ _ _ _ from (hg.block _ BA12.out.lt (by omega)).trans BA12.out)
      have ON13 := Lib.hid (ON12.out.chg hg (by omega))
      have OS13 := Lib.hid (OS12.out.chg hg (by omega))
      have BH13 := Lib.hid (show Blk _ _ _ _ from (hg.block _ BH12.out.lt (by omega)).trans BH12.out)
      have BC13 := Lib.hid (show Blk _ _ _ _ from (hg.block _ BC12.out.lt (by omega)).trans BC12.out)
      clear hg hu R012 R112 R212 R312 U12 CH12 BT12 OA12 BA12 ON12 OS12 BH12 BC12
      have OT13 := HO
      clear HO
      have ceBA := BA13.out.cell
      have lbBA := BA13.out.lt
      have fzBA := BA13.out.frozen
      go_wp2_with fail
      go_meet
      refine ⟨al2, A2, c2, ?_, ?_, m1, R013.out.far (by show _ ≠ v5.heap.size; omega) _, R113.out.far (by show _ ≠ v5.heap.size; omega) _, R213.out.far (by show _ ≠ v5.heap.size; omega) _, R313.out.far (by show _ ≠ v5.heap.size; omega) _, BT13.out.far (by show _ ≠ v5.heap.size; omega) _, BH13.out.far (by show _ ≠ v5.heap.size; omega) _, BC13.out.far (by show _ ≠ v5.heap.size; omega) _, ?_, ?_, CH13.out.trans_topT (D := v5.heap.size) (hi := v5.heap.size + 1) (by omega) (by (repeat (first | with_reducible refine Chg.setCell ?_ (by first | exact Nat.le_refl _ | (simp; done) | (simp; omega)) (by first | (simp; done) | (simp; omega)) _ | with_reducible refine Chg.alloc ?_ _ | with_reducible refine Chg.drew ?_)); (with_reducible exact Chg.refl _ _ _)), by simp; omega⟩
      · have h := BA13.out.set_ 6 (.slice A2 al2.length c2)
        simp only [List.setIfInBounds_toArray, List.set_cons_zero, List.set_cons_succ] at h
        exact h
      · obtain ⟨ga, gb, o3, b1, b2, b3, b4⟩ := OT13.out.apart BA13.out (by decide) (by omega)
        exact (OwnL.chg (lo' := v5.heap.size) (hi' := v5.heap.size + 1) o3 (by (repeat (first | with_reducible refine Chg.setCell ?_ (by first | exact Nat.le_refl _ | (simp; done) | (simp; omega)) (by first | (simp; done) | (simp; omega)) _ | with_reducible refine Chg.alloc ?_ _ | with_reducible refine Chg.drew ?_)); (with_reducible exact Chg.refl _ _ _)) (by omega)).wide (by omega) (by simp; omega)
      · obtain ⟨ga, gb, o3, b1, b2, b3, b4⟩ := ON13.out.apart BA13.out (by decide) (by omega)
        exact (OwnL.chg (lo' := v5.heap.size) (hi' := v5.heap.size + 1) o3 (by (repeat (first | with_reducible refine Chg.setCell ?_ (by first | exact Nat.le_refl _ | (simp; done) | (simp; omega)) (by first | (simp; done) | (simp; omega)) _ | with_reducible refine Chg.alloc ?_ _ | with_reducible refine Chg.drew ?_)); (with_reducible exact Chg.refl _ _ _)) (by omega)).wide (by omega) (by simp; omega)
      · obtain ⟨ga, gb, o3, b1, b2, b3, b4⟩ := OS13.out.apart BA13.out (by decide) (by omega)
        exact (OwnL.chg (lo' := v5.heap.size) (hi' := v5.heap.size + 1) o3 (by (repeat (first | with_reducible refine Chg.setCell ?_ (by first | exact Nat.le_refl _ | (simp; done) | (simp; omega)) (by first | (simp; done) | (simp; omega)) _ | with_reducible refine Chg.alloc ?_ _ | with_reducible refine Chg.drew ?_)); (with_reducible exact Chg.refl _ _ _)) (by omega)).wide (by omega) (by simp; omega)
  case rest =>
  obtain ⟨al, Aa, ca, hba, hoa, hal, hR0, hR1, hR2, hR3, hBT, hBH, hBC, hon, hos, hg, hsz⟩ := hcut
  obtain ⟨v13, hwv⟩ : ∃ z, z = wc := ⟨_, rfl⟩
  subst hwv
  clear R012 R112 R212 R312 U12 CH12 BT12 OA12 BA12 ON12 OS12 BH12 BC12
  have BA13 := Lib.hid hba
  have OA13 := Lib.hid hoa
  have ON13 := Lib.hid hon
  have OS13 := Lib.hid hos
  have CH13 := Lib.hid hg
  have R013 := Lib.hid hR0
  have R113 := Lib.hid hR1
  have R213 := Lib.hid hR2
  have R313 := Lib.hid hR3
  have BT13 := Lib.hid hBT
  have BH13 := Lib.hid hBH
  have BC13 := Lib.hid hBC
  have hsz9 := hsz
  clear hba hoa hon hos hg hsz hR0 hR1 hR2 hR3 hBT hBH hBC
  go_upto_region 10 with fail
  have ceBT := BT13.out.cell
  have lbBT := BT13.out.lt
  have ceBA := BA13.out.cell
  have lbBA := BA13.out.lt
  have ceBH := BH13.out.cell
  have lbBH := BH13.out.lt
  have ceBC := BC13.out.cell
  have lbBC := BC13.out.lt
  refine wp_region_core3 [0, 1, 2, 3, 4, 5, 6, 7, 8, 9, 10, 11] (Res4 v13 w.heap.size) (fun j wa wb => match j with | 6 => Chg w.heap.size (w.heap.size + 1) wa wb | 7 => Chg (w.heap.size + 1) ((w.heap.size + 1) + 1) wa wb | 8 => Chg (w.heap.size + 1 + 1) ((w.heap.size + 1 + 1) + 1) wa wb | 10 => Chg (w.heap.size + 1 + 1 + 1) ((w.heap.size + 1 + 1 + 1) + 1) wa wb | _ => wb = wa) (fun i bz wz => match i with
    | 0 => bz.tmps.getD 43 undef = .agg #[.int .i64 per, .int .i64 sl]
    | 1 => bz.tmps.getD 44 undef = .agg #[.int .i64 sa.h, .int .i64 sa.t, .string sa.last, .string sa.vals, .string sa.next, .string sa.data, .slice Aa al.length ca]
    | 2 => bz.tmps.getD 45 undef = .agg #[.int .i64 sh.h, .int .i64 sh.t, .string sh.last, .string sh.vals, .string sh.next, .string sh.data]
    | 3 => bz.tmps.getD 46 undef = .slice B nl.length d
    | 4 => bz.tmps.getD 47 undef = .agg #[.int .i64 pc.h, .int .i64 pc.r, .string pc.id, .slice D sg.length q]
    | 5 => bz.tmps.getD 48 undef = .int .i64 now
    | 6 => Blk wz w.heap.size 25 #[.int .i64 per, .int .i64 sl]
    | 7 => Blk wz (w.heap.size + 1) 30 #[.int .i64 sa.h, .int .i64 sa.t, .string sa.last, .string sa.vals, .string sa.next, .string sa.data, .slice Aa al.length ca]
    | 8 => Blk wz (w.heap.size + 1 + 1) 27 #[.int .i64 sh.h, .int .i64 sh.t, .string sh.last, .string sh.vals, .string sh.next, .string sh.data]
    | 9 => bz.tmps.getD 5 undef = .slice B nl.length d
    | 10 => Blk wz (w.heap.size + 1 + 1 + 1) 33 #[.int .i64 pc.h, .int .i64 pc.r, .string pc.id, .slice D sg.length q]
    | 11 => bz.tmps.getD 7 undef = .int .i64 now
    | _ => True) (by kernel_rfl) (by kernel_rfl) (⟨(Chg.refl _ _ _).drew, ⟨_, rfl, R013.out⟩, ⟨_, rfl, R113.out⟩, ⟨_, rfl, R213.out⟩, ⟨_, rfl, R313.out⟩⟩) ?_ ?_ ?_
  · intro b wa wb i j oj v hi hj hij hoj hdep hE h
    simp only [List.mem_cons, List.not_mem_nil, or_false] at hi hj
    rcases hj with rfl | rfl | rfl | rfl | rfl | rfl | rfl | rfl | rfl | rfl | rfl | rfl
    all_goals obtain rfl := Option.some.inj hoj
    · rcases hi with rfl | rfl | rfl | rfl | rfl | rfl | rfl | rfl | rfl | rfl | rfl | rfl
      all_goals first | exact absurd rfl hij | (simp only at hE h ⊢; first | exact getkV h (by decide) | exact (hE.block _ h.lt (by omega)).trans h | (subst hE; exact h)) | exact absurd rfl (hdep _ rfl ⟨0, .data⟩ (by simp) rfl)
    · rcases hi with rfl | rfl | rfl | rfl | rfl | rfl | rfl | rfl | rfl | rfl | rfl | rfl
      all_goals first | exact absurd rfl hij | (simp only at hE h ⊢; first | exact getkV h (by decide) | exact (hE.block _ h.lt (by omega)).trans h | (subst hE; exact h)) | exact absurd rfl (hdep _ rfl ⟨1, .data⟩ (by simp) rfl)
    · rcases hi with rfl | rfl | rfl | rfl | rfl | rfl | rfl | rfl | rfl | rfl | rfl | rfl
      all_goals first | exact absurd rfl hij | (simp only at hE h ⊢; first | exact getkV h (by decide) | exact (hE.block _ h.lt (by omega)).trans h | (subst hE; exact h)) | exact absurd rfl (hdep _ rfl ⟨2, .data⟩ (by simp) rfl)
    · rcases hi with rfl | rfl | rfl | rfl | rfl | rfl | rfl | rfl | rfl | rfl | rfl | rfl
      all_goals first | exact absurd rfl hij | (simp only at hE h ⊢; first | exact getkV h (by decide) | exact (hE.block _ h.lt (by omega)).trans h | (subst hE; exact h)) | exact absurd rfl (hdep _ rfl ⟨3, .data⟩ (by simp) rfl)
    · rcases hi with rfl | rfl | rfl | rfl | rfl | rfl | rfl | rfl | rfl | rfl | rfl | rfl
      all_goals first | exact absurd rfl hij | (simp only at hE h ⊢; first | exact getkV h (by decide) | exact (hE.block _ h.lt (by omega)).trans h | (subst hE; exact h)) | exact absurd rfl (hdep _ rfl ⟨4, .data⟩ (by simp) rfl)
    · rcases hi with rfl | rfl | rfl | rfl | rfl | rfl | rfl | rfl | rfl | rfl | rfl | rfl
      all_goals first | exact absurd rfl hij | (simp only at hE h ⊢; first | exact getkV h (by decide) | exact (hE.block _ h.lt (by omega)).trans h | (subst hE; exact h)) | exact absurd rfl (hdep _ rfl ⟨5, .data⟩ (by simp) rfl)
    · rcases hi with rfl | rfl | rfl | rfl | rfl | rfl | rfl | rfl | rfl | rfl | rfl | rfl
      all_goals first | exact absurd rfl hij | (simp only at hE h ⊢; first | exact getkV h (by decide) | exact (hE.block _ h.lt (by omega)).trans h | (subst hE; exact h)) | exact absurd rfl (hdep _ rfl ⟨6, .data⟩ (by simp) rfl)
    · rcases hi with rfl | rfl | rfl | rfl | rfl | rfl | rfl | rfl | rfl | rfl | rfl | rfl
      all_goals first | exact absurd rfl hij | (simp only at hE h ⊢; first | exact getkV h (by decide) | exact (hE.block _ h.lt (by omega)).trans h | (subst hE; exact h)) | exact absurd rfl (hdep _ rfl ⟨7, .data⟩ (by simp) rfl)
    · rcases hi with rfl | rfl | rfl | rfl | rfl | rfl | rfl | rfl | rfl | rfl | rfl | rfl
      all_goals first | exact absurd rfl hij | (simp only at hE h ⊢; first | exact getkV h (by decide) | exact (hE.block _ h.lt (by omega)).trans h | (subst hE; exact h)) | exact absurd rfl (hdep _ rfl ⟨8, .data⟩ (by simp) rfl)
    · rcases hi with rfl | rfl | rfl | rfl | rfl | rfl | rfl | rfl | rfl | rfl | rfl | rfl
      all_goals first | exact absurd rfl hij | (simp only at hE h ⊢; first | exact getkV h (by decide) | exact (hE.block _ h.lt (by omega)).trans h | (subst hE; exact h)) | exact absurd rfl (hdep _ rfl ⟨9, .data⟩ (by simp) rfl)
    · rcases hi with rfl | rfl | rfl | rfl | rfl | rfl | rfl | rfl | rfl | rfl | rfl | rfl
      all_goals first | exact absurd rfl hij | (simp only at hE h ⊢; first | exact getkV h (by decide) | exact (hE.block _ h.lt (by omega)).trans h | (subst hE; exact h)) | exact absurd rfl (hdep _ rfl ⟨10, .data⟩ (by simp) rfl)
    · rcases hi with rfl | rfl | rfl | rfl | rfl | rfl | rfl | rfl | rfl | rfl | rfl | rfl
      all_goals first | exact absurd rfl hij | (simp only at hE h ⊢; first | exact getkV h (by decide) | exact (hE.block _ h.lt (by omega)).trans h | (subst hE; exact h)) | exact absurd rfl (hdep _ rfl ⟨11, .data⟩ (by simp) rfl)
  · intro j o hj ho a' w' hC hsame hdep
    have hz : v13.heap.size ≤ w'.heap.size := hC.chg.size
    simp only [List.mem_cons, List.not_mem_nil, or_false] at hj
    rcases hj with rfl | rfl | rfl | rfl | rfl | rfl | rfl | rfl | rfl | rfl | rfl | rfl
    all_goals obtain rfl := Option.some.inj ho
    · have hss : a'.tmps.getD 9 undef = .pointer (some ⟨v3.heap.size, 0, none⟩) := hsame 9 (by rfl)
      have zz : ∀ o, w'.cell? ⟨v3.heap.size, o, none⟩ = _ := fun o => (hC.chg.cell (k := v3.heap.size) (by omega) (.inr (by omega))).trans (ceBT o)
      refine wp_val (w2 := w') (.agg #[.int .i64 per, .int .i64 sl]) (fun K hK => ?_) ⟨_, rfl, hC, rfl, fun b hb hb2 => hb 43 rfl⟩
      clear hsame hdep
      unfold Oper.wp
      simp [execOp, Act.eval, go_sem, hss, zz]
      exact hK
    · have hss : a'.tmps.getD 10 undef = .pointer (some ⟨v5.heap.size, 0, none⟩) := hsame 10 (by rfl)
      have zz : ∀ o, w'.cell? ⟨v5.heap.size, o, none⟩ = _ := fun o => (hC.chg.cell (k := v5.heap.size) (by omega) (.inr (by omega))).trans (ceBA o)
      refine wp_val (w2 := w') (.agg #[.int .i64 sa.h, .int .i64 sa.t, .string sa.last, .string sa.vals, .string sa.next, .string sa.data, .slice Aa al.length ca]) (fun K hK => ?_) ⟨_, rfl, hC, rfl, fun b hb hb2 => hb 44 rfl⟩
      clear hsame hdep
      unfold Oper.wp
      simp [execOp, Act.eval, go_sem, hss, zz]
      exact hK
    · have hss : a'.tmps.getD 11 undef = .pointer (some ⟨v7.heap.size, 0, none⟩) := hsame 11 (by rfl)
      have zz : ∀ o, w'.cell? ⟨v7.heap.size, o, none⟩ = _ := fun o => (hC.chg.cell (k := v7.heap.size) (by omega) (.inr (by omega))).trans (ceBH o)
      refine wp_val (w2 := w') (.agg #[.int .i64 sh.h, .int .i64 sh.t, .string sh.last, .string sh.vals, .string sh.next, .string sh.data]) (fun K hK => ?_) ⟨_, rfl, hC, rfl, fun b hb hb2 => hb 45 rfl⟩
      clear hsame hdep
      unfold Oper.wp
      simp [execOp, Act.eval, go_sem, hss, zz]
      exact hK
    · have hss : a'.tmps.getD 12 undef = .slice B nl.length d := hsame 12 (by rfl)
      refine wp_val (w2 := w') (.slice B nl.length d) (fun K hK => ?_) ⟨_, rfl, hC, rfl, fun b hb hb2 => hb 46 rfl⟩
      clear hsame hdep
      unfold Oper.wp
      simp [execOp, Act.eval, go_sem, hss]
      exact hK
    · have hss : a'.tmps.getD 13 undef = .pointer (some ⟨(v7.heap.size + 1), 0, none⟩) := hsame 13 (by rfl)
      have zz : ∀ o, w'.cell? ⟨(v7.heap.size + 1), o, none⟩ = _ := fun o => (hC.chg.cell (k := (v7.heap.size + 1)) (by omega) (.inr (by omega))).trans (ceBC o)
      refine wp_val (w2 := w') (.agg #[.int .i64 pc.h, .int .i64 pc.r, .string pc.id, .slice D sg.length q]) (fun K hK => ?_) ⟨_, rfl, hC, rfl, fun b hb hb2 => hb 47 rfl⟩
      clear hsame hdep
      unfold Oper.wp
      simp [execOp, Act.eval, go_sem, hss, zz]
      exact hK
    · have hss : a'.tmps.getD 14 undef = .int .i64 now := hsame 14 (by rfl)
      refine wp_val (w2 := w') (.int .i64 now) (fun K hK => ?_) ⟨_, rfl, hC, rfl, fun b hb hb2 => hb 48 rfl⟩
      clear hsame hdep
      unfold Oper.wp
      simp [execOp, Act.eval, go_sem, hss]
      exact hK
    · have hss : a'.tmps.getD 2 undef = .pointer (some ⟨w.heap.size, 0, none⟩) := hsame 2 (by rfl)
      have e1 : a'.tmps.getD 43 undef = .agg #[.int .i64 per, .int .i64 sl] := hdep ⟨0, .data⟩ (by simp) rfl
      obtain ⟨cs0, hq0, hb0⟩ := hC.b0
      obtain ⟨cs1, hq1, hb1⟩ := hC.b1
      obtain ⟨cs2, hq2, hb2⟩ := hC.b2
      obtain ⟨cs3, hq3, hb3⟩ := hC.b3
      obtain ⟨lc⟩ := cs0
      obtain ⟨k0, k1, rfl⟩ := lvs2 (l := lc) (by simpa using hq0)
      have f0 : w'.cell? ⟨w.heap.size, 0, none⟩ = some k0 := by rw [hb0.cell]; rfl
      have f1 : w'.cell? ⟨w.heap.size, 1, none⟩ = some k1 := by rw [hb0.cell]; rfl
      have ff := hb0.frozen
      obtain ⟨w9, hw9⟩ : ∃ z, z = ((w'.setCell ⟨w.heap.size, 0, none⟩ (.int .i64 per)).setCell ⟨w.heap.size, 1, none⟩ (.int .i64 sl)) := ⟨_, rfl⟩
      have hchg : Chg w.heap.size (w.heap.size + 1) w' w9 := by rw [hw9]; (repeat (first | with_reducible refine Chg.setCell ?_ (by first | exact Nat.le_refl _ | (simp; done) | (simp; omega)) (by first | (simp; done) | (simp; omega)) _ | with_reducible refine Chg.alloc ?_ _ | with_reducible refine Chg.drew ?_)); (with_reducible exact Chg.refl _ _ _)
      have hblk2 : Blk w9 w.heap.size 25 #[.int .i64 per, .int .i64 sl] := by
        rw [hw9]
        have hb := ((hb0.set_ 0 (.int .i64 per)).set_ 1 (.int .i64 sl))
        simp only [List.setIfInBounds_toArray, List.set_cons_zero, List.set_cons_succ] at hb
        exact hb
      have hcls : Res4 v13 w.heap.size w9 := ⟨hC.chg.trans (hchg.wide (by omega) (by omega)), ⟨_, rfl, hblk2⟩, ⟨cs1, hq1, hchg.keepB hb1 (by omega)⟩, ⟨cs2, hq2, hchg.keepB hb2 (by omega)⟩, ⟨cs3, hq3, hchg.keepB hb3 (by omega)⟩⟩
      refine wp_val (w2 := w9) undef (fun K hK => ?_) ⟨_, rfl, hcls, hchg, fun b _ hb => hblk2⟩
      rw [hw9] at hK
      clear hsame hdep hchg hblk2 hcls hw9
      unfold Oper.wp
      simp [execOp, Act.eval, hss, e1, go_sem, f0, f1, ff]
      exact hK
    · have hss : a'.tmps.getD 3 undef = .pointer (some ⟨(w.heap.size + 1), 0, none⟩) := hsame 3 (by rfl)
      have e1 : a'.tmps.getD 44 undef = .agg #[.int .i64 sa.h, .int .i64 sa.t, .string sa.last, .string sa.vals, .string sa.next, .string sa.data, .slice Aa al.length ca] := hdep ⟨1, .data⟩ (by simp) rfl
      obtain ⟨cs0, hq0, hb0⟩ := hC.b0
      obtain ⟨cs1, hq1, hb1⟩ := hC.b1
      obtain ⟨cs2, hq2, hb2⟩ := hC.b2
      obtain ⟨cs3, hq3, hb3⟩ := hC.b3
      obtain ⟨lc⟩ := cs1
      obtain ⟨k0, k1, k2, k3, k4, k5, k6, rfl⟩ := lvs7 (l := lc) (by simpa using hq1)
      have f0 : w'.cell? ⟨(w.heap.size + 1), 0, none⟩ = some k0 := by rw [hb1.cell]; rfl
      have f1 : w'.cell? ⟨(w.heap.size + 1), 1, none⟩ = some k1 := by rw [hb1.cell]; rfl
      have f2 : w'.cell? ⟨(w.heap.size + 1), 2, none⟩ = some k2 := by rw [hb1.cell]; rfl
      have f3 : w'.cell? ⟨(w.heap.size + 1), 3, none⟩ = some k3 := by rw [hb1.cell]; rfl
      have f4 : w'.cell? ⟨(w.heap.size + 1), 4, none⟩ = some k4 := by rw [hb1.cell]; rfl
      have f5 : w'.cell? ⟨(w.heap.size + 1), 5, none⟩ = some k5 := by rw [hb1.cell]; rfl
      have f6 : w'.cell? ⟨(w.heap.size + 1), 6, none⟩ = some k6 := by rw [hb1.cell]; rfl
      have ff := hb1.frozen
      obtain ⟨w9, hw9⟩ : ∃ z, z = (((((((w'.setCell ⟨(w.heap.size + 1), 0, none⟩ (.int .i64 sa.h)).setCell ⟨(w.heap.size + 1), 1, none⟩ (.int .i64 sa.t)).setCell ⟨(w.heap.size + 1), 2, none⟩ (.string sa.last)).setCell ⟨(w.heap.size + 1), 3, none⟩ (.string sa.vals)).setCell ⟨(w.heap.size + 1), 4, none⟩ (.string sa.next)).setCell ⟨(w.heap.size + 1), 5, none⟩ (.string sa.data)).setCell ⟨(w.heap.size + 1), 6, none⟩ (.slice Aa al.length ca)) := ⟨_, rfl⟩
      have hchg : Chg (w.heap.size + 1) ((w.heap.size + 1) + 1) w' w9 := by rw [hw9]; (repeat (first | with_reducible refine Chg.setCell ?_ (by first | exact Nat.le_refl _ | (simp; done) | (simp; omega)) (by first | (simp; done) | (simp; omega)) _ | with_reducible refine Chg.alloc ?_ _ | with_reducible refine Chg.drew ?_)); (with_reducible exact Chg.refl _ _ _)
      have hblk2 : Blk w9 (w.heap.size + 1) 30 #[.int .i64 sa.h, .int .i64 sa.t, .string sa.last, .string sa.vals, .string sa.next, .string sa.data, .slice Aa al.length ca] := by
        rw [hw9]
        have hb := (((((((hb1.set_ 0 (.int .i64 sa.h)).set_ 1 (.int .i64 sa.t)).set_ 2 (.string sa.last)).set_ 3 (.string sa.vals)).set_ 4 (.string sa.next)).set_ 5 (.string sa.data)).set_ 6 (.slice Aa al.length ca))
        simp only [List.setIfInBounds_toArray, List.set_cons_zero, List.set_cons_succ] at hb
        exact hb
      have hcls : Res4 v13 w.heap.size w9 := ⟨hC.chg.trans (hchg.wide (by omega) (by omega)), ⟨cs0, hq0, hchg.keepB hb0 (by omega)⟩, ⟨_, rfl, hblk2⟩, ⟨cs2, hq2, hchg.keepB hb2 (by omega)⟩, ⟨cs3, hq3, hchg.keepB hb3 (by omega)⟩⟩
      refine wp_val (w2 := w9) undef (fun K hK => ?_) ⟨_, rfl, hcls, hchg, fun b _ hb => hblk2⟩
      rw [hw9] at hK
      clear hsame hdep hchg hblk2 hcls hw9
      unfold Oper.wp
      simp [execOp, Act.eval, hss, e1, go_sem, f0, f1, f2, f3, f4, f5, f6, ff]
      exact hK
    · have hss : a'.tmps.getD 4 undef = .pointer (some ⟨(w.heap.size + 1 + 1), 0, none⟩) := hsame 4 (by rfl)
      have e1 : a'.tmps.getD 45 undef = .agg #[.int .i64 sh.h, .int .i64 sh.t, .string sh.last, .string sh.vals, .string sh.next, .string sh.data] := hdep ⟨2, .data⟩ (by simp) rfl
      obtain ⟨cs0, hq0, hb0⟩ := hC.b0
      obtain ⟨cs1, hq1, hb1⟩ := hC.b1
      obtain ⟨cs2, hq2, hb2⟩ := hC.b2
      obtain ⟨cs3, hq3, hb3⟩ := hC.b3
      obtain ⟨lc⟩ := cs2
      obtain ⟨k0, k1, k2, k3, k4, k5, rfl⟩ := lvs6 (l := lc) (by simpa using hq2)
      have f0 : w'.cell? ⟨(w.heap.size + 1 + 1), 0, none⟩ = some k0 := by rw [hb2.cell]; rfl
      have f1 : w'.cell? ⟨(w.heap.size + 1 + 1), 1, none⟩ = some k1 := by rw [hb2.cell]; rfl
      have f2 : w'.cell? ⟨(w.heap.size + 1 + 1), 2, none⟩ = some k2 := by rw [hb2.cell]; rfl
      have f3 : w'.cell? ⟨(w.heap.size + 1 + 1), 3, none⟩ = some k3 := by rw [hb2.cell]; rfl
      have f4 : w'.cell? ⟨(w.heap.size + 1 + 1), 4, none⟩ = some k4 := by rw [hb2.cell]; rfl
      have f5 : w'.cell? ⟨(w.heap.size + 1 + 1), 5, none⟩ = some k5 := by rw [hb2.cell]; rfl
      have ff := hb2.frozen
      obtain ⟨w9, hw9⟩ : ∃ z, z = ((((((w'.setCell ⟨(w.heap.size + 1 + 1), 0, none⟩ (.int .i64 sh.h)).setCell ⟨(w.heap.size + 1 + 1), 1, none⟩ (.int .i64 sh.t)).setCell ⟨(w.heap.size + 1 + 1), 2, none⟩ (.string sh.last)).setCell ⟨(w.heap.size + 1 + 1), 3, none⟩ (.string sh.vals)).setCell ⟨(w.heap.size + 1 + 1), 4, none⟩ (.string sh.next)).setCell ⟨(w.heap.size + 1 + 1), 5, none⟩ (.string sh.data)) := ⟨_, rfl⟩
      have hchg : Chg (w.heap.size + 1 + 1) ((w.heap.size + 1 + 1) + 1) w' w9 := by rw [hw9]; (repeat (first | with_reducible refine Chg.setCell ?_ (by first | exact Nat.le_refl _ | (simp; done) | (simp; omega)) (by first | (simp; done) | (simp; omega)) _ | with_reducible refine Chg.alloc ?_ _ | with_reducible refine Chg.drew ?_)); (with_reducible exact Chg.refl _ _ _)
      have hblk2 : Blk w9 (w.heap.size + 1 + 1) 27 #[.int .i64 sh.h, .int .i64 sh.t, .string sh.last, .string sh.vals, .string sh.next, .string sh.data] := by
        rw [hw9]
        have hb := ((((((hb2.set_ 0 (.int .i64 sh.h)).set_ 1 (.int .i64 sh.t)).set_ 2 (.string sh.last)).set_ 3 (.string sh.vals)).set_ 4 (.string sh.next)).set_ 5 (.string sh.data))
        simp only [List.setIfInBounds_toArray, List.set_cons_zero, List.set_cons_succ] at hb
        exact hb
      have hcls : Res4 v13 w.heap.size w9 := ⟨hC.chg.trans (hchg.wide (by omega) (by omega)), ⟨cs0, hq0, hchg.keepB hb0 (by omega)⟩, ⟨cs1, hq1, hchg.keepB hb1 (by omega)⟩, ⟨_, rfl, hblk2⟩, ⟨cs3, hq3, hchg.keepB hb3 (by omega)⟩⟩
      refine wp_val (w2 := w9) undef (fun K hK => ?_) ⟨_, rfl, hcls, hchg, fun b _ hb => hblk2⟩
      rw [hw9] at hK
      clear hsame hdep hchg hblk2 hcls hw9
      unfold Oper.wp
      simp [execOp, Act.eval, hss, e1, go_sem, f0, f1, f2, f3, f4, f5, ff]
      exact hK
    · have e1 : a'.tmps.getD 46 undef = .slice B nl.length d := hdep ⟨3, .data⟩ (by simp) rfl
      refine wp_val (w2 := w') (.slice B nl.length d) (fun K hK => ?_) ⟨_, rfl, hC, rfl, fun b hb hb2 => hb 5 rfl⟩
      clear hsame hdep
      unfold Oper.wp
      simp [execOp, Act.eval, go_sem, e1]
      exact hK
    · have hss : a'.tmps.getD 6 undef = .pointer (some ⟨(w.heap.size + 1 + 1 + 1), 0, none⟩) := hsame 6 (by rfl)
      have e1 : a'.tmps.getD 47 undef = .agg #[.int .i64 pc.h, .int .i64 pc.r, .string pc.id, .slice D sg.length q] := hdep ⟨4, .data⟩ (by simp) rfl
      obtain ⟨cs0, hq0, hb0⟩ := hC.b0
      obtain ⟨cs1, hq1, hb1⟩ := hC.b1
      obtain ⟨cs2, hq2, hb2⟩ := hC.b2
      obtain ⟨cs3, hq3, hb3⟩ := hC.b3
      obtain ⟨lc⟩ := cs3
      obtain ⟨k0, k1, k2, k3, rfl⟩ := lvs4 (l := lc) (by simpa using hq3)
      have f0 : w'.cell? ⟨(w.heap.size + 1 + 1 + 1), 0, none⟩ = some k0 := by rw [hb3.cell]; rfl
      have f1 : w'.cell? ⟨(w.heap.size + 1 + 1 + 1), 1, none⟩ = some k1 := by rw [hb3.cell]; rfl
      have f2 : w'.cell? ⟨(w.heap.size + 1 + 1 + 1), 2, none⟩ = some k2 := by rw [hb3.cell]; rfl
      have f3 : w'.cell? ⟨(w.heap.size + 1 + 1 + 1), 3, none⟩ = some k3 := by rw [hb3.cell]; rfl
      have ff := hb3.frozen
      obtain ⟨w9, hw9⟩ : ∃ z, z = ((((w'.setCell ⟨(w.heap.size + 1 + 1 + 1), 0, none⟩ (.int .i64 pc.h)).setCell ⟨(w.heap.size + 1 + 1 + 1), 1, none⟩ (.int .i64 pc.r)).setCell ⟨(w.heap.size + 1 + 1 + 1), 2, none⟩ (.string pc.id)).setCell ⟨(w.heap.size + 1 + 1 + 1), 3, none⟩ (.slice D sg.length q)) := ⟨_, rfl⟩
      have hchg : Chg (w.heap.size + 1 + 1 + 1) ((w.heap.size + 1 + 1 + 1) + 1) w' w9 := by rw [hw9]; (repeat (first | with_reducible refine Chg.setCell ?_ (by first | exact Nat.le_refl _ | (simp; done) | (simp; omega)) (by first | (simp; done) | (simp; omega)) _ | with_reducible refine Chg.alloc ?_ _ | with_reducible refine Chg.drew ?_)); (with_reducible exact Chg.refl _ _ _)
      have hblk2 : Blk w9 (w.heap.size + 1 + 1 + 1) 33 #[.int .i64 pc.h, .int .i64 pc.r, .string pc.id, .slice D sg.length q] := by
        rw [hw9]
        have hb := ((((hb3.set_ 0 (.int .i64 pc.h)).set_ 1 (.int .i64 pc.r)).set_ 2 (.string pc.id)).set_ 3 (.slice D sg.length q))
        simp only [List.setIfInBounds_toArray, List.set_cons_zero, List.set_cons_succ] at hb
        exact hb
      have hcls : Res4 v13 w.heap.size w9 := ⟨hC.chg.trans (hchg.wide (by omega) (by omega)), ⟨cs0, hq0, hchg.keepB hb0 (by omega)⟩, ⟨cs1, hq1, hchg.keepB hb1 (by omega)⟩, ⟨cs2, hq2, hchg.keepB hb2 (by omega)⟩, ⟨_, rfl, hblk2⟩⟩
      refine wp_val (w2 := w9) undef (fun K hK => ?_) ⟨_, rfl, hcls, hchg, fun b _ hb => hblk2⟩
      rw [hw9] at hK
      clear hsame hdep hchg hblk2 hcls hw9
      unfold Oper.wp
      simp [execOp, Act.eval, hss, e1, go_sem, f0, f1, f2, f3, ff]
      exact hK
    · have e1 : a'.tmps.getD 48 undef = .int .i64 now := hdep ⟨5, .data⟩ (by simp) rfl
      refine wp_val (w2 := w') (.int .i64 now) (fun K hK => ?_) ⟨_, rfl, hC, rfl, fun b hb hb2 => hb 7 rfl⟩
      clear hsame hdep
      unfold Oper.wp
      simp [execOp, Act.eval, go_sem, e1]
      exact hK
  · intro a' w' hC ha hP
    have g0 : Blk w' w.heap.size 25 #[.int .i64 per, .int .i64 sl] := hP 6 (by simp)
    have g1 : Blk w' (w.heap.size + 1) 30 #[.int .i64 sa.h, .int .i64 sa.t, .string sa.last, .string sa.vals, .string sa.next, .string sa.data, .slice Aa al.length ca] := hP 7 (by simp)
    have g2 : Blk w' (w.heap.size + 1 + 1) 27 #[.int .i64 sh.h, .int .i64 sh.t, .string sh.last, .string sh.vals, .string sh.next, .string sh.data] := hP 8 (by simp)
    have g3 : Blk w' (w.heap.size + 1 + 1 + 1) 33 #[.int .i64 pc.h, .int .i64 pc.r, .string pc.id, .slice D sg.length q] := hP 10 (by simp)
    have e5 : a'.tmps.getD 5 undef = .slice B nl.length d := hP 9 (by simp)
    have e7 : a'.tmps.getD 7 undef = .int .i64 now := hP 11 (by simp)
    clear hP
    simp only [coreOps, List.filterMap_cons, List.filterMap_nil, List.getElem?_cons_zero, List.getElem?_cons_succ, fillA, slotOf, Act.put, List.setIfInBounds_toArray, List.set_cons_zero, List.set_cons_succ, e5, e7] at ha
    generalize a'.tmps.getD 43 undef = u43 at ha
    generalize a'.tmps.getD 44 undef = u44 at ha
    generalize a'.tmps.getD 45 undef = u45 at ha
    generalize a'.tmps.getD 46 undef = u46 at ha
    generalize a'.tmps.getD 47 undef = u47 at ha
    generalize a'.tmps.getD 48 undef = u48 at ha
    subst ha
    have y0 := g0.cell
    have y1 := g1.cell
    have y2 := g2.cell
    have y3 := g3.cell
    have l0 := g0.lt
    have l1 := g1.lt
    have l2 := g2.lt
    have l3 := g3.lt
    show wpAny _ _ _ _ 0 _ _ _
    refine wpAny_done (by kernel_rfl) ?_ _
    go_wp2_with fail
    refine bodyPost_ret (v := .tuple #[.agg #[.int .i64 per, .int .i64 sl], .agg #[.int .i64 sa.h, .int .i64 sa.t, .string sa.last, .string sa.vals, .string sa.next, .string sa.data, .slice Aa al.length ca], .agg #[.int .i64 sh.h, .int .i64 sh.t, .string sh.last, .string sh.vals, .string sh.next, .string sh.data], .slice B nl.length d, .agg #[.int .i64 pc.h, .int .i64 pc.r, .string pc.id, .slice D sg.length q], .int .i64 now]) (by simp [results, Tryz.results6, go_sem, y0, y1, y2, y3]) rfl ⟨per, sl, sa, al, Aa, ca, sh, nl, B, d, pc, sg, D, q, now, rfl, (((OA13.out.chg hC.chg (by omega)).rd valC_len).more (by have := hC.chg.size; omega)), (((ON13.out.chg hC.chg (by omega)).rd valC_len).more (by have := hC.chg.size; omega)), (((OS13.out.chg hC.chg (by omega)).rd csigC_len).more (by have := hC.chg.size; omega)), by omega, by omega, by omega, ?_⟩
    exact (BW.out.trans (CH13.out.below (B := w.heap.size) (by omega) (by omega))).trans (hC.chg.below (B := w.heap.size) (by omega) (by omega))
end Go.Proofs.YtelnnegfkdfpiaaGreatDoor
