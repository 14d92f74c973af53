/- DrawTimeLeft. -/
import Derived.Test.YtpfppkjikkihfaaDraw
import Derived.Deep.RegionWith
import Derived.Deep.DeepCutAuto
import Derived.WalkKit
import Derived.WalkSpells
import Derived.WalkLawsBesides
import Derived.Lib.Hide
namespace Go.Proofs.Ytpfppkjikkihfaa
open Go.RowKit

def IsTrust (v : Value) : Prop := ∃ p s : Int, v = .agg #[.int .i64 p, .int .i64 s]

theorem Chg.trans_top {cb D : Nat} {w w1 w2 : World} (h : Chg cb (cb + 1) w w1) (hD : w.heap.size ≤ D) (k : Chg D (D + 1) w1 w2) : Chg cb (cb + 1) w w2 :=
  ⟨k.os.trans h.os, k.tape.trans h.tape, k.output.trans h.output, Nat.le_trans h.size k.size, fun q h1 h2 => (k.block q (by have := h.size; omega) (.inl (by omega))).trans (h.block q h1 h2)⟩

set_option maxRecDepth 100000 in
set_option maxHeartbeats 1000000 in
theorem l10At_any (cb : Nat) (A : Option Addr) (n c : Nat) (w : World) (hc : Cur w cb A n c) :
    Calls Try.prog 46 #[.pointer (some ⟨cb, 0, none⟩)] w (Drew cb A n c (IsIn (-1) 1000001) w) := by
  have HC := Lib.hid hc
  clear hc
  go_enter Try.func46, Try.ntmps46
  go_wp2_with fail
  refine (l1Once_any cb A n c 10 _ HC.out (by omega)).mono ?_
  rintro e w1 ⟨v, rfl, ⟨b, rfl⟩, hg, hu⟩
  have HG := Lib.hid hg
  have HU := Lib.hid hu
  have hlt := hu.lt
  clear hg hu
  cases b
  · go_wp2_with fail
    refine (l1Below_any cb A n c 150 _ HU.out (by omega)).mono ?_
    rintro e w2 ⟨v, rfl, ⟨x, rfl, x0, x1⟩, hg, hu⟩
    have HG2 := Lib.hid (HG.out.trans hg)
    have HU2 := Lib.hid hu
    clear hg hu
    simp at x1
    go_wp2_with fail
    go_ret
    exact ⟨_, rfl, ⟨x, rfl, by omega, by omega⟩, HG2.out, HU2.out⟩
  · go_wp2_with fail
    refine (l1PickInt_any cb A n c w1.heap.size 3 (-1) 1000001 _ (HU.out.alloc _) (by decide) (by decide) hlt (by simp) ?_).mono ?_
    · intro j hj
      rcases (by omega : j = 0 ∨ j = 1 ∨ j = 2) with rfl | rfl | rfl
      · exact ⟨-1, by simp, by omega, by omega⟩
      · exact ⟨1000000, by simp, by omega, by omega⟩
      · exact ⟨1000001, by simp, by omega, by omega⟩
    rintro e w2 ⟨v, rfl, ⟨x, rfl, x0, x1⟩, hg, hu⟩
    have HG2 := Lib.hid (HG.out.trans (((Chg.refl cb (cb + 1) w1).alloc _).trans hg))
    have HU2 := Lib.hid hu
    clear hg hu
    go_wp2_with fail
    go_ret
    exact ⟨_, rfl, ⟨x, rfl, by omega, by omega⟩, HG2.out, HU2.out⟩

set_option maxRecDepth 100000 in
set_option maxHeartbeats 1000000 in
theorem l10Trust_any (cb : Nat) (A : Option Addr) (n c : Nat) (w : World) (hc : Cur w cb A n c) :
    Calls Try.prog 45 #[.pointer (some ⟨cb, 0, none⟩)] w (Drew cb A n c IsTrust w) := by
  have HC := Lib.hid hc
  have hlt := hc.lt
  clear hc
  go_enter Try.func45, Try.ntmps45
  go_wp2_with fail
  refine (l1Below_any cb A n c 90 _ (HC.out.alloc _) (by omega)).mono ?_
  rintro e w1 ⟨v, rfl, ⟨x, rfl, x0, x1⟩, hg, hu⟩
  simp at x1
  have hs1 : w.heap.size + 1 ≤ w1.heap.size := by have := hg.size; simpa using this
  have r0 : ∀ o, w1.cell? ⟨w.heap.size, o, none⟩ = _ := fun o => hg.cell (by simp) (.inr hlt)
  have rf : ∀ o, w1.frozen? ⟨w.heap.size, o, none⟩ = _ := fun o => hg.frozen (by simp) (.inr hlt)
  have HG1 := Lib.hid (((Chg.refl cb (cb + 1) w).alloc _).trans hg)
  have HU1 := Lib.hid hu
  clear hg hu
  go_wp2_with fail
  refine (l1Below_any cb A n c 10 _ HU1.out (by omega)).mono ?_
  rintro e w2 ⟨v, rfl, ⟨y, rfl, y0, y1⟩, hg, hu⟩
  simp at y1
  have hs2 : w1.heap.size ≤ w2.heap.size := hg.size
  have q0 : w2.cell? ⟨w.heap.size, 0, none⟩ = some (.int .i64 0) := by rw [hg.cell (by omega) (.inr hlt), r0]; simp
  have q1 : w2.cell? ⟨w.heap.size, 1, none⟩ = some (.int .i64 0) := by rw [hg.cell (by omega) (.inr hlt), r0]; simp
  have qf : ∀ o, w2.frozen? ⟨w.heap.size, o, none⟩ = false := fun o => by rw [hg.frozen (by omega) (.inr hlt), rf]; simp
  have HG2 := Lib.hid (HG1.out.trans hg)
  have HU2 := Lib.hid hu
  have hltR : w.heap.size < w2.heap.size := by omega
  have hlt2 : cb < w2.heap.size := by omega
  clear hg hu r0 rf
  -- the two fields, whatever is drawn
  have fin : ∀ (p s : Int) (w3 : World), Chg cb (cb + 1) w w3 → Cur w3 cb A n c → True := fun _ _ _ _ _ => trivial
  clear fin
  go_wp2_with fail
  refine (l1Once_any cb A n c 12 _ (HU2.out.alloc _) (by omega)).mono ?_
  rintro e w3 ⟨v, rfl, ⟨b, rfl⟩, hg, hu⟩
  have hs3 : w2.heap.size + 1 ≤ w3.heap.size := by have := hg.size; simpa using this
  have a0 : w3.cell? ⟨w2.heap.size, 0, none⟩ = some (.int .i64 (10 + x)) := by rw [hg.cell (by simp) (.inr hlt2)]; simp
  have a1 : w3.cell? ⟨w2.heap.size, 1, none⟩ = some (.int .i64 y) := by rw [hg.cell (by simp) (.inr hlt2)]; simp
  have af : ∀ o, w3.frozen? ⟨w2.heap.size, o, none⟩ = false := fun o => by rw [hg.frozen (by simp) (.inr hlt2)]; simp
  have D3 := Lib.hid (((Chg.refl cb (cb + 1) w2).alloc _).trans hg)
  have k0 := (D3.out.cell hltR (.inr hlt)).trans q0
  have k1 := (D3.out.cell hltR (.inr hlt)).trans q1
  have kf : ∀ o, w3.frozen? ⟨w.heap.size, o, none⟩ = false := fun o => (D3.out.frozen hltR (.inr hlt)).trans (qf o)
  have HG3 := Lib.hid (HG2.out.trans D3.out)
  have HU3 := Lib.hid hu
  have hltR3 : w.heap.size < w3.heap.size := by omega
  have hltT3 : w2.heap.size < w3.heap.size := by omega
  have hne : w.heap.size ≠ w2.heap.size := by omega
  have hne' : w2.heap.size ≠ w.heap.size := by omega
  have hncb : cb ≠ w2.heap.size := by omega
  clear hg hu q0 q1 qf D3
  cases b
  · go_wp2_with fail
    refine (l1Once_any cb A n c 12 _ HU3.out (by omega)).mono ?_
    rintro e w4 ⟨v, rfl, ⟨b2, rfl⟩, hg, hu⟩
    have hs4 : w3.heap.size ≤ w4.heap.size := by have := hg.size; (try simp at this); omega
    have D4 := Lib.hid ((Chg.refl cb (cb + 1) w3).trans hg)
    have a0 := (D4.out.cell hltT3 (.inr hlt2)).trans a0
    have a1 := (D4.out.cell hltT3 (.inr hlt2)).trans a1
    have af : ∀ o, w4.frozen? ⟨w2.heap.size, o, none⟩ = false := fun o => (D4.out.frozen hltT3 (.inr hlt2)).trans (af o)
    have k0 := (D4.out.cell hltR3 (.inr hlt)).trans k0
    have k1 := (D4.out.cell hltR3 (.inr hlt)).trans k1
    have kf : ∀ o, w4.frozen? ⟨w.heap.size, o, none⟩ = false := fun o => (D4.out.frozen hltR3 (.inr hlt)).trans (kf o)
    have HG4 := Lib.hid (HG3.out.trans D4.out)
    have HU4 := Lib.hid hu
    have hltR4 : w.heap.size < w4.heap.size := by omega
    have hltT4 : w2.heap.size < w4.heap.size := by omega
    clear hg hu D4
    cases b2
    · go_wp2_with fail
      refine bodyPost_ret (v := .agg #[.int .i64 (10 + x), .int .i64 (y)]) (by simp [results, Try.results45, go_sem, k0, k1]) rfl ⟨_, rfl, ⟨_, _, rfl⟩, ?_, ?_⟩
      · exact HG4.out.trans_top (D := w.heap.size) (by omega) (by (repeat (first | with_reducible refine Chg.setCell ?_ (by first | exact Nat.le_refl _ | (simp; done) | (simp; omega)) (by first | (simp; done) | (simp; omega)) _ | with_reducible refine Chg.alloc ?_ _ | with_reducible refine Chg.drew ?_)); (with_reducible exact Chg.refl _ _ _)) 
      · refine HU4.out.chg (lo := w.heap.size) (hi := w.heap.size + 1) ?_ hlt
        (repeat (first | with_reducible refine Chg.setCell ?_ (by first | exact Nat.le_refl _ | (simp; done) | (simp; omega)) (by first | (simp; done) | (simp; omega)) _ | with_reducible refine Chg.alloc ?_ _ | with_reducible refine Chg.drew ?_)); (with_reducible exact Chg.refl _ _ _)
    · go_wp2_with fail
      refine (l1PickInt_any cb A n c w4.heap.size 3 (-1) 1001 _ (HU4.out.alloc _) (by decide) (by decide) HU4.out.lt (by simp) ?_).mono ?_
      · intro j hj
        rcases (by omega : j = 0 ∨ j = 1 ∨ j = 2) with rfl | rfl | rfl
        · exact ⟨-1, by simp, by omega, by omega⟩
        · exact ⟨1000, by simp, by omega, by omega⟩
        · exact ⟨1001, by simp, by omega, by omega⟩
      rintro e w5 ⟨v, rfl, ⟨z2, rfl, _, _⟩, hg, hu⟩
      have hs5 : w4.heap.size ≤ w5.heap.size := by have := hg.size; (try simp at this); omega
      have D5 := Lib.hid (((Chg.refl cb (cb + 1) w4).alloc _).trans hg)
      have a0 := (D5.out.cell hltT4 (.inr hlt2)).trans a0
      have a1 := (D5.out.cell hltT4 (.inr hlt2)).trans a1
      have af : ∀ o, w5.frozen? ⟨w2.heap.size, o, none⟩ = false := fun o => (D5.out.frozen hltT4 (.inr hlt2)).trans (af o)
      have k0 := (D5.out.cell hltR4 (.inr hlt)).trans k0
      have k1 := (D5.out.cell hltR4 (.inr hlt)).trans k1
      have kf : ∀ o, w5.frozen? ⟨w.heap.size, o, none⟩ = false := fun o => (D5.out.frozen hltR4 (.inr hlt)).trans (kf o)
      have HG5 := Lib.hid (HG4.out.trans D5.out)
      have HU5 := Lib.hid hu
      have hltR5 : w.heap.size < w5.heap.size := by omega
      have hltT5 : w2.heap.size < w5.heap.size := by omega
      clear hg hu D5
      go_upto_region 6 with fail
      obtain ⟨w6, hw⟩ : ∃ q, q = w5.setCell ⟨w2.heap.size, 1, none⟩ (.int .i64 z2) := ⟨_, rfl⟩
      have D6 : Hid (Chg w2.heap.size (w2.heap.size + 1) w5 w6) := by show Chg _ _ _ _; rw [hw]; exact Chg.setCell (p := ⟨w2.heap.size, 1, none⟩) (Chg.refl _ _ w5) (Nat.le_refl _) (Nat.lt_succ_self _) _
      have hs6 : w5.heap.size ≤ w6.heap.size := D6.out.size
      have a0' : w6.cell? ⟨w2.heap.size, 0, none⟩ = some (.int .i64 (10 + x)) := by rw [hw]; simp [go_sem, a0]
      have a1' : w6.cell? ⟨w2.heap.size, 1, none⟩ = some (.int .i64 (z2)) := by rw [hw]; simp [go_sem, a1]
      have af' : ∀ o, w6.frozen? ⟨w2.heap.size, o, none⟩ = false := fun o => by rw [hw]; simp [go_sem, af]
      have k0 := (D6.out.cell hltR5 (.inl (by omega))).trans k0
      have k1 := (D6.out.cell hltR5 (.inl (by omega))).trans k1
      have kf : ∀ o, w6.frozen? ⟨w.heap.size, o, none⟩ = false := fun o => (D6.out.frozen hltR5 (.inl (by omega))).trans (kf o)
      have HG6 : Hid (Chg cb (cb + 1) w w6) := Lib.hid ⟨D6.out.os.trans HG5.out.os, D6.out.tape.trans HG5.out.tape, D6.out.output.trans HG5.out.output, Nat.le_trans HG5.out.size D6.out.size, fun q h1 h2 => (D6.out.block q (by have := HG5.out.size; omega) (.inl (by omega))).trans (HG5.out.block q h1 h2)⟩
      have HU6 := Lib.hid (HU5.out.chg D6.out hlt2)
      have hltR6 : w.heap.size < w6.heap.size := by omega
      have hltT6 : w2.heap.size < w6.heap.size := by omega
      rw [← hw]
      clear hw D6 a0 a1 af
      have a0 := a0'
      have a1 := a1'
      go_wp2_with fail
      refine bodyPost_ret (v := .agg #[.int .i64 (10 + x), .int .i64 (z2)]) (by simp [results, Try.results45, go_sem, k0, k1]) rfl ⟨_, rfl, ⟨_, _, rfl⟩, ?_, ?_⟩
      · exact HG6.out.trans_top (D := w.heap.size) (by omega) (by (repeat (first | with_reducible refine Chg.setCell ?_ (by first | exact Nat.le_refl _ | (simp; done) | (simp; omega)) (by first | (simp; done) | (simp; omega)) _ | with_reducible refine Chg.alloc ?_ _ | with_reducible refine Chg.drew ?_)); (with_reducible exact Chg.refl _ _ _)) 
      · refine HU6.out.chg (lo := w.heap.size) (hi := w.heap.size + 1) ?_ hlt
        (repeat (first | with_reducible refine Chg.setCell ?_ (by first | exact Nat.le_refl _ | (simp; done) | (simp; omega)) (by first | (simp; done) | (simp; omega)) _ | with_reducible refine Chg.alloc ?_ _ | with_reducible refine Chg.drew ?_)); (with_reducible exact Chg.refl _ _ _)
  · go_wp2_with fail
    refine (l1PickInt_any cb A n c w3.heap.size 4 (0) 100001 _ (HU3.out.alloc _) (by decide) (by decide) HU3.out.lt (by simp) ?_).mono ?_
    · intro j hj
      rcases (by omega : j = 0 ∨ j = 1 ∨ j = 2 ∨ j = 3) with rfl | rfl | rfl | rfl
      · exact ⟨0, by simp, by omega, by omega⟩
      · exact ⟨1, by simp, by omega, by omega⟩
      · exact ⟨100000, by simp, by omega, by omega⟩
      · exact ⟨100001, by simp, by omega, by omega⟩
    rintro e w4 ⟨v, rfl, ⟨z1, rfl, _, _⟩, hg, hu⟩
    have hs4 : w3.heap.size ≤ w4.heap.size := by have := hg.size; (try simp at this); omega
    have D4 := Lib.hid (((Chg.refl cb (cb + 1) w3).alloc _).trans hg)
    have a0 := (D4.out.cell hltT3 (.inr hlt2)).trans a0
    have a1 := (D4.out.cell hltT3 (.inr hlt2)).trans a1
    have af : ∀ o, w4.frozen? ⟨w2.heap.size, o, none⟩ = false := fun o => (D4.out.frozen hltT3 (.inr hlt2)).trans (af o)
    have k0 := (D4.out.cell hltR3 (.inr hlt)).trans k0
    have k1 := (D4.out.cell hltR3 (.inr hlt)).trans k1
    have kf : ∀ o, w4.frozen? ⟨w.heap.size, o, none⟩ = false := fun o => (D4.out.frozen hltR3 (.inr hlt)).trans (kf o)
    have HG4 := Lib.hid (HG3.out.trans D4.out)
    have HU4 := Lib.hid hu
    have hltR4 : w.heap.size < w4.heap.size := by omega
    have hltT4 : w2.heap.size < w4.heap.size := by omega
    clear hg hu D4
    go_upto_region 4 with fail
    obtain ⟨w5, hw⟩ : ∃ q, q = w4.setCell ⟨w2.heap.size, 0, none⟩ (.int .i64 z1) := ⟨_, rfl⟩
    have D5 : Hid (Chg w2.heap.size (w2.heap.size + 1) w4 w5) := by show Chg _ _ _ _; rw [hw]; exact Chg.setCell (p := ⟨w2.heap.size, 0, none⟩) (Chg.refl _ _ w4) (Nat.le_refl _) (Nat.lt_succ_self _) _
    have hs5 : w4.heap.size ≤ w5.heap.size := D5.out.size
    have a0' : w5.cell? ⟨w2.heap.size, 0, none⟩ = some (.int .i64 (z1)) := by rw [hw]; simp [go_sem, a0]
    have a1' : w5.cell? ⟨w2.heap.size, 1, none⟩ = some (.int .i64 (y)) := by rw [hw]; simp [go_sem, a1]
    have af' : ∀ o, w5.frozen? ⟨w2.heap.size, o, none⟩ = false := fun o => by rw [hw]; simp [go_sem, af]
    have k0 := (D5.out.cell hltR4 (.inl (by omega))).trans k0
    have k1 := (D5.out.cell hltR4 (.inl (by omega))).trans k1
    have kf : ∀ o, w5.frozen? ⟨w.heap.size, o, none⟩ = false := fun o => (D5.out.frozen hltR4 (.inl (by omega))).trans (kf o)
    have HG5 : Hid (Chg cb (cb + 1) w w5) := Lib.hid ⟨D5.out.os.trans HG4.out.os, D5.out.tape.trans HG4.out.tape, D5.out.output.trans HG4.out.output, Nat.le_trans HG4.out.size D5.out.size, fun q h1 h2 => (D5.out.block q (by have := HG4.out.size; omega) (.inl (by omega))).trans (HG4.out.block q h1 h2)⟩
    have HU5 := Lib.hid (HU4.out.chg D5.out hlt2)
    have hltR5 : w.heap.size < w5.heap.size := by omega
    have hltT5 : w2.heap.size < w5.heap.size := by omega
    rw [← hw]
    clear hw D5 a0 a1 af
    have a0 := a0'
    have a1 := a1'
    have af := af'
    go_wp2_with fail
    refine (l1Once_any cb A n c 12 _ HU5.out (by omega)).mono ?_
    rintro e w6 ⟨v, rfl, ⟨b2, rfl⟩, hg, hu⟩
    have hs6 : w5.heap.size ≤ w6.heap.size := by have := hg.size; (try simp at this); omega
    have D6 := Lib.hid ((Chg.refl cb (cb + 1) w5).trans hg)
    have a0 := (D6.out.cell hltT5 (.inr hlt2)).trans a0
    have a1 := (D6.out.cell hltT5 (.inr hlt2)).trans a1
    have af : ∀ o, w6.frozen? ⟨w2.heap.size, o, none⟩ = false := fun o => (D6.out.frozen hltT5 (.inr hlt2)).trans (af o)
    have k0 := (D6.out.cell hltR5 (.inr hlt)).trans k0
    have k1 := (D6.out.cell hltR5 (.inr hlt)).trans k1
    have kf : ∀ o, w6.frozen? ⟨w.heap.size, o, none⟩ = false := fun o => (D6.out.frozen hltR5 (.inr hlt)).trans (kf o)
    have HG6 := Lib.hid (HG5.out.trans D6.out)
    have HU6 := Lib.hid hu
    have hltR6 : w.heap.size < w6.heap.size := by omega
    have hltT6 : w2.heap.size < w6.heap.size := by omega
    clear hg hu D6
    cases b2
    · go_wp2_with fail
      refine bodyPost_ret (v := .agg #[.int .i64 (z1), .int .i64 (y)]) (by simp [results, Try.results45, go_sem, k0, k1]) rfl ⟨_, rfl, ⟨_, _, rfl⟩, ?_, ?_⟩
      · exact HG6.out.trans_top (D := w.heap.size) (by omega) (by (repeat (first | with_reducible refine Chg.setCell ?_ (by first | exact Nat.le_refl _ | (simp; done) | (simp; omega)) (by first | (simp; done) | (simp; omega)) _ | with_reducible refine Chg.alloc ?_ _ | with_reducible refine Chg.drew ?_)); (with_reducible exact Chg.refl _ _ _)) 
      · refine HU6.out.chg (lo := w.heap.size) (hi := w.heap.size + 1) ?_ hlt
        (repeat (first | with_reducible refine Chg.setCell ?_ (by first | exact Nat.le_refl _ | (simp; done) | (simp; omega)) (by first | (simp; done) | (simp; omega)) _ | with_reducible refine Chg.alloc ?_ _ | with_reducible refine Chg.drew ?_)); (with_reducible exact Chg.refl _ _ _)
    · go_wp2_with fail
      refine (l1PickInt_any cb A n c w6.heap.size 3 (-1) 1001 _ (HU6.out.alloc _) (by decide) (by decide) HU6.out.lt (by simp) ?_).mono ?_
      · intro j hj
        rcases (by omega : j = 0 ∨ j = 1 ∨ j = 2) with rfl | rfl | rfl
        · exact ⟨-1, by simp, by omega, by omega⟩
        · exact ⟨1000, by simp, by omega, by omega⟩
        · exact ⟨1001, by simp, by omega, by omega⟩
      rintro e w7 ⟨v, rfl, ⟨z2, rfl, _, _⟩, hg, hu⟩
      have hs7 : w6.heap.size ≤ w7.heap.size := by have := hg.size; (try simp at this); omega
      have D7 := Lib.hid (((Chg.refl cb (cb + 1) w6).alloc _).trans hg)
      have a0 := (D7.out.cell hltT6 (.inr hlt2)).trans a0
      have a1 := (D7.out.cell hltT6 (.inr hlt2)).trans a1
      have af : ∀ o, w7.frozen? ⟨w2.heap.size, o, none⟩ = false := fun o => (D7.out.frozen hltT6 (.inr hlt2)).trans (af o)
      have k0 := (D7.out.cell hltR6 (.inr hlt)).trans k0
      have k1 := (D7.out.cell hltR6 (.inr hlt)).trans k1
      have kf : ∀ o, w7.frozen? ⟨w.heap.size, o, none⟩ = false := fun o => (D7.out.frozen hltR6 (.inr hlt)).trans (kf o)
      have HG7 := Lib.hid (HG6.out.trans D7.out)
      have HU7 := Lib.hid hu
      have hltR7 : w.heap.size < w7.heap.size := by omega
      have hltT7 : w2.heap.size < w7.heap.size := by omega
      clear hg hu D7
      go_upto_region 6 with fail
      obtain ⟨w8, hw⟩ : ∃ q, q = w7.setCell ⟨w2.heap.size, 1, none⟩ (.int .i64 z2) := ⟨_, rfl⟩
      have D8 : Hid (Chg w2.heap.size (w2.heap.size + 1) w7 w8) := by show Chg _ _ _ _; rw [hw]; exact Chg.setCell (p := ⟨w2.heap.size, 1, none⟩) (Chg.refl _ _ w7) (Nat.le_refl _) (Nat.lt_succ_self _) _
      have hs8 : w7.heap.size ≤ w8.heap.size := D8.out.size
      have a0' : w8.cell? ⟨w2.heap.size, 0, none⟩ = some (.int .i64 (z1)) := by rw [hw]; simp [go_sem, a0]
      have a1' : w8.cell? ⟨w2.heap.size, 1, none⟩ = some (.int .i64 (z2)) := by rw [hw]; simp [go_sem, a1]
      have af' : ∀ o, w8.frozen? ⟨w2.heap.size, o, none⟩ = false := fun o => by rw [hw]; simp [go_sem, af]
      have k0 := (D8.out.cell hltR7 (.inl (by omega))).trans k0
      have k1 := (D8.out.cell hltR7 (.inl (by omega))).trans k1
      have kf : ∀ o, w8.frozen? ⟨w.heap.size, o, none⟩ = false := fun o => (D8.out.frozen hltR7 (.inl (by omega))).trans (kf o)
      have HG8 : Hid (Chg cb (cb + 1) w w8) := Lib.hid ⟨D8.out.os.trans HG7.out.os, D8.out.tape.trans HG7.out.tape, D8.out.output.trans HG7.out.output, Nat.le_trans HG7.out.size D8.out.size, fun q h1 h2 => (D8.out.block q (by have := HG7.out.size; omega) (.inl (by omega))).trans (HG7.out.block q h1 h2)⟩
      have HU8 := Lib.hid (HU7.out.chg D8.out hlt2)
      have hltR8 : w.heap.size < w8.heap.size := by omega
      have hltT8 : w2.heap.size < w8.heap.size := by omega
      rw [← hw]
      clear hw D8 a0 a1 af
      have a0 := a0'
      have a1 := a1'
      go_wp2_with fail
      refine bodyPost_ret (v := .agg #[.int .i64 (z1), .int .i64 (z2)]) (by simp [results, Try.results45, go_sem, k0, k1]) rfl ⟨_, rfl, ⟨_, _, rfl⟩, ?_, ?_⟩
      · exact HG8.out.trans_top (D := w.heap.size) (by omega) (by (repeat (first | with_reducible refine Chg.setCell ?_ (by first | exact Nat.le_refl _ | (simp; done) | (simp; omega)) (by first | (simp; done) | (simp; omega)) _ | with_reducible refine Chg.alloc ?_ _ | with_reducible refine Chg.drew ?_)); (with_reducible exact Chg.refl _ _ _)) 
      · refine HU8.out.chg (lo := w.heap.size) (hi := w.heap.size + 1) ?_ hlt
        (repeat (first | with_reducible refine Chg.setCell ?_ (by first | exact Nat.le_refl _ | (simp; done) | (simp; omega)) (by first | (simp; done) | (simp; omega)) _ | with_reducible refine Chg.alloc ?_ _ | with_reducible refine Chg.drew ?_)); (with_reducible exact Chg.refl _ _ _)
end Go.Proofs.Ytpfppkjikkihfaa
