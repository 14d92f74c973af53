/- DrawTimeLeft. -/
import Derived.Test.YtpfppkjikkihfaaDrawTrust
import Derived.WalkKit
import Derived.WalkSpells
import Derived.WalkLawsBesides
import Derived.Lib.Hide
namespace Go.Proofs.Ytpfppkjikkihfaa
open Go.RowKit

set_option maxRecDepth 100000 in
set_option maxHeartbeats 1000000 in
theorem DrawTimeLeft_any (A : Option Addr) (n c : Nat) (l : List UInt8) (w : World) (hl : RdL octC 1 w w.heap.size A n c l) (hn : n ≤ 1048576) :
    Calls Try.prog 17 #[.slice A n c] w fun e w' => ∃ p s a t : Int, e = .returned (.tuple #[.agg #[.int .i64 p, .int .i64 s], .int .i64 a, .int .i64 t]) ∧ Below w.heap.size w w' := by
  have HL := Lib.hid hl
  clear hl
  go_enter Try.func17, Try.ntmps17
  go_wp2_with fail
  refine (l1New_any A n c l _ (by exact (HL.out.alloc (Nat.le_refl _) _).more (by simp)) hn).mono ?_
  rintro e w1 ⟨rfl, hu, hb⟩
  have hcb : (w.alloc (.cells #[.int .i64 0, .int .i64 0] 37)).heap.size = w.heap.size + 1 := by simp
  have hs1 : w.heap.size + 1 ≤ w1.heap.size := by have := hb.size; simpa using this
  have r0 : w1.cell? ⟨w.heap.size, 0, none⟩ = some (.int .i64 0) := by rw [hb.cell (p := ⟨w.heap.size, 0, none⟩) (by simp)]; simp
  have r1 : w1.cell? ⟨w.heap.size, 1, none⟩ = some (.int .i64 0) := by rw [hb.cell (p := ⟨w.heap.size, 1, none⟩) (by simp)]; simp
  have rf : ∀ o, w1.frozen? ⟨w.heap.size, o, none⟩ = false := fun o => by rw [hb.frozen (p := ⟨w.heap.size, o, none⟩) (by simp)]; simp
  have HB1 : Hid (Below w.heap.size w w1) := ((Below.refl _ _).alloc (Nat.le_refl _) _).trans (hb.mono (by simp))
  have hu' : Cur w1 (w.heap.size + 1) A n c := by rw [← hcb]; exact hu
  have HU1 := Lib.hid hu'
  have hlt1 := hu'.lt
  rw [hcb]
  clear hb hu hu' hcb
  go_wp2_with fail
  refine (l10Trust_any (w.heap.size + 1) A n c _ HU1.out).mono ?_
  rintro e w2 ⟨v, rfl, ⟨p, s, rfl⟩, hg, hu⟩
  have hs2 : w1.heap.size ≤ w2.heap.size := hg.size
  have r0 := (hg.cell (k := w.heap.size) (by omega) (.inl (by omega))).trans r0
  have r1 := (hg.cell (k := w.heap.size) (by omega) (.inl (by omega))).trans r1
  have rf : ∀ o, w2.frozen? ⟨w.heap.size, o, none⟩ = false := fun o => (hg.frozen (k := w.heap.size) (by omega) (.inl (by omega))).trans (rf o)
  have HB2 : Hid (Below w.heap.size w w2) := HB1.out.trans (hg.below (by omega) (by omega))
  have HU2 := Lib.hid hu
  have hlt2 := hu.lt
  clear hg hu
  go_wp2_with fail
  refine (l10At_any (w.heap.size + 1) A n c _ (HU2.out.alloc _)).mono ?_
  rintro e w3 ⟨v, rfl, ⟨a, rfl, _, _⟩, hg, hu⟩
  have hs3 : w2.heap.size + 1 ≤ w3.heap.size := by have := hg.size; simpa using this
  have t0 : w3.cell? ⟨w2.heap.size, 0, none⟩ = some (.int .i64 p) := by rw [hg.cell (by simp) (.inr hlt2)]; simp
  have t1 : w3.cell? ⟨w2.heap.size, 1, none⟩ = some (.int .i64 s) := by rw [hg.cell (by simp) (.inr hlt2)]; simp
  have D3 := Lib.hid (((Chg.refl (w.heap.size + 1) (w.heap.size + 1 + 1) w2).alloc _).trans hg)
  have r0 := (D3.out.cell (k := w.heap.size) (by omega) (.inl (by omega))).trans r0
  have r1 := (D3.out.cell (k := w.heap.size) (by omega) (.inl (by omega))).trans r1
  have rf : ∀ o, w3.frozen? ⟨w.heap.size, o, none⟩ = false := fun o => (D3.out.frozen (k := w.heap.size) (by omega) (.inl (by omega))).trans (rf o)
  have HB3 : Hid (Below w.heap.size w w3) := HB2.out.trans (D3.out.below (by omega) (by omega))
  have HU3 := Lib.hid hu
  have hltR : w.heap.size < w3.heap.size := by omega
  have hltT : w2.heap.size < w3.heap.size := by omega
  clear hg hu D3
  go_upto_region 4 with fail
  go_region_with (go_at_call 46; (refine (l10At_any (w.heap.size + 1) A n c _ (by exact HU3.out.drew)).mono ?_); rintro e wx ⟨v, rfl, ⟨t, rfl, _, _⟩, hg, hu⟩; have hg : Chg (w.heap.size + 1) (w.heap.size + 1 + 1) w3 wx := ⟨hg.os, hg.tape, hg.output, hg.size, hg.block⟩; have q0 : wx.cell? ⟨w2.heap.size, 0, none⟩ = some (.int .i64 p) := (hg.cell hltT (.inr hlt2)).trans t0; have q1 : wx.cell? ⟨w2.heap.size, 1, none⟩ = some (.int .i64 s) := (hg.cell hltT (.inr hlt2)).trans t1; have k0 := (hg.cell hltR (.inl (by omega))).trans r0; have k1 := (hg.cell hltR (.inl (by omega))).trans r1; have kf : ∀ o, wx.frozen? ⟨w.heap.size, o, none⟩ = false := (fun o => (hg.frozen hltR (.inl (by omega))).trans (rf o)); have HBX : Hid (Below w.heap.size w wx) := HB3.out.trans (hg.below (by omega) (by omega)); clear hg hu)
  all_goals
    go_wp2_with fail
    refine bodyPost_ret (v := .tuple #[.agg #[.int .i64 p, .int .i64 s], .int .i64 a, .int .i64 t]) (by simp [results, Try.results17, go_sem, k0, k1]) rfl ⟨p, s, a, t, rfl, ?_⟩
    (repeat (first | with_reducible refine Below.setCell ?_ (by first | exact Nat.le_refl _ | (simp; done) | (simp; omega)) _ | with_reducible refine Below.alloc ?_ (by first | exact Nat.le_refl _ | (simp; done) | (simp; omega)) _ | with_reducible refine Below.drew ?_)); (with_reducible exact HBX.out)
end Go.Proofs.Ytpfppkjikkihfaa
