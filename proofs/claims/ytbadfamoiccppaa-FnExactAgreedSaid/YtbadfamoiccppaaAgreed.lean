/- Agreed of the program and of the reference. -/
import Derived.Test.YtbadfamoiccppaaDec2
import Derived.WalkKit
import Derived.WalkSpells
import Derived.WalkLawsBesides
import Derived.Lib.Hide
namespace Go.Proofs.Ytbadfamoiccppaa
open Go.RowKit

set_option maxRecDepth 100000 in
set_option maxHeartbeats 1000000 in
theorem Agreed_any (A : Option Addr) (n c : Nat) (P : Option Addr) (p d : Nat) (ln : List NodeD) (lp : List NMsgD) (w : World) (hl : NodesRd w w.heap.size A n c ln) (hp : RdL msgC 5 w w.heap.size P p d lp) :
    Calls Try.prog 42 #[.agg #[.slice A n c, .slice P p d]] w fun e w' => e = .returned (.bool (agreedB ln lp)) ∧ Below w.heap.size w w' := by
  have HL := Lib.hid hl
  have HP := Lib.hid hp
  clear hl hp
  cases hN : netB ln lp
  · have HE : Hid (agreedB ln lp = false) := by show _ = _; simp [agreedB, hN]
    have HN := Lib.hid hN
    clear hN
    go_enter Try.func42, Try.ntmps42
    go_wp2_with fail
    refine (NetOk_any A n c P p d ln lp _ (by exact (HL.out.alloc (Nat.le_refl _) _).more (by simp)) (by exact (HP.out.alloc (Nat.le_refl _) _).more (by simp))).mono ?_
    rw [HN.out]
    rintro e w1 ⟨rfl, hb⟩
    have HW : Hid (Below w.heap.size w w1) := (by repeat (first | exact Below.refl _ _ | assumption | refine Below.drew ?_ | refine belN ?_ _ | refine Below.alloc ?_ (by first | exact Nat.le_refl _ | (simp; done) | (simp; omega) | omega) _ | refine Below.setCell ?_ (by first | exact Nat.le_refl _ | (simp; done) | (simp; omega) | omega) _ | refine Below.trans ?_ (Below.mono (by assumption) (by first | exact Nat.le_refl _ | (simp; done) | (simp; omega) | omega))))
    clear hb
    go_wp2_with fail
    go_ret
    exact ⟨by rw [HE.out]; rfl, HW.out⟩
  have HE : Hid (agreedB ln lp = decide (((decsL ln lp).length : Int) ≤ 1)) := by show _ = _; simp [agreedB, hN]
  have HN := Lib.hid hN
  clear hN
  obtain ⟨m, hm⟩ : ∃ m, m = (decsL ln lp).length := ⟨_, rfl⟩
  rw [← hm] at HE
  have HM := Lib.hid hm
  clear hm
  go_enter Try.func42, Try.ntmps42
  go_wp2_with fail
  refine (NetOk_any A n c P p d ln lp _ (by exact (HL.out.alloc (Nat.le_refl _) _).more (by simp)) (by exact (HP.out.alloc (Nat.le_refl _) _).more (by simp))).mono ?_
  rw [HN.out]
  rintro e w1 ⟨rfl, hb⟩
  obtain ⟨hc, hf, hz⟩ := bcell hb
  have s0 : w1.cell? ⟨w.heap.size, 0, none⟩ = some (.slice A n c) := by rw [hc _ _ (by simp)]; simp
  have s1 : w1.cell? ⟨w.heap.size, 1, none⟩ = some (.slice P p d) := by rw [hc _ _ (by simp)]; simp
  have HW : Hid (Below w.heap.size w w1) := (by repeat (first | exact Below.refl _ _ | assumption | refine Below.drew ?_ | refine belN ?_ _ | refine Below.alloc ?_ (by first | exact Nat.le_refl _ | (simp; done) | (simp; omega) | omega) _ | refine Below.setCell ?_ (by first | exact Nat.le_refl _ | (simp; done) | (simp; omega) | omega) _ | refine Below.trans ?_ (Below.mono (by assumption) (by first | exact Nat.le_refl _ | (simp; done) | (simp; omega) | omega))))
  clear hc hf hz hb
  go_wp2_with fail
  refine (Decisions_any A n c P p d ln lp _ (by exact (HL.out.below HW.out (Nat.le_refl _)).more HW.out.size) (by exact (HP.out.below HW.out (Nat.le_refl _)).more HW.out.size)).mono ?_
  rintro e w2 ⟨A2, c2, rfl, _, hb⟩
  have HW2 := Lib.hid (HW.out.trans (hb.mono HW.out.size))
  clear hb
  rw [← HM.out]
  go_wp2_with fail
  go_ret
  exact ⟨by rw [HE.out]; rfl, HW2.out⟩

set_option maxRecDepth 100000 in
set_option maxHeartbeats 1000000 in
theorem sAgreed_any (A : Option Addr) (n c : Nat) (P : Option Addr) (p d : Nat) (ln : List NodeD) (lp : List NMsgD) (w : World) (hl : NodesRd w w.heap.size A n c ln) (hp : RdL msgC 5 w w.heap.size P p d lp) :
    Calls Try.prog 41 #[.agg #[.slice A n c, .slice P p d]] w fun e w' => e = .returned (.bool (agreedB ln lp)) ∧ Below w.heap.size w w' := by
  have HL := Lib.hid hl
  have HP := Lib.hid hp
  clear hl hp
  cases hN : netB ln lp
  · have HE : Hid (agreedB ln lp = false) := by show _ = _; simp [agreedB, hN]
    have HN := Lib.hid hN
    clear hN
    go_enter Try.func41, Try.ntmps41
    go_wp2_with fail
    refine (sNetOk_any A n c P p d ln lp _ (by exact (HL.out.alloc (Nat.le_refl _) _).more (by simp)) (by exact (HP.out.alloc (Nat.le_refl _) _).more (by simp))).mono ?_
    rw [HN.out]
    rintro e w1 ⟨rfl, hb⟩
    have HW : Hid (Below w.heap.size w w1) := (by repeat (first | exact Below.refl _ _ | assumption | refine Below.drew ?_ | refine belN ?_ _ | refine Below.alloc ?_ (by first | exact Nat.le_refl _ | (simp; done) | (simp; omega) | omega) _ | refine Below.setCell ?_ (by first | exact Nat.le_refl _ | (simp; done) | (simp; omega) | omega) _ | refine Below.trans ?_ (Below.mono (by assumption) (by first | exact Nat.le_refl _ | (simp; done) | (simp; omega) | omega))))
    clear hb
    go_wp2_with fail
    go_ret
    exact ⟨by rw [HE.out]; rfl, HW.out⟩
  have HE : Hid (agreedB ln lp = decide (((decsL ln lp).length : Int) ≤ 1)) := by show _ = _; simp [agreedB, hN]
  have HN := Lib.hid hN
  clear hN
  obtain ⟨m, hm⟩ : ∃ m, m = (decsL ln lp).length := ⟨_, rfl⟩
  rw [← hm] at HE
  have HM := Lib.hid hm
  clear hm
  go_enter Try.func41, Try.ntmps41
  go_wp2_with fail
  refine (sNetOk_any A n c P p d ln lp _ (by exact (HL.out.alloc (Nat.le_refl _) _).more (by simp)) (by exact (HP.out.alloc (Nat.le_refl _) _).more (by simp))).mono ?_
  rw [HN.out]
  rintro e w1 ⟨rfl, hb⟩
  obtain ⟨hc, hf, hz⟩ := bcell hb
  have s0 : w1.cell? ⟨w.heap.size, 0, none⟩ = some (.slice A n c) := by rw [hc _ _ (by simp)]; simp
  have s1 : w1.cell? ⟨w.heap.size, 1, none⟩ = some (.slice P p d) := by rw [hc _ _ (by simp)]; simp
  have HW : Hid (Below w.heap.size w w1) := (by repeat (first | exact Below.refl _ _ | assumption | refine Below.drew ?_ | refine belN ?_ _ | refine Below.alloc ?_ (by first | exact Nat.le_refl _ | (simp; done) | (simp; omega) | omega) _ | refine Below.setCell ?_ (by first | exact Nat.le_refl _ | (simp; done) | (simp; omega) | omega) _ | refine Below.trans ?_ (Below.mono (by assumption) (by first | exact Nat.le_refl _ | (simp; done) | (simp; omega) | omega))))
  clear hc hf hz hb
  go_wp2_with fail
  refine (sDecisions_any A n c P p d ln lp _ (by exact (HL.out.below HW.out (Nat.le_refl _)).more HW.out.size) (by exact (HP.out.below HW.out (Nat.le_refl _)).more HW.out.size)).mono ?_
  rintro e w2 ⟨A2, c2, rfl, _, hb⟩
  have HW2 := Lib.hid (HW.out.trans (hb.mono HW.out.size))
  clear hb
  rw [← HM.out]
  go_wp2_with fail
  go_ret
  exact ⟨by rw [HE.out]; rfl, HW2.out⟩
end Go.Proofs.Ytbadfamoiccppaa
