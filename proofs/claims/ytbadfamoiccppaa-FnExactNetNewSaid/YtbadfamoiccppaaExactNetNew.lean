/- The program's NetNew returns what the reference's returns, for all arguments. No conditions. -/
import Derived.Test.YtbadfamoiccppaaNetNew
import Derived.Test.YtbadfamoiccppaaL
import Derived.Deep.RegionWith
import Derived.Deep.DeepCutAuto
namespace Go.Proofs.Ytbadfamoiccppaa
open Go.ChangeShapes Go.WideShapes Go.ChangeAt Go.RowKit Go.Joins

set_option maxRecDepth 100000 in
set_option maxHeartbeats 4000000 in
theorem ExactNetNew_walk (w : World) :
    Calls Try.prog 6 #[] w fun e w' => e = .returned (.bool true) ∧ Below w.heap.size w w' := by
  have hsz : 1 + szND newN ≤ 10000000 := by decide
  have hsn : ((1 + szND newN : Nat) : Int) = 28 := by decide
  go_enter Try.func6, Try.ntmps6
  go_wp2_with fail
  refine (sNetNew_any _).mono ?_
  rintro e w1 ⟨Ap, cp, rfl, ho, hb⟩
  have hs1 := hb.size
  (try simp only [World.size_alloc, World.size_drew, World.size_setCell] at hs1)
  have C1 := Lib.hid (((Chg.refl w.heap.size w.heap.size w)).below_trans hb)
  have B1 : Hid (Below w.heap.size w w1) := C1.out.below (Nat.le_refl _) (Nat.le_refl _)
  clear hb
  have Op1 := Lib.hid (ho.wide (lo' := w.heap.size) (by first | with_reducible exact Nat.le_refl _ | (simp; done) | omega | (simp; omega)) (Nat.le_refl _))
  clear ho
  go_wp2_with fail
  refine (NetNew_any _).mono ?_
  rintro e w2 ⟨Ax, cx, rfl, ho, hb⟩
  have hs2 := hb.size
  (try simp only [World.size_alloc, World.size_drew, World.size_setCell] at hs2)
  have C2 := Lib.hid (((Chg.refl w.heap.size w.heap.size w1).alloc _).below_trans hb)
  have yp2 : ∀ o, w2.cell? ⟨w1.heap.size, o, none⟩ = _ := fun o => hb.cell (p := ⟨w1.heap.size, o, none⟩) (by first | with_reducible exact Nat.le_refl _ | (simp; done) | omega | (simp; omega))
  have pp2 : w1.heap.size < w2.heap.size := by omega
  have B2 : Hid (Below w.heap.size w w2) := B1.out.trans (C2.out.below (by omega) (by omega))
  have Op2 := Lib.hid (Op1.out.chg C2.out (by omega))
  clear Op1
  clear hb
  have Ox2 := Lib.hid (ho.wide (lo' := w1.heap.size + 1) (by first | with_reducible exact Nat.le_refl _ | (simp; done) | omega | (simp; omega)) (Nat.le_refl _))
  clear ho
  go_wp2_with fail
  refine (eqNet_same Ax 3 cx none 0 0 Ap cp none 0 newN [] _ (by exact ((Ox2.out.rd.more (B' := w2.heap.size) (by first | with_reducible exact Nat.le_refl _ | (simp; done) | omega | (simp; omega)) |>.alloc (Nat.le_refl _) _).more (by first | with_reducible exact Nat.le_refl _ | (simp; done) | omega | (simp; omega)))) ⟨rfl, Rd.nil _ _ _⟩ (by exact ((Op2.out.rd.more (B' := w2.heap.size) (by first | with_reducible exact Nat.le_refl _ | (simp; done) | omega | (simp; omega)) |>.alloc (Nat.le_refl _) _).more (by first | with_reducible exact Nat.le_refl _ | (simp; done) | omega | (simp; omega)))) ⟨rfl, Rd.nil _ _ _⟩).mono ?_
  rintro e w3 ⟨rfl, hb⟩
  have hs3 := hb.size
  (try simp only [World.size_alloc, World.size_drew, World.size_setCell] at hs3)
  have C3 := Lib.hid (((Chg.refl w.heap.size w.heap.size w2).alloc _).below_trans hb)
  have yp3 : ∀ o, w3.cell? ⟨w1.heap.size, o, none⟩ = _ := fun o => (C3.out.cell (by omega) (by omega)).trans (yp2 o)
  have yx3 : ∀ o, w3.cell? ⟨w2.heap.size, o, none⟩ = _ := fun o => hb.cell (p := ⟨w2.heap.size, o, none⟩) (by first | with_reducible exact Nat.le_refl _ | (simp; done) | omega | (simp; omega))
  clear yp2
  have pp3 : w1.heap.size < w3.heap.size := by omega
  have px3 : w2.heap.size < w3.heap.size := by omega
  have B3 : Hid (Below w.heap.size w w3) := B2.out.trans (C3.out.below (by omega) (by omega))
  have Op3 := Lib.hid (Op2.out.chg C3.out (by omega))
  clear Op2
  have Ox3 := Lib.hid (Ox2.out.chg C3.out (by omega))
  clear Ox2
  clear hb
  go_wp2_with fail
  refine (markNet0_any Ax 3 cx newN none 0 (w1.heap.size + 1) w2.heap.size 1 _ Ox3.out (by omega) ⟨rfl, rfl⟩ (by decide) (by decide) hsz).mono ?_
  rintro e w4 ⟨rfl, hg, lm, ho, hm⟩
  have hs4 := hg.size
  (try simp only [World.size_alloc, World.size_drew, World.size_setCell] at hs4)
  have C4 := Lib.hid (((Chg.refl (w1.heap.size + 1) w2.heap.size w3)).trans hg)
  have yp4 : ∀ o, w4.cell? ⟨w1.heap.size, o, none⟩ = _ := fun o => (C4.out.cell (by omega) (by omega)).trans (yp3 o)
  have yx4 : ∀ o, w4.cell? ⟨w2.heap.size, o, none⟩ = _ := fun o => (C4.out.cell (by omega) (by omega)).trans (yx3 o)
  clear yp3 yx3
  have pp4 : w1.heap.size < w4.heap.size := by omega
  have px4 : w2.heap.size < w4.heap.size := by omega
  have B4 : Hid (Below w.heap.size w w4) := B3.out.trans (C4.out.below (by omega) (by omega))
  have Op4 := Lib.hid (Op3.out.chg C4.out (by omega))
  clear Op3
  clear hg
  rw [hsn]
  have HM := Lib.hid hm
  clear Ox3
  have Ox4 := Lib.hid ho
  clear ho hm
  go_wp2_with fail
  refine (heldNet0_any Ax 3 cx newN lm none 0 1 _ (by exact ((Ox4.out.rd).more (by first | with_reducible exact Nat.le_refl _ | (simp; done) | omega | (simp; omega)))) HM.out ⟨rfl, rfl⟩ (by decide) (by decide) hsz).mono ?_
  rintro e w5 ⟨rfl, hb⟩
  have hs5 := hb.size
  (try simp only [World.size_alloc, World.size_drew, World.size_setCell] at hs5)
  have C5 := Lib.hid (((Chg.refl w.heap.size w.heap.size w4)).below_trans hb)
  have yp5 : ∀ o, w5.cell? ⟨w1.heap.size, o, none⟩ = _ := fun o => (C5.out.cell (by omega) (by omega)).trans (yp4 o)
  have yx5 : ∀ o, w5.cell? ⟨w2.heap.size, o, none⟩ = _ := fun o => (C5.out.cell (by omega) (by omega)).trans (yx4 o)
  clear yp4 yx4
  have pp5 : w1.heap.size < w5.heap.size := by omega
  have px5 : w2.heap.size < w5.heap.size := by omega
  have B5 : Hid (Below w.heap.size w w5) := B4.out.trans (C5.out.below (by omega) (by omega))
  have Op5 := Lib.hid (Op4.out.chg C5.out (by omega))
  clear Op4
  have Ox5 := Lib.hid (Ox4.out.chg C5.out (by omega))
  clear Ox4
  clear hb
  rw [hsn]
  go_wp2_with fail
  refine (NetNew_any _).mono ?_
  rintro e w6 ⟨Ah, ch, rfl, ho, hb⟩
  have hs6 := hb.size
  (try simp only [World.size_alloc, World.size_drew, World.size_setCell] at hs6)
  have C6 := Lib.hid (((Chg.refl w.heap.size w.heap.size w5)).below_trans hb)
  have yp6 : ∀ o, w6.cell? ⟨w1.heap.size, o, none⟩ = _ := fun o => (C6.out.cell (by omega) (by omega)).trans (yp5 o)
  have yx6 : ∀ o, w6.cell? ⟨w2.heap.size, o, none⟩ = _ := fun o => (C6.out.cell (by omega) (by omega)).trans (yx5 o)
  clear yp5 yx5
  have pp6 : w1.heap.size < w6.heap.size := by omega
  have px6 : w2.heap.size < w6.heap.size := by omega
  have B6 : Hid (Below w.heap.size w w6) := B5.out.trans (C6.out.below (by omega) (by omega))
  have Op6 := Lib.hid (Op5.out.chg C6.out (by omega))
  clear Op5
  have Ox6 := Lib.hid (Ox5.out.chg C6.out (by omega))
  clear Ox5
  clear hb
  have Oh6 := Lib.hid (ho.wide (lo' := w5.heap.size) (by first | with_reducible exact Nat.le_refl _ | (simp; done) | omega | (simp; omega)) (Nat.le_refl _))
  clear ho
  go_wp2_with fail
  refine (eqNet_same Ah 3 ch none 0 0 Ap cp none 0 newN [] _ (by exact ((Oh6.out.rd.more (B' := w6.heap.size) (by first | with_reducible exact Nat.le_refl _ | (simp; done) | omega | (simp; omega)) |>.alloc (Nat.le_refl _) _).more (by first | with_reducible exact Nat.le_refl _ | (simp; done) | omega | (simp; omega)))) ⟨rfl, Rd.nil _ _ _⟩ (by exact ((Op6.out.rd.more (B' := w6.heap.size) (by first | with_reducible exact Nat.le_refl _ | (simp; done) | omega | (simp; omega)) |>.alloc (Nat.le_refl _) _).more (by first | with_reducible exact Nat.le_refl _ | (simp; done) | omega | (simp; omega)))) ⟨rfl, Rd.nil _ _ _⟩).mono ?_
  rintro e w7 ⟨rfl, hb⟩
  have hs7 := hb.size
  (try simp only [World.size_alloc, World.size_drew, World.size_setCell] at hs7)
  have C7 := Lib.hid (((Chg.refl w.heap.size w.heap.size w6).alloc _).below_trans hb)
  have yp7 : ∀ o, w7.cell? ⟨w1.heap.size, o, none⟩ = _ := fun o => (C7.out.cell (by omega) (by omega)).trans (yp6 o)
  have yx7 : ∀ o, w7.cell? ⟨w2.heap.size, o, none⟩ = _ := fun o => (C7.out.cell (by omega) (by omega)).trans (yx6 o)
  have yh7 : ∀ o, w7.cell? ⟨w6.heap.size, o, none⟩ = _ := fun o => hb.cell (p := ⟨w6.heap.size, o, none⟩) (by first | with_reducible exact Nat.le_refl _ | (simp; done) | omega | (simp; omega))
  clear yp6 yx6
  have pp7 : w1.heap.size < w7.heap.size := by omega
  have px7 : w2.heap.size < w7.heap.size := by omega
  have ph7 : w6.heap.size < w7.heap.size := by omega
  have B7 : Hid (Below w.heap.size w w7) := B6.out.trans (C7.out.below (by omega) (by omega))
  have Op7 := Lib.hid (Op6.out.chg C7.out (by omega))
  clear Op6
  have Ox7 := Lib.hid (Ox6.out.chg C7.out (by omega))
  clear Ox6
  have Oh7 := Lib.hid (Oh6.out.chg C7.out (by omega))
  clear Oh6
  clear hb
  go_wp2_with fail
  refine (heldNet0_any Ax 3 cx newN lm none 0 1 _ (by exact ((Ox7.out.rd).more (by first | with_reducible exact Nat.le_refl _ | (simp; done) | omega | (simp; omega)))) HM.out ⟨rfl, rfl⟩ (by decide) (by decide) hsz).mono ?_
  rintro e w8 ⟨rfl, hb⟩
  have hs8 := hb.size
  (try simp only [World.size_alloc, World.size_drew, World.size_setCell] at hs8)
  have C8 := Lib.hid (((Chg.refl w.heap.size w.heap.size w7)).below_trans hb)
  have yp8 : ∀ o, w8.cell? ⟨w1.heap.size, o, none⟩ = _ := fun o => (C8.out.cell (by omega) (by omega)).trans (yp7 o)
  have yx8 : ∀ o, w8.cell? ⟨w2.heap.size, o, none⟩ = _ := fun o => (C8.out.cell (by omega) (by omega)).trans (yx7 o)
  have yh8 : ∀ o, w8.cell? ⟨w6.heap.size, o, none⟩ = _ := fun o => (C8.out.cell (by omega) (by omega)).trans (yh7 o)
  clear yp7 yx7 yh7
  have pp8 : w1.heap.size < w8.heap.size := by omega
  have px8 : w2.heap.size < w8.heap.size := by omega
  have ph8 : w6.heap.size < w8.heap.size := by omega
  have B8 : Hid (Below w.heap.size w w8) := B7.out.trans (C8.out.below (by omega) (by omega))
  have Op8 := Lib.hid (Op7.out.chg C8.out (by omega))
  clear Op7
  have Ox8 := Lib.hid (Ox7.out.chg C8.out (by omega))
  clear Ox7
  have Oh8 := Lib.hid (Oh7.out.chg C8.out (by omega))
  clear Oh7
  clear hb
  rw [hsn]
  go_wp2_with fail
  go_ret
  exact ⟨rfl, B8.out⟩

set_option maxRecDepth 100000 in
theorem ExactNetNew_lifted (os : Os) (started : os.Started) (H : Type) (enc : TypeId × Value → H) :
    ReturnsInHanded {} Try.checked os 6 .any (Rows.fnExactNetNewSpec.pre6 enc Try.prog Try.f6 Rows.fnExactNetNewRow.domain false) (Rows.fnExactNetNewSpec.post enc Try.prog Try.f6 false true false false) := by
  refine returnsInHanded_of_change (C := Try.checked) own started (by kernel_rfl) Try.func6
    (ChangeSpec.witness6 (enc := enc) (C := Try.checked) false ⟨#[], #[], []⟩ 8 (by kernel_rfl) (by kernel_rfl) (by kernel_rfl) (by kernel_rfl)) ?_
  intro W base args ds gs before hval0 hW hcnd _
  have hval : ∀ (j : Nat) t v, Try.f6.params[j]? = some t → args[j]? = some v → Value.okWide Try.prog W .any base t v := hval0
  have hW' := hW
  obtain ⟨p, q, hA0, hV, rfl, hfz, hnd⟩ := hW
  have hA : DataW.TrodAll enc Try.prog W 0 (fun _ => true) true Try.f6.params.toList args.toList ds p := hA0
  rw [Try.params6] at hA hval
  obtain ⟨hargs, rfl, rfl⟩ := trodAll_nil hA
  obtain rfl : args = #[] := by cases args; simp_all
  refine (ExactNetNew_walk W).mono fun e W' ⟨he, hb⟩ => ?_
  subst he
  refine ⟨_, rfl, law_post (f := Try.f6) (tb := 4) rfl Try.underlying4 rfl (by kernel_rfl) (fun gs hg => by subst hg; rfl) (fun gs hg => by subst hg; rfl) (fun gs hg => by subst hg; rfl) hW' hb⟩

theorem ExactNetNew_holds : Rows.FnExactNetNewSaid :=
  OpenClaim.holds_of_wide 6 Try.f6 rfl rfl rfl rfl rfl rfl rfl ⟨rfl, rfl, rfl, rfl, rfl⟩ rfl rfl rfl rfl rfl (by kernel_rfl) Try.func6 (by kernel_rfl)
    (of_decide_eq_true (by kernel_rfl)) (by unfold Func.isWrapper; first | (rw [if_pos (by decide +kernel)]; kernel_rfl) | (rw [if_neg (by decide +kernel)]; exact ⟨rfl, rfl⟩))
    (fun os started H enc _ => ExactNetNew_lifted os started H enc)
#print axioms ExactNetNew_holds
end Go.Proofs.Ytbadfamoiccppaa
