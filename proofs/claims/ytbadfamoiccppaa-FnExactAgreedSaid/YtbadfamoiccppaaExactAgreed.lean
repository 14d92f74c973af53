/- The program's Agreed returns what the reference's returns, for all arguments. No conditions. -/
import Derived.Test.YtbadfamoiccppaaAgreed
import Derived.Test.YtbadfamoiccppaaElNode
import Derived.Deep.RegionWith
import Derived.Deep.DeepCutAuto
namespace Go.Proofs.Ytbadfamoiccppaa
open Go.ChangeShapes Go.WideShapes Go.ChangeAt Go.RowKit Go.Joins

set_option maxRecDepth 100000 in
set_option maxHeartbeats 8000000 in
theorem ExactAgreed_walk (A : Option Addr) (c : Nat) (P : Option Addr) (d : Nat) (ln : List NodeD) (lp : List NMsgD) (w : World) (hl : NodesRd w w.heap.size A ln.length c ln) (hp : RdL msgC 5 w w.heap.size P lp.length d lp) :
    Calls Try.prog 11 #[.agg #[.slice A ln.length c, .slice P lp.length d]] w fun e w' => e = .returned (.bool true) ∧ Below w.heap.size w w' := by
  have HL := Lib.hid hl
  have HP := Lib.hid hp
  have hn := hl.le
  have hpn := hp.le
  clear hl hp
  obtain ⟨kv, hkv⟩ : ∃ kv, kv = agreedB ln lp := ⟨_, rfl⟩
  have HK := Lib.hid hkv
  clear hkv
  go_enter Try.func11, Try.ntmps11
  go_wp2_with fail
  refine (szNet_any A _ c P _ d _ ln lp _ ?_ ?_ (by decide) (by decide)).mono ?_
  · refine NodesRd.more (B := w.heap.size) ?_ (by first | exact Nat.le_refl _ | (simp; done) | omega | (simp; omega))
    refine NodesRd.alloc ?_ (by first | exact Nat.le_refl _ | (simp; done) | omega | (simp; omega)) _
    exact HL.out
  · refine RdL.more (B := w.heap.size) ?_ (by first | exact Nat.le_refl _ | (simp; done) | omega | (simp; omega))
    refine RdL.alloc ?_ (by first | exact Nat.le_refl _ | (simp; done) | omega | (simp; omega)) _
    exact HP.out
  rintro e w1 ⟨r, rfl, hr1, hr2, hr3, hb⟩
  have hs1 := hb.size
  (try simp only [World.size_alloc, World.size_drew, World.size_setCell] at hs1)
  have C1 := Lib.hid (((Chg.refl w.heap.size w.heap.size w).alloc _).below_trans hb)
  have ya1 : ∀ o, w1.cell? ⟨w.heap.size, o, none⟩ = _ := fun o => hb.cell (p := ⟨w.heap.size, o, none⟩) (by first | exact Nat.le_refl _ | (simp; done) | omega | (simp; omega))
  have pa1 : w.heap.size < w1.heap.size := by omega
  have B1 : Hid (Below w.heap.size w w1) := C1.out.below (Nat.le_refl _) (Nat.le_refl _)
  clear hb
  by_cases hr : r < 0
  · go_wp2_with fail
    go_ret
    exact ⟨rfl, B1.out⟩
  obtain ⟨hn1, hm1', hp1⟩ := hr1 (by omega)
  have hm1 := Lib.hid hm1'
  clear hr1 hr2 hr3 hm1'
  go_wp2_with fail
  refine (toNet_any A c P d ln lp _ ?_ ?_ hn1 hm1.out hp1).mono ?_
  · refine NodesRd.more (B := w1.heap.size) ?_ (by first | exact Nat.le_refl _ | (simp; done) | omega | (simp; omega))
    exact (HL.out.below B1.out (Nat.le_refl _)).more B1.out.size
  · refine RdL.more (B := w1.heap.size) ?_ (by first | exact Nat.le_refl _ | (simp; done) | omega | (simp; omega))
    exact (HP.out.below B1.out (Nat.le_refl _)).more B1.out.size
  rintro e w2 ⟨At, ct, Pt, dt, rfl, ho, hq, hb⟩
  have hs2 := hb.size
  (try simp only [World.size_alloc, World.size_drew, World.size_setCell] at hs2)
  have C2 := Lib.hid (((Chg.refl w.heap.size w.heap.size w1)).below_trans hb)
  have ya2 : ∀ o, w2.cell? ⟨w.heap.size, o, none⟩ = _ := fun o => (C2.out.cell (by omega) (by omega)).trans (ya1 o)
  clear ya1
  have pa2 : w.heap.size < w2.heap.size := by omega
  have B2 : Hid (Below w.heap.size w w2) := B1.out.trans (C2.out.below (by omega) (by omega))
  clear hb
  have Ot2 := Lib.hid (ho.wide (lo' := w1.heap.size) (by first | exact Nat.le_refl _ | (simp; done) | omega | (simp; omega)) (Nat.le_refl _))
  have Qt2 := Lib.hid (hq.wide (lo' := w1.heap.size) (by first | exact Nat.le_refl _ | (simp; done) | omega | (simp; omega)) (Nat.le_refl _))
  clear ho hq
  go_wp2_with fail
  refine (sAgreed_any At _ ct Pt _ dt ln lp _ ?_ ?_).mono ?_
  · refine NodesRd.more (B := w2.heap.size) ?_ (by first | exact Nat.le_refl _ | (simp; done) | omega | (simp; omega))
    exact Ot2.out.rd
  · refine RdL.more (B := w2.heap.size) ?_ (by first | exact Nat.le_refl _ | (simp; done) | omega | (simp; omega))
    exact Qt2.out.rd msgC_len
  rw [← HK.out]
  rintro e w3 ⟨rfl, hb⟩
  have hs3 := hb.size
  (try simp only [World.size_alloc, World.size_drew, World.size_setCell] at hs3)
  have C3 := Lib.hid (((Chg.refl w.heap.size w.heap.size w2)).below_trans hb)
  have ya3 : ∀ o, w3.cell? ⟨w.heap.size, o, none⟩ = _ := fun o => (C3.out.cell (by omega) (by omega)).trans (ya2 o)
  clear ya2
  have pa3 : w.heap.size < w3.heap.size := by omega
  have B3 : Hid (Below w.heap.size w w3) := B2.out.trans (C3.out.below (by omega) (by omega))
  have Ot3 := Lib.hid (Ot2.out.chg C3.out (by omega))
  have Qt3 := Lib.hid (Qt2.out.chg C3.out (by omega))
  clear Ot2 Qt2
  clear hb
  clear Ot3 Qt3
  go_wp2_with fail
  refine (toNet_any A c P d ln lp _ ?_ ?_ hn1 hm1.out hp1).mono ?_
  · refine NodesRd.more (B := w3.heap.size) ?_ (by first | exact Nat.le_refl _ | (simp; done) | omega | (simp; omega))
    exact (HL.out.below B3.out (Nat.le_refl _)).more B3.out.size
  · refine RdL.more (B := w3.heap.size) ?_ (by first | exact Nat.le_refl _ | (simp; done) | omega | (simp; omega))
    exact (HP.out.below B3.out (Nat.le_refl _)).more B3.out.size
  rintro e w4 ⟨Ax, cx, Px, dx, rfl, ho, hq, hb⟩
  have hs4 := hb.size
  (try simp only [World.size_alloc, World.size_drew, World.size_setCell] at hs4)
  have C4 := Lib.hid (((Chg.refl w.heap.size w.heap.size w3)).below_trans hb)
  have ya4 : ∀ o, w4.cell? ⟨w.heap.size, o, none⟩ = _ := fun o => (C4.out.cell (by omega) (by omega)).trans (ya3 o)
  clear ya3
  have pa4 : w.heap.size < w4.heap.size := by omega
  have B4 : Hid (Below w.heap.size w w4) := B3.out.trans (C4.out.below (by omega) (by omega))
  clear hb
  have Ox4 := Lib.hid (ho.wide (lo' := w3.heap.size) (by first | exact Nat.le_refl _ | (simp; done) | omega | (simp; omega)) (Nat.le_refl _))
  have Qx4 := Lib.hid (hq.wide (lo' := w3.heap.size) (by first | exact Nat.le_refl _ | (simp; done) | omega | (simp; omega)) (Nat.le_refl _))
  clear ho hq
  go_wp2_with fail
  refine (Agreed_any Ax _ cx Px _ dx ln lp _ ?_ ?_).mono ?_
  · refine NodesRd.more (B := w4.heap.size) ?_ (by first | exact Nat.le_refl _ | (simp; done) | omega | (simp; omega))
    refine NodesRd.alloc ?_ (by first | exact Nat.le_refl _ | (simp; done) | omega | (simp; omega)) _
    exact Ox4.out.rd
  · refine RdL.more (B := w4.heap.size) ?_ (by first | exact Nat.le_refl _ | (simp; done) | omega | (simp; omega))
    refine RdL.alloc ?_ (by first | exact Nat.le_refl _ | (simp; done) | omega | (simp; omega)) _
    exact Qx4.out.rd msgC_len
  rw [← HK.out]
  rintro e w5 ⟨rfl, hb⟩
  have hs5 := hb.size
  (try simp only [World.size_alloc, World.size_drew, World.size_setCell] at hs5)
  have C5 := Lib.hid (((Chg.refl w.heap.size w.heap.size w4).alloc _).below_trans hb)
  have ya5 : ∀ o, w5.cell? ⟨w.heap.size, o, none⟩ = _ := fun o => (C5.out.cell (by omega) (by omega)).trans (ya4 o)
  have yx5 : ∀ o, w5.cell? ⟨w4.heap.size, o, none⟩ = _ := fun o => hb.cell (p := ⟨w4.heap.size, o, none⟩) (by first | exact Nat.le_refl _ | (simp; done) | omega | (simp; omega))
  clear ya4
  have pa5 : w.heap.size < w5.heap.size := by omega
  have px5 : w4.heap.size < w5.heap.size := by omega
  have B5 : Hid (Below w.heap.size w w5) := B4.out.trans (C5.out.below (by omega) (by omega))
  have Ox5 := Lib.hid (Ox4.out.chg C5.out (by omega))
  have Qx5 := Lib.hid (Qx4.out.chg C5.out (by omega))
  clear Ox4 Qx4
  clear hb
  go_upto_region 10 with fail
  go_cut [26] (fun sx wx => sx = .bool false ∧ Below w5.heap.size w5 wx)
  case first =>
    go_region_with (first
      | (go_at_call 30; (refine (toNet_any A c P d ln lp _ (by exact (((HL.out.below B5.out (Nat.le_refl _)).more B5.out.size))) (by exact (((HP.out.below B5.out (Nat.le_refl _)).more B5.out.size))) hn1 hm1.out hp1).mono ?_); rintro e wr ⟨A6, c6, P6, d6, rfl, ho, hq, hb6⟩; have hb6 : Below w5.heap.size w5 wr := ⟨hb6.os, hb6.tape, hb6.output, hb6.size, hb6.block⟩; have R6 := Lib.hid ho.rd; have S6 := Lib.hid (hq.rd msgC_len); have R7 := Lib.hid (Ox5.out.rd.below hb6 (by show w4.heap.size ≤ w5.heap.size; omega)); have S7 := Lib.hid ((Qx5.out.rd msgC_len).below hb6 (by show w4.heap.size ≤ w5.heap.size; omega)); clear ho hq; have z6 : ∀ o, wr.cell? ⟨w4.heap.size, o, none⟩ = _ := (fun o => (hb6.cell (p := ⟨w4.heap.size, o, none⟩) (by show w4.heap.size < w5.heap.size; omega)).trans (yx5 o)); have G6 := Lib.hid hb6; clear hb6)
      | (go_at_call 25; (refine (eqNet_same Ax _ cx Px _ dx A6 c6 P6 d6 ln lp _ (by exact (R7.out.more (by have h6 : w5.heap.size ≤ wr.heap.size := G6.out.size; omega))) (by exact (S7.out.more (by have h6 : w5.heap.size ≤ wr.heap.size := G6.out.size; omega))) (by exact R6.out) (by exact S6.out)).mono ?_); rintro e ws ⟨rfl, hb7⟩; have G7 := Lib.hid hb7; clear hb7))
    all_goals
      go_wp2_with fail
      go_meet
      exact ⟨rfl, G6.out.trans (G7.out.mono G6.out.size)⟩
  case rest =>
  obtain ⟨rfl, hb⟩ := hcut
  have hs6 := hb.size
  (try simp only [World.size_alloc, World.size_drew, World.size_setCell] at hs6)
  have C6 := Lib.hid (((Chg.refl w.heap.size w.heap.size w5)).below_trans hb)
  have ya6 : ∀ o, wc.cell? ⟨w.heap.size, o, none⟩ = _ := fun o => (C6.out.cell (by omega) (by omega)).trans (ya5 o)
  have yx6 : ∀ o, wc.cell? ⟨w4.heap.size, o, none⟩ = _ := fun o => (C6.out.cell (by omega) (by omega)).trans (yx5 o)
  clear ya5 yx5
  have pa6 : w.heap.size < wc.heap.size := by omega
  have px6 : w4.heap.size < wc.heap.size := by omega
  have B6 : Hid (Below w.heap.size w wc) := B5.out.trans (C6.out.below (by omega) (by omega))
  have Ox6 := Lib.hid (Ox5.out.chg C6.out (by omega))
  have Qx6 := Lib.hid (Qx5.out.chg C6.out (by omega))
  clear Ox5 Qx5
  clear hb
  obtain ⟨w6, hwc⟩ : ∃ q, q = wc := ⟨_, rfl⟩
  subst hwc
  go_wp2_with fail
  go_ret
  exact ⟨rfl, B6.out⟩

set_option maxRecDepth 100000 in
theorem ExactAgreed_lifted (os : Os) (started : os.Started) (H : Type) (enc : TypeId × Value → H) :
    ReturnsInHanded {} Try.checked os 11 .any (Rows.fnExactAgreedSpec.pre6 enc Try.prog Try.f11 Rows.fnExactAgreedRow.domain false) (Rows.fnExactAgreedSpec.post enc Try.prog Try.f11 false true false false) := by
  refine returnsInHanded_of_change (C := Try.checked) own started (by kernel_rfl) Try.func11
    (ChangeSpec.witness6 (enc := enc) (C := Try.checked) false ⟨#[], #[.agg #[.slice none 0 0, .slice none 0 0]], []⟩ 8 (by kernel_rfl) (by kernel_rfl) (by kernel_rfl) (by kernel_rfl)) ?_
  intro W base args ds gs before hval0 hW hcnd _
  have hval : ∀ (j : Nat) t v, Try.f11.params[j]? = some t → args[j]? = some v → Value.okWide Try.prog W .any base t v := hval0
  have hW' := hW
  obtain ⟨p, q, hA0, hV, rfl, hfz, hnd⟩ := hW
  have hA : DataW.TrodAll enc Try.prog W 0 (fun _ => true) true Try.f11.params.toList args.toList ds p := hA0
  rw [Try.params11] at hA hval
  obtain ⟨v0, vs0, d0, ds0, p0, q0, hargs, rfl, rfl, h0, r0⟩ := trodAll_cons hA
  obtain ⟨rfl, rfl, rfl⟩ := trodAll_nil r0
  obtain rfl : args = #[v0] := by cases args; simp_all
  obtain ⟨A, c, P, d, ln, lp, rfl, hl, hp⟩ := open_net (hval 0 48 v0 rfl rfl) h0
  refine (ExactAgreed_walk A c P d ln lp W hl hp).mono fun e W' ⟨he, hb⟩ => ?_
  subst he
  refine ⟨_, rfl, law_post (f := Try.f11) (tb := 4) rfl Try.underlying4 rfl (by kernel_rfl) (fun gs hg => by subst hg; rfl) (fun gs hg => by subst hg; rfl) (fun gs hg => by subst hg; rfl) hW' hb⟩

theorem ExactAgreed_holds : Rows.FnExactAgreedSaid :=
  OpenClaim.holds_of_wide 11 Try.f11 rfl rfl rfl rfl rfl rfl rfl ⟨rfl, rfl, rfl, rfl, rfl⟩ rfl rfl rfl rfl rfl (by kernel_rfl) Try.func11 (by kernel_rfl)
    (of_decide_eq_true (by kernel_rfl)) (by unfold Func.isWrapper; first | (rw [if_pos (by decide +kernel)]; kernel_rfl) | (rw [if_neg (by decide +kernel)]; exact ⟨rfl, rfl⟩))
    (fun os started H enc _ => ExactAgreed_lifted os started H enc)
#print axioms ExactAgreed_holds
end Go.Proofs.Ytbadfamoiccppaa
