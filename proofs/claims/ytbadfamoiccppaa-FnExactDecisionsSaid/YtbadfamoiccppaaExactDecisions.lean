/- The program's Decisions returns what the reference's returns, for all arguments. No conditions. -/
import Derived.Test.YtbadfamoiccppaaDec2
import Derived.Test.YtbadfamoiccppaaNet2
import Derived.Test.YtbadfamoiccppaaIntMk
import Derived.Test.YtbadfamoiccppaaElNode
import Derived.Deep.RegionWith
import Derived.Deep.DeepCutAuto
namespace Go.Proofs.Ytbadfamoiccppaa
open Go.ChangeShapes Go.WideShapes Go.ChangeAt Go.RowKit Go.Joins

theorem decsL_len {ln : List NodeD} {lp : List NMsgD} : (decsL ln lp).length ≤ 20 := by
  unfold decsL
  split
  · rename_i h; rw [dec_eq h]; exact specD_len ln 20
  · simp

set_option maxRecDepth 100000 in
set_option maxHeartbeats 8000000 in
theorem ExactDecisions_walk (A : Option Addr) (c : Nat) (P : Option Addr) (d : Nat) (ln : List NodeD) (lp : List NMsgD) (w : World) (hl : NodesRd w w.heap.size A ln.length c ln) (hp : RdL msgC 5 w w.heap.size P lp.length d lp) :
    Calls Try.prog 10 #[.agg #[.slice A ln.length c, .slice P lp.length d]] w fun e w' => e = .returned (.bool true) ∧ Below w.heap.size w w' := by
  have HL := Lib.hid hl
  have HP := Lib.hid hp
  clear hl hp
  have hm20 := decsL_len (ln := ln) (lp := lp)
  obtain ⟨D, hD⟩ : ∃ D, D = decsL ln lp := ⟨_, rfl⟩
  have HD := Lib.hid hD
  rw [← hD] at hm20
  clear hD
  have hdl : D.length ≤ 1048576 := by omega
  go_enter Try.func10, Try.ntmps10
  go_wp2_with fail
  refine (szNet2_any A _ c P _ d _ ln lp _ ?_ ?_ (by decide) (by decide)).mono ?_
  · refine NodesRd.more (B := w.heap.size) ?_ (by first | with_reducible exact Nat.le_refl _ | (simp; done) | omega | (simp; omega))
    refine NodesRd.alloc ?_ (by first | with_reducible exact Nat.le_refl _ | (simp; done) | omega | (simp; omega)) _
    exact HL.out
  · refine RdL.more (B := w.heap.size) ?_ (by first | with_reducible exact Nat.le_refl _ | (simp; done) | omega | (simp; omega))
    refine RdL.alloc ?_ (by first | with_reducible exact Nat.le_refl _ | (simp; done) | omega | (simp; omega)) _
    exact HP.out
  rintro e w1 ⟨r, rfl, hr1, hr2, hr3, hb⟩
  have hs1 := hb.size
  (try simp only [World.size_alloc, World.size_drew, World.size_setCell] at hs1)
  have C1 := Lib.hid (((Chg.refl w.heap.size w.heap.size w).alloc _).below_trans hb)
  have ya1 : ∀ o, w1.cell? ⟨w.heap.size, o, none⟩ = _ := fun o => hb.cell (p := ⟨w.heap.size, o, none⟩) (by first | with_reducible exact Nat.le_refl _ | (simp; done) | omega | (simp; omega))
  have pa1 : w.heap.size < w1.heap.size := by omega
  have B1 : Hid (Below w.heap.size w w1) := C1.out.below (Nat.le_refl _) (Nat.le_refl _)
  clear hb
  by_cases hr : r < 0
  · go_wp2_with fail
    go_ret
    exact ⟨rfl, B1.out⟩
  have hsum := hr1 (by omega)
  have hn1 : ln.length ≤ 1048576 := by omega
  have hp1 : lp.length ≤ 1048576 := by omega
  have hm1 : Hid (∀ x ∈ ln, x.l.length ≤ 1048576) := Lib.hid fun x hx => by have := sumM_mem hx; omega
  have hszn : 1 + szND ln ≤ 10000000 := by rw [szND_sum]; omega
  clear hr1 hr2 hr3
  go_wp2_with fail
  refine (toNet2_any A c P d ln lp _ ?_ ?_ hn1 hm1.out hp1).mono ?_
  · refine NodesRd.more (B := w1.heap.size) ?_ (by first | with_reducible exact Nat.le_refl _ | (simp; done) | omega | (simp; omega))
    exact (HL.out.below B1.out (Nat.le_refl _)).more B1.out.size
  · refine RdL.more (B := w1.heap.size) ?_ (by first | with_reducible exact Nat.le_refl _ | (simp; done) | omega | (simp; omega))
    exact (HP.out.below B1.out (Nat.le_refl _)).more B1.out.size
  rintro e w2 ⟨At, ct, Pt, dt, midt, rfl, hm1t, hm2t, ho, hq, hb⟩
  have hs2 := hb.size
  (try simp only [World.size_alloc, World.size_drew, World.size_setCell] at hs2)
  have C2 := Lib.hid ((Chg.refl w.heap.size w.heap.size w1).below_trans hb)
  have ya2 : ∀ o, w2.cell? ⟨w.heap.size, o, none⟩ = _ := fun o => (C2.out.cell (by omega) (by omega)).trans (ya1 o)
  clear ya1
  have pa2 : w.heap.size < w2.heap.size := by omega
  have B2 : Hid (Below w.heap.size w w2) := B1.out.trans (C2.out.below (by omega) (by omega))
  clear hb
  have Ot2 := Lib.hid (ho.wide (lo' := w1.heap.size) (by first | with_reducible exact Nat.le_refl _ | (simp; done) | omega | (simp; omega)) (Nat.le_refl _))
  have Qt2 := Lib.hid hq
  clear ho hq
  (try simp only [World.size_alloc] at hm1t)
  go_wp2_with fail
  refine (sDecisions_any At _ ct Pt _ dt ln lp _ ?_ ?_).mono ?_
  · refine NodesRd.more (B := midt) ?_ (by first | with_reducible exact Nat.le_refl _ | (simp; done) | omega | (simp; omega))
    exact Ot2.out.rd
  · refine RdL.more (B := w2.heap.size) ?_ (by first | with_reducible exact Nat.le_refl _ | (simp; done) | omega | (simp; omega))
    exact Qt2.out.rd msgC_len
  rw [← HD.out]
  rintro e w3 ⟨Ap, cp, rfl, ho, hb⟩
  have hs3 := hb.size
  (try simp only [World.size_alloc, World.size_drew, World.size_setCell] at hs3)
  have C3 := Lib.hid ((Chg.refl w.heap.size w.heap.size w2).below_trans hb)
  have ya3 : ∀ o, w3.cell? ⟨w.heap.size, o, none⟩ = _ := fun o => (C3.out.cell (by omega) (by omega)).trans (ya2 o)
  clear ya2
  have pa3 : w.heap.size < w3.heap.size := by omega
  have B3 : Hid (Below w.heap.size w w3) := B2.out.trans (C3.out.below (by omega) (by omega))
  have Ot3 := Lib.hid (Ot2.out.chg C3.out (by omega))
  clear Ot2
  have Qt3 := Lib.hid (Qt2.out.chg C3.out (by omega))
  clear Qt2
  clear hb
  have Op3 := Lib.hid (ho.wide (lo' := w2.heap.size) (by first | with_reducible exact Nat.le_refl _ | (simp; done) | omega | (simp; omega)) (Nat.le_refl _))
  clear ho
  clear Ot3 Qt3
  go_wp2_with fail
  refine (toNet2_any A c P d ln lp _ ?_ ?_ hn1 hm1.out hp1).mono ?_
  · refine NodesRd.more (B := w3.heap.size) ?_ (by first | with_reducible exact Nat.le_refl _ | (simp; done) | omega | (simp; omega))
    exact (HL.out.below B3.out (Nat.le_refl _)).more B3.out.size
  · refine RdL.more (B := w3.heap.size) ?_ (by first | with_reducible exact Nat.le_refl _ | (simp; done) | omega | (simp; omega))
    exact (HP.out.below B3.out (Nat.le_refl _)).more B3.out.size
  rintro e w4 ⟨Ax, cx, Px, dx, midx, rfl, hm1x, hm2x, ho, hq, hb⟩
  have hs4 := hb.size
  (try simp only [World.size_alloc, World.size_drew, World.size_setCell] at hs4)
  have C4 := Lib.hid ((Chg.refl w.heap.size w.heap.size w3).below_trans hb)
  have ya4 : ∀ o, w4.cell? ⟨w.heap.size, o, none⟩ = _ := fun o => (C4.out.cell (by omega) (by omega)).trans (ya3 o)
  clear ya3
  have pa4 : w.heap.size < w4.heap.size := by omega
  have B4 : Hid (Below w.heap.size w w4) := B3.out.trans (C4.out.below (by omega) (by omega))
  have Op4 := Lib.hid (Op3.out.chg C4.out (by omega))
  clear Op3
  clear hb
  have Ox4 := Lib.hid (ho.wide (lo' := w3.heap.size) (by first | with_reducible exact Nat.le_refl _ | (simp; done) | omega | (simp; omega)) (Nat.le_refl _))
  have Qx4 := Lib.hid hq
  clear ho hq
  (try simp only [World.size_alloc] at hm1x)
  go_wp2_with fail
  refine (Decisions_any Ax _ cx Px _ dx ln lp _ ?_ ?_).mono ?_
  · refine NodesRd.more (B := midx) ?_ (by first | with_reducible exact Nat.le_refl _ | (simp; done) | omega | (simp; omega))
    refine NodesRd.alloc ?_ (by first | with_reducible exact Nat.le_refl _ | (simp; done) | omega | (simp; omega)) _
    exact Ox4.out.rd
  · refine RdL.more (B := w4.heap.size) ?_ (by first | with_reducible exact Nat.le_refl _ | (simp; done) | omega | (simp; omega))
    refine RdL.alloc ?_ (by first | with_reducible exact Nat.le_refl _ | (simp; done) | omega | (simp; omega)) _
    exact Qx4.out.rd msgC_len
  rw [← HD.out]
  rintro e w5 ⟨Ag, cg, rfl, ho, hb⟩
  have hs5 := hb.size
  (try simp only [World.size_alloc, World.size_drew, World.size_setCell] at hs5)
  have C5 := Lib.hid (((Chg.refl w.heap.size w.heap.size w4).alloc _).below_trans hb)
  have ya5 : ∀ o, w5.cell? ⟨w.heap.size, o, none⟩ = _ := fun o => (C5.out.cell (by omega) (by omega)).trans (ya4 o)
  have yx5 : ∀ o, w5.cell? ⟨w4.heap.size, o, none⟩ = _ := fun o => hb.cell (p := ⟨w4.heap.size, o, none⟩) (by first | with_reducible exact Nat.le_refl _ | (simp; done) | omega | (simp; omega))
  clear ya4
  have pa5 : w.heap.size < w5.heap.size := by omega
  have px5 : w4.heap.size < w5.heap.size := by omega
  have B5 : Hid (Below w.heap.size w w5) := B4.out.trans (C5.out.below (by omega) (by omega))
  have Op5 := Lib.hid (Op4.out.chg C5.out (by omega))
  clear Op4
  have Ox5 := Lib.hid (Ox4.out.chg C5.out (by omega))
  clear Ox4
  have Qx5 := Lib.hid (Qx4.out.chg C5.out (by omega))
  clear Qx4
  clear hb
  have Og5 := Lib.hid (ho.wide (lo' := w4.heap.size + 1) (by first | with_reducible exact Nat.le_refl _ | (simp; done) | omega | (simp; omega)) (Nat.le_refl _))
  clear ho
  go_wp2_with fail
  refine (eqIntS_same Ag _ cg Ap cp D _ ?_ ?_).mono ?_
  · refine RdL.more (B := w5.heap.size) ?_ (by first | with_reducible exact Nat.le_refl _ | (simp; done) | omega | (simp; omega))
    exact Og5.out.rd intC_len
  · refine RdL.more (B := w3.heap.size) ?_ (by first | with_reducible exact Nat.le_refl _ | (simp; done) | omega | (simp; omega))
    exact Op5.out.rd intC_len
  rintro e w6 ⟨rfl, hb⟩
  have hs6 := hb.size
  (try simp only [World.size_alloc, World.size_drew, World.size_setCell] at hs6)
  have C6 := Lib.hid ((Chg.refl w.heap.size w.heap.size w5).below_trans hb)
  have ya6 : ∀ o, w6.cell? ⟨w.heap.size, o, none⟩ = _ := fun o => (C6.out.cell (by omega) (by omega)).trans (ya5 o)
  have yx6 : ∀ o, w6.cell? ⟨w4.heap.size, o, none⟩ = _ := fun o => (C6.out.cell (by omega) (by omega)).trans (yx5 o)
  clear ya5 yx5
  have pa6 : w.heap.size < w6.heap.size := by omega
  have px6 : w4.heap.size < w6.heap.size := by omega
  have B6 : Hid (Below w.heap.size w w6) := B5.out.trans (C6.out.below (by omega) (by omega))
  have Op6 := Lib.hid (Op5.out.chg C6.out (by omega))
  clear Op5
  have Ox6 := Lib.hid (Ox5.out.chg C6.out (by omega))
  clear Ox5
  have Qx6 := Lib.hid (Qx5.out.chg C6.out (by omega))
  clear Qx5
  have Og6 := Lib.hid (Og5.out.chg C6.out (by omega))
  clear Og5
  clear hb
  go_upto_region 10 with fail
  go_cut [31] (fun sx wx => sx = .bool false ∧ Below w6.heap.size w6 wx)
  case first =>
    go_region_with (first
      | (go_at_call 30; (refine (toNet_any A c P d ln lp _ (by exact (((HL.out.below B6.out (Nat.le_refl _)).more B6.out.size))) (by exact (((HP.out.below B6.out (Nat.le_refl _)).more B6.out.size))) hn1 hm1.out hp1).mono ?_); rintro e wr ⟨A6, c6, P6, d6, rfl, ho, hq, hb6⟩; have hb6 : Below w6.heap.size w6 wr := ⟨hb6.os, hb6.tape, hb6.output, hb6.size, hb6.block⟩; have R6 := Lib.hid ho.rd; have S6 := Lib.hid (hq.rd msgC_len); have R7 := Lib.hid (Ox6.out.rd.below hb6 (by show midx ≤ w6.heap.size; omega)); have S7 := Lib.hid ((Qx6.out.rd msgC_len).below hb6 (by show w4.heap.size ≤ w6.heap.size; omega)); clear ho hq; have z6 : ∀ o, wr.cell? ⟨w4.heap.size, o, none⟩ = _ := (fun o => (hb6.cell (p := ⟨w4.heap.size, o, none⟩) (by show w4.heap.size < w6.heap.size; omega)).trans (yx6 o)); have G6 := Lib.hid hb6; clear hb6)
      | (go_at_call 25; (refine (eqNet_same Ax _ cx Px _ dx A6 c6 P6 d6 ln lp _ (by exact (R7.out.more (by have h6 : w6.heap.size ≤ wr.heap.size := G6.out.size; omega))) (by exact (S7.out.more (by have h6 : w6.heap.size ≤ wr.heap.size := G6.out.size; omega))) (by exact R6.out) (by exact S6.out)).mono ?_); rintro e ws ⟨rfl, hb7⟩; have G7 := Lib.hid hb7; clear hb7))
    all_goals
      go_wp2_with fail
      go_meet
      exact ⟨rfl, G6.out.trans (G7.out.mono G6.out.size)⟩
  case rest =>
  obtain ⟨rfl, hb⟩ := hcut
  have hs7 := hb.size
  (try simp only [World.size_alloc, World.size_drew, World.size_setCell] at hs7)
  have C7 := Lib.hid ((Chg.refl w.heap.size w.heap.size w6).below_trans hb)
  have ya7 : ∀ o, wc.cell? ⟨w.heap.size, o, none⟩ = _ := fun o => (C7.out.cell (by omega) (by omega)).trans (ya6 o)
  have yx7 : ∀ o, wc.cell? ⟨w4.heap.size, o, none⟩ = _ := fun o => (C7.out.cell (by omega) (by omega)).trans (yx6 o)
  clear ya6 yx6
  have pa7 : w.heap.size < wc.heap.size := by omega
  have px7 : w4.heap.size < wc.heap.size := by omega
  have B7 : Hid (Below w.heap.size w wc) := B6.out.trans (C7.out.below (by omega) (by omega))
  have Op7 := Lib.hid (Op6.out.chg C7.out (by omega))
  clear Op6
  have Ox7 := Lib.hid (Ox6.out.chg C7.out (by omega))
  clear Ox6
  have Qx7 := Lib.hid (Qx6.out.chg C7.out (by omega))
  clear Qx6
  have Og7 := Lib.hid (Og6.out.chg C7.out (by omega))
  clear Og6
  clear hb
  obtain ⟨w7, hwc⟩ : ∃ q, q = wc := ⟨_, rfl⟩
  subst hwc
  go_wp2_with fail
  refine (markNet_any Ax _ cx ln Px _ dx lp w3.heap.size midx w4.heap.size 1 _ Ox7.out Qx7.out (by omega) (by omega) (by omega) (by decide) hn1 hszn (by omega)).mono ?_
  rintro e w8 ⟨⟨r2, rfl⟩, hg⟩
  have hs8 := hg.size
  (try simp only [World.size_alloc, World.size_drew, World.size_setCell] at hs8)
  have C8 := Lib.hid ((Chg.refl w3.heap.size w4.heap.size w7).trans hg)
  have ya8 : ∀ o, w8.cell? ⟨w.heap.size, o, none⟩ = _ := fun o => (C8.out.cell (by omega) (by omega)).trans (ya7 o)
  have yx8 : ∀ o, w8.cell? ⟨w4.heap.size, o, none⟩ = _ := fun o => (C8.out.cell (by omega) (by omega)).trans (yx7 o)
  clear ya7 yx7
  have pa8 : w.heap.size < w8.heap.size := by omega
  have px8 : w4.heap.size < w8.heap.size := by omega
  have B8 : Hid (Below w.heap.size w w8) := B7.out.trans (C8.out.below (by omega) (by omega))
  have Op8 := Lib.hid (Op7.out.chg C8.out (by omega))
  clear Op7
  have Og8 := Lib.hid (Og7.out.chg C8.out (by omega))
  clear Og7
  clear hg
  have hr2 : ¬ (r2 : Int) < 0 := by omega
  go_wp2_with fail
  refine (eqIntS_same Ag _ cg Ap cp D _ ?_ ?_).mono ?_
  · refine RdL.more (B := w5.heap.size) ?_ (by first | with_reducible exact Nat.le_refl _ | (simp; done) | omega | (simp; omega))
    exact Og8.out.rd intC_len
  · refine RdL.more (B := w3.heap.size) ?_ (by first | with_reducible exact Nat.le_refl _ | (simp; done) | omega | (simp; omega))
    exact Op8.out.rd intC_len
  rintro e w9 ⟨rfl, hb⟩
  have hs9 := hb.size
  (try simp only [World.size_alloc, World.size_drew, World.size_setCell] at hs9)
  have C9 := Lib.hid ((Chg.refl w.heap.size w.heap.size w8).below_trans hb)
  have ya9 : ∀ o, w9.cell? ⟨w.heap.size, o, none⟩ = _ := fun o => (C9.out.cell (by omega) (by omega)).trans (ya8 o)
  have yx9 : ∀ o, w9.cell? ⟨w4.heap.size, o, none⟩ = _ := fun o => (C9.out.cell (by omega) (by omega)).trans (yx8 o)
  clear ya8 yx8
  have pa9 : w.heap.size < w9.heap.size := by omega
  have px9 : w4.heap.size < w9.heap.size := by omega
  have B9 : Hid (Below w.heap.size w w9) := B8.out.trans (C9.out.below (by omega) (by omega))
  have Op9 := Lib.hid (Op8.out.chg C9.out (by omega))
  clear Op8
  have Og9 := Lib.hid (Og8.out.chg C9.out (by omega))
  clear Og8
  clear hb
  go_wp2_with fail
  refine (markIntS_any 3 Ag _ cg D (w4.heap.size + 1) w5.heap.size 1 _ Og9.out (by decide) (by omega) (by decide)).mono ?_
  rintro e w10 ⟨rfl, ho, hg⟩
  have hs10 := hg.size
  (try simp only [World.size_alloc, World.size_drew, World.size_setCell] at hs10)
  have C10 := Lib.hid ((Chg.refl (w4.heap.size + 1) w5.heap.size w9).trans hg)
  have ya10 : ∀ o, w10.cell? ⟨w.heap.size, o, none⟩ = _ := fun o => (C10.out.cell (by omega) (by omega)).trans (ya9 o)
  have yx10 : ∀ o, w10.cell? ⟨w4.heap.size, o, none⟩ = _ := fun o => (C10.out.cell (by omega) (by omega)).trans (yx9 o)
  clear ya9 yx9
  have pa10 : w.heap.size < w10.heap.size := by omega
  have px10 : w4.heap.size < w10.heap.size := by omega
  have B10 : Hid (Below w.heap.size w w10) := B9.out.trans (C10.out.below (by omega) (by omega))
  have Op10 := Lib.hid (Op9.out.chg C10.out (by omega))
  clear Op9
  clear hg
  have Og10 := Lib.hid ho
  clear ho
  have hq1 : ¬ ((1 + D.length : Nat) : Int) < 0 := by omega
  go_wp2_with fail
  refine (heldIntS_any Ag _ cg 1 _ ?_ (by decide) (by omega) (by decide)).mono ?_
  · refine RdL.more (B := w5.heap.size) ?_ (by first | with_reducible exact Nat.le_refl _ | (simp; done) | omega | (simp; omega))
    exact Og10.out.rd intC_len
  rintro e w11 ⟨rfl, hb⟩
  have hs11 := hb.size
  (try simp only [World.size_alloc, World.size_drew, World.size_setCell] at hs11)
  have C11 := Lib.hid ((Chg.refl w.heap.size w.heap.size w10).below_trans hb)
  have ya11 : ∀ o, w11.cell? ⟨w.heap.size, o, none⟩ = _ := fun o => (C11.out.cell (by omega) (by omega)).trans (ya10 o)
  have yx11 : ∀ o, w11.cell? ⟨w4.heap.size, o, none⟩ = _ := fun o => (C11.out.cell (by omega) (by omega)).trans (yx10 o)
  clear ya10 yx10
  have pa11 : w.heap.size < w11.heap.size := by omega
  have px11 : w4.heap.size < w11.heap.size := by omega
  have B11 : Hid (Below w.heap.size w w11) := B10.out.trans (C11.out.below (by omega) (by omega))
  have Op11 := Lib.hid (Op10.out.chg C11.out (by omega))
  clear Op10
  have Og11 := Lib.hid (Og10.out.chg C11.out (by omega))
  clear Og10
  clear hb
  go_wp2_with fail
  refine (toNet2_any A c P d ln lp _ ?_ ?_ hn1 hm1.out hp1).mono ?_
  · refine NodesRd.more (B := w11.heap.size) ?_ (by first | with_reducible exact Nat.le_refl _ | (simp; done) | omega | (simp; omega))
    exact (HL.out.below B11.out (Nat.le_refl _)).more B11.out.size
  · refine RdL.more (B := w11.heap.size) ?_ (by first | with_reducible exact Nat.le_refl _ | (simp; done) | omega | (simp; omega))
    exact (HP.out.below B11.out (Nat.le_refl _)).more B11.out.size
  rintro e w12 ⟨Au, cu, Pu, du, midu, rfl, hm1u, hm2u, ho, hq, hb⟩
  have hs12 := hb.size
  (try simp only [World.size_alloc, World.size_drew, World.size_setCell] at hs12)
  have C12 := Lib.hid ((Chg.refl w.heap.size w.heap.size w11).below_trans hb)
  have ya12 : ∀ o, w12.cell? ⟨w.heap.size, o, none⟩ = _ := fun o => (C12.out.cell (by omega) (by omega)).trans (ya11 o)
  have yx12 : ∀ o, w12.cell? ⟨w4.heap.size, o, none⟩ = _ := fun o => (C12.out.cell (by omega) (by omega)).trans (yx11 o)
  clear ya11 yx11
  have pa12 : w.heap.size < w12.heap.size := by omega
  have px12 : w4.heap.size < w12.heap.size := by omega
  have B12 : Hid (Below w.heap.size w w12) := B11.out.trans (C12.out.below (by omega) (by omega))
  have Op12 := Lib.hid (Op11.out.chg C12.out (by omega))
  clear Op11
  have Og12 := Lib.hid (Og11.out.chg C12.out (by omega))
  clear Og11
  clear hb
  have Ou12 := Lib.hid (ho.wide (lo' := w11.heap.size) (by first | with_reducible exact Nat.le_refl _ | (simp; done) | omega | (simp; omega)) (Nat.le_refl _))
  have Qu12 := Lib.hid hq
  clear ho hq
  (try simp only [World.size_alloc] at hm1u)
  go_wp2_with fail
  refine (Decisions_any Au _ cu Pu _ du ln lp _ ?_ ?_).mono ?_
  · refine NodesRd.more (B := midu) ?_ (by first | with_reducible exact Nat.le_refl _ | (simp; done) | omega | (simp; omega))
    exact Ou12.out.rd
  · refine RdL.more (B := w12.heap.size) ?_ (by first | with_reducible exact Nat.le_refl _ | (simp; done) | omega | (simp; omega))
    exact Qu12.out.rd msgC_len
  rw [← HD.out]
  rintro e w13 ⟨Ah, ch, rfl, ho, hb⟩
  have hs13 := hb.size
  (try simp only [World.size_alloc, World.size_drew, World.size_setCell] at hs13)
  have C13 := Lib.hid ((Chg.refl w.heap.size w.heap.size w12).below_trans hb)
  have ya13 : ∀ o, w13.cell? ⟨w.heap.size, o, none⟩ = _ := fun o => (C13.out.cell (by omega) (by omega)).trans (ya12 o)
  have yx13 : ∀ o, w13.cell? ⟨w4.heap.size, o, none⟩ = _ := fun o => (C13.out.cell (by omega) (by omega)).trans (yx12 o)
  clear ya12 yx12
  have pa13 : w.heap.size < w13.heap.size := by omega
  have px13 : w4.heap.size < w13.heap.size := by omega
  have B13 : Hid (Below w.heap.size w w13) := B12.out.trans (C13.out.below (by omega) (by omega))
  have Op13 := Lib.hid (Op12.out.chg C13.out (by omega))
  clear Op12
  have Og13 := Lib.hid (Og12.out.chg C13.out (by omega))
  clear Og12
  have Ou13 := Lib.hid (Ou12.out.chg C13.out (by omega))
  clear Ou12
  have Qu13 := Lib.hid (Qu12.out.chg C13.out (by omega))
  clear Qu12
  clear hb
  have Oh13 := Lib.hid (ho.wide (lo' := w12.heap.size) (by first | with_reducible exact Nat.le_refl _ | (simp; done) | omega | (simp; omega)) (Nat.le_refl _))
  clear ho
  go_wp2_with fail
  refine (eqIntS_same Ah _ ch Ap cp D _ ?_ ?_).mono ?_
  · refine RdL.more (B := w13.heap.size) ?_ (by first | with_reducible exact Nat.le_refl _ | (simp; done) | omega | (simp; omega))
    exact Oh13.out.rd intC_len
  · refine RdL.more (B := w3.heap.size) ?_ (by first | with_reducible exact Nat.le_refl _ | (simp; done) | omega | (simp; omega))
    exact Op13.out.rd intC_len
  rintro e w14 ⟨rfl, hb⟩
  have hs14 := hb.size
  (try simp only [World.size_alloc, World.size_drew, World.size_setCell] at hs14)
  have C14 := Lib.hid ((Chg.refl w.heap.size w.heap.size w13).below_trans hb)
  have ya14 : ∀ o, w14.cell? ⟨w.heap.size, o, none⟩ = _ := fun o => (C14.out.cell (by omega) (by omega)).trans (ya13 o)
  have yx14 : ∀ o, w14.cell? ⟨w4.heap.size, o, none⟩ = _ := fun o => (C14.out.cell (by omega) (by omega)).trans (yx13 o)
  clear ya13 yx13
  have pa14 : w.heap.size < w14.heap.size := by omega
  have px14 : w4.heap.size < w14.heap.size := by omega
  have B14 : Hid (Below w.heap.size w w14) := B13.out.trans (C14.out.below (by omega) (by omega))
  have Op14 := Lib.hid (Op13.out.chg C14.out (by omega))
  clear Op13
  have Og14 := Lib.hid (Og13.out.chg C14.out (by omega))
  clear Og13
  have Ou14 := Lib.hid (Ou13.out.chg C14.out (by omega))
  clear Ou13
  have Qu14 := Lib.hid (Qu13.out.chg C14.out (by omega))
  clear Qu13
  have Oh14 := Lib.hid (Oh13.out.chg C14.out (by omega))
  clear Oh13
  clear hb
  go_wp2_with fail
  refine (heldIntS_any Ag _ cg 1 _ ?_ (by decide) (by omega) (by decide)).mono ?_
  · refine RdL.more (B := w5.heap.size) ?_ (by first | with_reducible exact Nat.le_refl _ | (simp; done) | omega | (simp; omega))
    exact Og14.out.rd intC_len
  rintro e w15 ⟨rfl, hb⟩
  have hs15 := hb.size
  (try simp only [World.size_alloc, World.size_drew, World.size_setCell] at hs15)
  have C15 := Lib.hid ((Chg.refl w.heap.size w.heap.size w14).below_trans hb)
  have ya15 : ∀ o, w15.cell? ⟨w.heap.size, o, none⟩ = _ := fun o => (C15.out.cell (by omega) (by omega)).trans (ya14 o)
  have yx15 : ∀ o, w15.cell? ⟨w4.heap.size, o, none⟩ = _ := fun o => (C15.out.cell (by omega) (by omega)).trans (yx14 o)
  clear ya14 yx14
  have pa15 : w.heap.size < w15.heap.size := by omega
  have px15 : w4.heap.size < w15.heap.size := by omega
  have B15 : Hid (Below w.heap.size w w15) := B14.out.trans (C15.out.below (by omega) (by omega))
  have Op15 := Lib.hid (Op14.out.chg C15.out (by omega))
  clear Op14
  have Og15 := Lib.hid (Og14.out.chg C15.out (by omega))
  clear Og14
  have Ou15 := Lib.hid (Ou14.out.chg C15.out (by omega))
  clear Ou14
  have Qu15 := Lib.hid (Qu14.out.chg C15.out (by omega))
  clear Qu14
  have Oh15 := Lib.hid (Oh14.out.chg C15.out (by omega))
  clear Oh14
  clear hb
  go_wp2_with fail
  go_ret
  exact ⟨rfl, B15.out⟩

set_option maxRecDepth 100000 in
theorem ExactDecisions_lifted (os : Os) (started : os.Started) (H : Type) (enc : TypeId × Value → H) :
    ReturnsInHanded {} Try.checked os 10 .any (Rows.fnExactDecisionsSpec.pre6 enc Try.prog Try.f10 Rows.fnExactDecisionsRow.domain false) (Rows.fnExactDecisionsSpec.post enc Try.prog Try.f10 false true false false) := by
  refine returnsInHanded_of_change (C := Try.checked) own started (by kernel_rfl) Try.func10
    (ChangeSpec.witness6 (enc := enc) (C := Try.checked) false ⟨#[], #[.agg #[.slice none 0 0, .slice none 0 0]], []⟩ 8 (by kernel_rfl) (by kernel_rfl) (by kernel_rfl) (by kernel_rfl)) ?_
  intro W base args ds gs before hval0 hW hcnd _
  have hval : ∀ (j : Nat) t v, Try.f10.params[j]? = some t → args[j]? = some v → Value.okWide Try.prog W .any base t v := hval0
  have hW' := hW
  obtain ⟨p, q, hA0, hV, rfl, hfz, hnd⟩ := hW
  have hA : DataW.TrodAll enc Try.prog W 0 (fun _ => true) true Try.f10.params.toList args.toList ds p := hA0
  rw [Try.params10] at hA hval
  obtain ⟨v0, vs0, d0, ds0, p0, q0, hargs, rfl, rfl, h0, r0⟩ := trodAll_cons hA
  obtain ⟨rfl, rfl, rfl⟩ := trodAll_nil r0
  obtain rfl : args = #[v0] := by cases args; simp_all
  obtain ⟨A, c, P, d, ln, lp, rfl, hl, hp⟩ := open_net (hval 0 48 v0 rfl rfl) h0
  refine (ExactDecisions_walk A c P d ln lp W hl hp).mono fun e W' ⟨he, hb⟩ => ?_
  subst he
  refine ⟨_, rfl, law_post (f := Try.f10) (tb := 4) rfl Try.underlying4 rfl (by kernel_rfl) (fun gs hg => by subst hg; rfl) (fun gs hg => by subst hg; rfl) (fun gs hg => by subst hg; rfl) hW' hb⟩

theorem ExactDecisions_holds : Rows.FnExactDecisionsSaid :=
  OpenClaim.holds_of_wide 10 Try.f10 rfl rfl rfl rfl rfl rfl rfl ⟨rfl, rfl, rfl, rfl, rfl⟩ rfl rfl rfl rfl rfl (by kernel_rfl) Try.func10 (by kernel_rfl)
    (of_decide_eq_true (by kernel_rfl)) (by unfold Func.isWrapper; first | (rw [if_pos (by decide +kernel)]; kernel_rfl) | (rw [if_neg (by decide +kernel)]; exact ⟨rfl, rfl⟩))
    (fun os started H enc _ => ExactDecisions_lifted os started H enc)
#print axioms ExactDecisions_holds
end Go.Proofs.Ytbadfamoiccppaa
