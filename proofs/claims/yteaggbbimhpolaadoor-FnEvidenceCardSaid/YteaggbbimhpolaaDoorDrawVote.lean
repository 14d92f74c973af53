/- Draws of votes: l8Vote. (written by wip/drawvote.py) -/
import Derived.Test.YteaggbbimhpolaaDoorShortS
import Derived.Test.YteaggbbimhpolaaDoorB
import Derived.Test.YteaggbbimhpolaaDoorFamVote
import Derived.Deep.RegionWith
import Derived.Deep.DeepCutAuto
import Derived.WalkKit
import Derived.WalkSpells
import Derived.WalkLawsBesides
import Derived.Lib.Hide
namespace Go.Proofs.YteaggbbimhpolaaDoor
open Go.RowKit

def IsVote (v : Value) : Prop := ∃ (h r st x : Int) (id : ByteArray), v = .agg #[.int .i64 h, .int .i64 r, .int .i64 st, .string id, .int .i64 x] ∧ id.size ≤ 9
/-- the vote's box and the result's, beside the cursor -/
def VoteAt (w0 : World) (cb : Nat) (A : Option Addr) (n c R T : Nat) (wx : World) : Prop :=
  ∃ (h r st x : Int) (id : ByteArray), id.size ≤ 9 ∧ Blk wx T 30 #[.int .i64 h, .int .i64 r, .int .i64 st, .string id, .int .i64 x] ∧ Blk wx R 30 #[.int .i64 0, .int .i64 0, .int .i64 0, .string ⟨#[]⟩, .int .i64 0] ∧ Cur wx cb A n c ∧ Chg cb (cb + 1) w0 wx
section
variable {w0 wx wy : World} {cb n c R T : Nat} {A : Option Addr}
theorem VoteAt.set (h : VoteAt w0 cb A n c R T wx) (hT : T ≠ R) (hc : cb < T) (h0 : w0.heap.size ≤ T) (j : Nat) (hj : j = 0 ∨ j = 1 ∨ j = 2 ∨ j = 4) (y : Int) : VoteAt w0 cb A n c R T (wx.setCell ⟨T, j, none⟩ (.int .i64 y)) := by
  obtain ⟨h, r, st, x, id, hid, hT', hR, hU, hC⟩ := h
  have hch : Chg T (T + 1) wx (wx.setCell ⟨T, j, none⟩ (.int .i64 y)) := (Chg.refl _ _ _).setCell (by simp) (by simp) _
  have hb := hT'.set_ j (.int .i64 y)
  have hR2 := (hch.block R hR.lt (by omega)).trans hR
  have hU2 := hU.chg hch hc
  have hC2 := hC.trans_topT h0 hch
  rcases hj with rfl | rfl | rfl | rfl
  · exact ⟨y, r, st, x, id, hid, by simpa using hb, hR2, hU2, hC2⟩
  · exact ⟨h, y, st, x, id, hid, by simpa using hb, hR2, hU2, hC2⟩
  · exact ⟨h, r, y, x, id, hid, by simpa using hb, hR2, hU2, hC2⟩
  · exact ⟨h, r, st, y, id, hid, by simpa using hb, hR2, hU2, hC2⟩
theorem VoteAt.setId (h : VoteAt w0 cb A n c R T wx) (hT : T ≠ R) (hc : cb < T) (h0 : w0.heap.size ≤ T) (s : ByteArray) (hs : s.size ≤ 9) : VoteAt w0 cb A n c R T (wx.setCell ⟨T, 3, none⟩ (.string s)) := by
  obtain ⟨h, r, st, x, id, hid, hT', hR, hU, hC⟩ := h
  have hch : Chg T (T + 1) wx (wx.setCell ⟨T, 3, none⟩ (.string s)) := (Chg.refl _ _ _).setCell (by simp) (by simp) _
  have hb := hT'.set_ 3 (.string s)
  exact ⟨h, r, st, x, s, hs, by simpa using hb, (hch.block R hR.lt (by omega)).trans hR, hU.chg hch hc, hC.trans_topT h0 hch⟩
theorem VoteAt.call (h : VoteAt w0 cb A n c R T wx) (hg : Chg cb (cb + 1) wx wy) (hu : Cur wy cb A n c) (hR : cb < R) (hT : cb < T) : VoteAt w0 cb A n c R T wy := by
  obtain ⟨h, r, st, x, id, hid, hT', hR', hU, hC⟩ := h
  exact ⟨h, r, st, x, id, hid, (hg.block T hT'.lt (.inr (by omega))).trans hT', (hg.block R hR'.lt (.inr (by omega))).trans hR', hu, hC.trans hg⟩
theorem VoteAt.below (h : VoteAt w0 cb A n c R T wx) (hb : Below wx.heap.size wx wy) : VoteAt w0 cb A n c R T wy := by
  obtain ⟨h, r, st, x, id, hid, hT', hR', hU, hC⟩ := h
  exact ⟨h, r, st, x, id, hid, hT'.below hb hT'.lt, hR'.below hb hR'.lt, hU.below hb hU.lt (Nat.le_refl _), hC.below_trans hb⟩
theorem VoteAt.alloc (h : VoteAt w0 cb A n c R T wx) (o : Obj) : VoteAt w0 cb A n c R T (wx.alloc o) := h.below ((Below.refl _ _).alloc (Nat.le_refl _) o)
theorem VoteAt.cur (h : VoteAt w0 cb A n c R T wx) : Cur wx cb A n c := by
  obtain ⟨h, r, st, x, id, hid, hT', hR, hU, hC⟩ := h
  exact hU
theorem VoteAt.open (h : VoteAt w0 cb A n c R T wx) : ∃ (h r st x : Int) (id : ByteArray), (∀ i, wx.cell? ⟨T, i, none⟩ = (#[.int .i64 h, .int .i64 r, .int .i64 st, .string id, .int .i64 x] : Array Value)[i]?) ∧ (∀ i, wx.frozen? ⟨T, i, none⟩ = false) ∧ T < wx.heap.size := by
  obtain ⟨h, r, st, x, id, hid, hT', hR, hU, hC⟩ := h
  exact ⟨h, r, st, x, id, hT'.cell, hT'.frozen, hT'.lt⟩
end

set_option maxRecDepth 100000 in
set_option maxHeartbeats 2000000 in
theorem l8Vote_any (cb : Nat) (A : Option Addr) (n c : Nat) (w : World) (hc : Cur w cb A n c) :
    Calls Tryd.prog 80 #[.pointer (some ⟨cb, 0, none⟩)] w (Drew cb A n c IsVote w) := by
  have HC := Lib.hid hc
  have hlt := hc.lt
  clear hc
  go_enter Tryd.func80, Tryd.ntmps80
  go_wp2_with fail
  refine (l1Below_any cb A n c 3 _ (HC.out.alloc _) (by omega)).mono ?_
  rintro e w1 ⟨v, rfl, ⟨x1, rfl, _, _⟩, hg, hu⟩
  have HU1 := Lib.hid hu
  have HR1 : Hid (Blk w1 w.heap.size 30 #[.int .i64 0, .int .i64 0, .int .i64 0, .string ⟨#[]⟩, .int .i64 0]) := (hg.block _ (by simp) (.inr (by omega))).trans (heap_alloc_new w _)
  have C1 := Lib.hid (((Chg.refl cb (cb + 1) w).alloc _).trans hg)
  have hs1 : w.heap.size < w1.heap.size := HR1.out.lt
  clear hg hu
  go_wp2_with fail
  refine (l1Below_any cb A n c 3 _ (HU1.out) (by omega)).mono ?_
  rintro e w2 ⟨v, rfl, ⟨x2, rfl, _, _⟩, hg, hu⟩
  have HU2 := Lib.hid hu
  have HR2 : Hid (Blk w2 w.heap.size 30 #[.int .i64 0, .int .i64 0, .int .i64 0, .string ⟨#[]⟩, .int .i64 0]) := (hg.block _ HR1.out.lt (.inr (by omega))).trans HR1.out
  have C2 := Lib.hid (C1.out.trans hg)
  have hs2 : w.heap.size < w2.heap.size := HR2.out.lt
  clear hg hu
  go_wp2_with fail
  refine (l1Below_any cb A n c 2 _ (HU2.out) (by omega)).mono ?_
  rintro e w3 ⟨v, rfl, ⟨x3, rfl, _, _⟩, hg, hu⟩
  have HU3 := Lib.hid hu
  have HR3 : Hid (Blk w3 w.heap.size 30 #[.int .i64 0, .int .i64 0, .int .i64 0, .string ⟨#[]⟩, .int .i64 0]) := (hg.block _ HR2.out.lt (.inr (by omega))).trans HR2.out
  have C3 := Lib.hid (C2.out.trans hg)
  have hs3 : w.heap.size < w3.heap.size := HR3.out.lt
  clear hg hu
  go_wp2_with fail
  refine (l1Below_any cb A n c 5 _ (HU3.out) (by omega)).mono ?_
  rintro e w4 ⟨v, rfl, ⟨x4, rfl, _, _⟩, hg, hu⟩
  have HU4 := Lib.hid hu
  have HR4 : Hid (Blk w4 w.heap.size 30 #[.int .i64 0, .int .i64 0, .int .i64 0, .string ⟨#[]⟩, .int .i64 0]) := (hg.block _ HR3.out.lt (.inr (by omega))).trans HR3.out
  have C4 := Lib.hid (C3.out.trans hg)
  have hs4 : w.heap.size < w4.heap.size := HR4.out.lt
  clear hg hu
  go_upto_region 2 with fail
  obtain ⟨w5, hw5⟩ : ∃ q, q = w4.alloc (.cells #[.int .i64 (1 + x1), .int .i64 x2, .int .i64 (1 + x3), .string ⟨#[]⟩, .int .i64 (1 + x4)] 30) := ⟨_, rfl⟩
  rw [← hw5]
  have M5 : Hid (VoteAt w cb A n c w.heap.size w4.heap.size w5) := Lib.hid (by
    rw [hw5]
    exact ⟨1 + x1, x2, 1 + x3, 1 + x4, ⟨#[]⟩, by decide, heap_alloc_new w4 _, HR4.out.below ((Below.refl _ _).alloc (Nat.le_refl _) _) hs4, HU4.out.alloc _, C4.out.alloc _⟩)
  clear hw5 HR4 HU4 C4 HR3 HU3 C3 HR2 HU2 C2 HR1 HU1 C1 HC
  have hcT : cb < w4.heap.size := by omega
  go_wp2_with fail
  refine (l1Once_any cb A n c 4 _ M5.out.cur (by omega)).mono ?_
  rintro e w6 ⟨v, rfl, ⟨b, rfl⟩, hg, hu⟩
  have M6 := Lib.hid (M5.out.call hg hu hlt hcT)
  clear hg hu M5
  go_upto_if 18 with fail
  go_cut [] (fun wx => VoteAt w cb A n c w.heap.size w4.heap.size wx)
  case first =>
    cases b
    · go_wp2_with fail
      refine (l1Text_any cb A n c 1 _ M6.out.cur (by decide)).mono ?_
      rintro e w7 ⟨v, rfl, ⟨s, rfl, hs⟩, hg, hu⟩
      have M7 := Lib.hid (M6.out.call hg hu hlt hcT)
      clear hg hu M6
      go_wp2_with fail
      refine (sShort_text s _ (by omega)).mono ?_
      rintro e w8 ⟨v, rfl, ⟨s8, rfl, hs8⟩, hb⟩
      have M8 := Lib.hid (M7.out.below hb)
      clear hb M7
      obtain ⟨h, r, q, p, f, tg, tf, ht7⟩ := M8.out.open
      go_wp2_with fail
      go_meet
      exact M8.out.setId (by omega) hcT (by omega) s8 (by omega)
    · go_wp2_with fail
      go_meet
      exact M6.out
  case rest =>
  have M8 := Lib.hid hcut
  clear hcut M6
  go_wp2_with fail
  refine (l1Once_any cb A n c 10 _ M8.out.cur (by omega)).mono ?_
  rintro e w9 ⟨v, rfl, ⟨b, rfl⟩, hg, hu⟩
  have M9 := Lib.hid (M8.out.call hg hu hlt hcT)
  clear hg hu M8
  go_upto_if 24 with fail
  go_cut [] (fun wx => VoteAt w cb A n c w.heap.size w4.heap.size wx)
  case first =>
    cases b
    · go_wp2_with fail
      go_meet
      exact M9.out
    · go_wp2_with fail
      refine (l1Below_any cb A n c 5 _ M9.out.cur (by omega)).mono ?_
      rintro e w10 ⟨v, rfl, ⟨x, rfl, y0, y1⟩, hg, hu⟩
      simp at y1
      have M10 := Lib.hid (M9.out.call hg hu hlt hcT)
      clear hg hu M9
      rcases (by omega : x = 0 ∨ x = 1 ∨ x = 2 ∨ x = 3 ∨ x = 4) with rfl | rfl | rfl | rfl | rfl
      · go_wp2_with fail
        refine (l1PickInt_any cb A n c w10.heap.size 2 (-100) 1000010 _ (M10.out.cur.alloc _) (by decide) (by decide) M10.out.cur.lt (by simp) ?_).mono ?_
        · intro j hj
          rcases (by omega : j = 0 ∨ j = 1) with rfl | rfl
          · exact ⟨0, by simp, by decide, by decide⟩
          · exact ⟨1000001, by simp, by decide, by decide⟩
        rintro e w11 ⟨v, rfl, ⟨z, rfl, _, _⟩, hg, hu⟩
        have M11 := Lib.hid ((M10.out.alloc _).call hg hu hlt hcT)
        clear hg hu M10
        obtain ⟨h, r, q, p, f, tg, tf, ht7⟩ := M11.out.open
        go_wp2_with fail
        go_meet
        exact M11.out.set (by omega) hcT (by omega) 0 (by decide) _
      · go_wp2_with fail
        refine (l1PickInt_any cb A n c w10.heap.size 3 (-100) 1000010 _ (M10.out.cur.alloc _) (by decide) (by decide) M10.out.cur.lt (by simp) ?_).mono ?_
        · intro j hj
          rcases (by omega : j = 0 ∨ j = 1 ∨ j = 2) with rfl | rfl | rfl
          · exact ⟨-1, by simp, by decide, by decide⟩
          · exact ⟨1000, by simp, by decide, by decide⟩
          · exact ⟨1001, by simp, by decide, by decide⟩
        rintro e w11 ⟨v, rfl, ⟨z, rfl, _, _⟩, hg, hu⟩
        have M11 := Lib.hid ((M10.out.alloc _).call hg hu hlt hcT)
        clear hg hu M10
        obtain ⟨h, r, q, p, f, tg, tf, ht7⟩ := M11.out.open
        go_wp2_with fail
        go_meet
        exact M11.out.set (by omega) hcT (by omega) 1 (by decide) _
      · go_wp2_with fail
        refine (l1PickInt_any cb A n c w10.heap.size 2 (-100) 1000010 _ (M10.out.cur.alloc _) (by decide) (by decide) M10.out.cur.lt (by simp) ?_).mono ?_
        · intro j hj
          rcases (by omega : j = 0 ∨ j = 1) with rfl | rfl
          · exact ⟨0, by simp, by decide, by decide⟩
          · exact ⟨3, by simp, by decide, by decide⟩
        rintro e w11 ⟨v, rfl, ⟨z, rfl, _, _⟩, hg, hu⟩
        have M11 := Lib.hid ((M10.out.alloc _).call hg hu hlt hcT)
        clear hg hu M10
        obtain ⟨h, r, q, p, f, tg, tf, ht7⟩ := M11.out.open
        go_wp2_with fail
        go_meet
        exact M11.out.set (by omega) hcT (by omega) 2 (by decide) _
      · go_wp2_with fail
        refine (l1Text_any cb A n c 9 _ M10.out.cur (by decide)).mono ?_
        rintro e w11 ⟨v, rfl, ⟨s, rfl, hs⟩, hg, hu⟩
        have M11 := Lib.hid (M10.out.call hg hu hlt hcT)
        clear hg hu M10
        obtain ⟨h, r, q, p, f, tg, tf, ht7⟩ := M11.out.open
        go_wp2_with fail
        go_meet
        exact M11.out.setId (by omega) hcT (by omega) s hs
      · go_wp2_with fail
        refine (l1PickInt_any cb A n c w10.heap.size 3 (-100) 1000010 _ (M10.out.cur.alloc _) (by decide) (by decide) M10.out.cur.lt (by simp) ?_).mono ?_
        · intro j hj
          rcases (by omega : j = 0 ∨ j = 1 ∨ j = 2) with rfl | rfl | rfl
          · exact ⟨0, by simp, by decide, by decide⟩
          · exact ⟨99, by simp, by decide, by decide⟩
          · exact ⟨100, by simp, by decide, by decide⟩
        rintro e w11 ⟨v, rfl, ⟨z, rfl, _, _⟩, hg, hu⟩
        have M11 := Lib.hid ((M10.out.alloc _).call hg hu hlt hcT)
        clear hg hu M10
        obtain ⟨h, r, q, p, f, tg, tf, ht7⟩ := M11.out.open
        go_wp2_with fail
        go_meet
        exact M11.out.set (by omega) hcT (by omega) 4 (by decide) _
  case rest =>
  have M12 := Lib.hid hcut
  clear hcut M9
  obtain ⟨k, r, q, p, id, hid, hT, hR, hU, hC⟩ := M12.out
  have tg := hT.cell
  have rg := hR.cell
  have rf := hR.frozen
  have HU := Lib.hid hU
  have HC := Lib.hid hC
  have ht7 := hT.lt
  clear hT hR hU hC M12
  go_wp2_with fail
  refine bodyPost_ret (v := .agg #[.int .i64 k, .int .i64 r, .int .i64 q, .string id, .int .i64 p]) (by simp [results, Tryd.results80, go_sem, rg]) rfl ⟨_, rfl, ⟨_, _, _, _, _, rfl, hid⟩, ?_, ?_⟩
  · exact HC.out.trans_topT (D := w.heap.size) (hi := w.heap.size + 1) (Nat.le_refl _) (by (repeat (first | with_reducible refine Chg.setCell ?_ (by first | exact Nat.le_refl _ | (simp; done) | (simp; omega)) (by first | (simp; done) | (simp; omega)) _ | with_reducible refine Chg.alloc ?_ _ | with_reducible refine Chg.drew ?_)); (with_reducible exact Chg.refl _ _ _))
  · refine HU.out.chg (lo := w.heap.size) (hi := w.heap.size + 1) ?_ hlt
    (repeat (first | with_reducible refine Chg.setCell ?_ (by first | exact Nat.le_refl _ | (simp; done) | (simp; omega)) (by first | (simp; done) | (simp; omega)) _ | with_reducible refine Chg.alloc ?_ _ | with_reducible refine Chg.drew ?_)); (with_reducible exact Chg.refl _ _ _)
end Go.Proofs.YteaggbbimhpolaaDoor
