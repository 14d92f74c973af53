/- Draws of headers: l7Head. (written by wip/drawhead.py) -/
import Derived.Test.YtjdknaipmboekaaDoorShortS
import Derived.Test.YtjdknaipmboekaaDoorFamHeader
import Derived.Deep.RegionWith
import Derived.Deep.DeepCutAuto
import Derived.WalkKit
import Derived.WalkSpells
import Derived.WalkLawsBesides
import Derived.Lib.Hide
namespace Go.Proofs.YtjdknaipmboekaaDoor
open Go.RowKit

def smallH (p : HeaderD) : Prop := p.last.size ≤ 40 ∧ p.vals.size ≤ 40 ∧ p.next.size ≤ 40 ∧ p.data.size ≤ 40
def IsHead (v : Value) : Prop := ∃ p : HeaderD, v = .agg #[.int .i64 p.h, .int .i64 p.t, .string p.last, .string p.vals, .string p.next, .string p.data] ∧ smallH p
/-- the header's box and the result's, beside the cursor -/
def HeadAt (w0 : World) (cb : Nat) (A : Option Addr) (n c R T : Nat) (wx : World) : Prop :=
  ∃ p : HeaderD, smallH p ∧ Blk wx T 34 #[.int .i64 p.h, .int .i64 p.t, .string p.last, .string p.vals, .string p.next, .string p.data] ∧ Blk wx R 34 #[.int .i64 0, .int .i64 0, .string ⟨#[]⟩, .string ⟨#[]⟩, .string ⟨#[]⟩, .string ⟨#[]⟩] ∧ Cur wx cb A n c ∧ Chg cb (cb + 1) w0 wx
section
variable {w0 wx wy : World} {cb n c R T : Nat} {A : Option Addr}
theorem HeadAt.set0 (h : HeadAt w0 cb A n c R T wx) (hT : T ≠ R) (hc : cb < T) (h0 : w0.heap.size ≤ T) (y : Int) : HeadAt w0 cb A n c R T (wx.setCell ⟨T, 0, none⟩ (.int .i64 y)) := by
  obtain ⟨p, hp, hT', hR, hU, hC⟩ := h
  have hch : Chg T (T + 1) wx (wx.setCell ⟨T, 0, none⟩ (.int .i64 y)) := (Chg.refl _ _ _).setCell (by simp) (by simp) _
  have hb := hT'.set_ 0 (.int .i64 y)
  exact ⟨{ p with h := y }, hp, by simpa using hb, (hch.block R hR.lt (by omega)).trans hR, hU.chg hch hc, hC.trans_topT h0 hch⟩
theorem HeadAt.set1 (h : HeadAt w0 cb A n c R T wx) (hT : T ≠ R) (hc : cb < T) (h0 : w0.heap.size ≤ T) (y : Int) : HeadAt w0 cb A n c R T (wx.setCell ⟨T, 1, none⟩ (.int .i64 y)) := by
  obtain ⟨p, hp, hT', hR, hU, hC⟩ := h
  have hch : Chg T (T + 1) wx (wx.setCell ⟨T, 1, none⟩ (.int .i64 y)) := (Chg.refl _ _ _).setCell (by simp) (by simp) _
  have hb := hT'.set_ 1 (.int .i64 y)
  exact ⟨{ p with t := y }, hp, by simpa using hb, (hch.block R hR.lt (by omega)).trans hR, hU.chg hch hc, hC.trans_topT h0 hch⟩
theorem HeadAt.set2 (h : HeadAt w0 cb A n c R T wx) (hT : T ≠ R) (hc : cb < T) (h0 : w0.heap.size ≤ T) (y : ByteArray) (hy : y.size ≤ 40) : HeadAt w0 cb A n c R T (wx.setCell ⟨T, 2, none⟩ (.string y)) := by
  obtain ⟨p, hp, hT', hR, hU, hC⟩ := h
  have hch : Chg T (T + 1) wx (wx.setCell ⟨T, 2, none⟩ (.string y)) := (Chg.refl _ _ _).setCell (by simp) (by simp) _
  have hb := hT'.set_ 2 (.string y)
  exact ⟨{ p with last := y }, ⟨hy, hp.2.1, hp.2.2.1, hp.2.2.2⟩, by simpa using hb, (hch.block R hR.lt (by omega)).trans hR, hU.chg hch hc, hC.trans_topT h0 hch⟩
theorem HeadAt.set3 (h : HeadAt w0 cb A n c R T wx) (hT : T ≠ R) (hc : cb < T) (h0 : w0.heap.size ≤ T) (y : ByteArray) (hy : y.size ≤ 40) : HeadAt w0 cb A n c R T (wx.setCell ⟨T, 3, none⟩ (.string y)) := by
  obtain ⟨p, hp, hT', hR, hU, hC⟩ := h
  have hch : Chg T (T + 1) wx (wx.setCell ⟨T, 3, none⟩ (.string y)) := (Chg.refl _ _ _).setCell (by simp) (by simp) _
  have hb := hT'.set_ 3 (.string y)
  exact ⟨{ p with vals := y }, ⟨hp.1, hy, hp.2.2.1, hp.2.2.2⟩, by simpa using hb, (hch.block R hR.lt (by omega)).trans hR, hU.chg hch hc, hC.trans_topT h0 hch⟩
theorem HeadAt.set4 (h : HeadAt w0 cb A n c R T wx) (hT : T ≠ R) (hc : cb < T) (h0 : w0.heap.size ≤ T) (y : ByteArray) (hy : y.size ≤ 40) : HeadAt w0 cb A n c R T (wx.setCell ⟨T, 4, none⟩ (.string y)) := by
  obtain ⟨p, hp, hT', hR, hU, hC⟩ := h
  have hch : Chg T (T + 1) wx (wx.setCell ⟨T, 4, none⟩ (.string y)) := (Chg.refl _ _ _).setCell (by simp) (by simp) _
  have hb := hT'.set_ 4 (.string y)
  exact ⟨{ p with next := y }, ⟨hp.1, hp.2.1, hy, hp.2.2.2⟩, by simpa using hb, (hch.block R hR.lt (by omega)).trans hR, hU.chg hch hc, hC.trans_topT h0 hch⟩
theorem HeadAt.set5 (h : HeadAt w0 cb A n c R T wx) (hT : T ≠ R) (hc : cb < T) (h0 : w0.heap.size ≤ T) (y : ByteArray) (hy : y.size ≤ 40) : HeadAt w0 cb A n c R T (wx.setCell ⟨T, 5, none⟩ (.string y)) := by
  obtain ⟨p, hp, hT', hR, hU, hC⟩ := h
  have hch : Chg T (T + 1) wx (wx.setCell ⟨T, 5, none⟩ (.string y)) := (Chg.refl _ _ _).setCell (by simp) (by simp) _
  have hb := hT'.set_ 5 (.string y)
  exact ⟨{ p with data := y }, ⟨hp.1, hp.2.1, hp.2.2.1, hy⟩, by simpa using hb, (hch.block R hR.lt (by omega)).trans hR, hU.chg hch hc, hC.trans_topT h0 hch⟩
theorem HeadAt.call (h : HeadAt w0 cb A n c R T wx) (hg : Chg cb (cb + 1) wx wy) (hu : Cur wy cb A n c) (hR : cb < R) (hT : cb < T) : HeadAt w0 cb A n c R T wy := by
  obtain ⟨p, hp, hT', hR', hU, hC⟩ := h
  exact ⟨p, hp, (hg.block T hT'.lt (.inr (by omega))).trans hT', (hg.block R hR'.lt (.inr (by omega))).trans hR', hu, hC.trans hg⟩
theorem HeadAt.below (h : HeadAt w0 cb A n c R T wx) (hb : Below wx.heap.size wx wy) : HeadAt w0 cb A n c R T wy := by
  obtain ⟨p, hp, hT', hR', hU, hC⟩ := h
  exact ⟨p, hp, hT'.below hb hT'.lt, hR'.below hb hR'.lt, hU.below hb hU.lt (Nat.le_refl _), hC.below_trans hb⟩
theorem HeadAt.alloc (h : HeadAt w0 cb A n c R T wx) (o : Obj) : HeadAt w0 cb A n c R T (wx.alloc o) := h.below ((Below.refl _ _).alloc (Nat.le_refl _) o)
theorem HeadAt.cur (h : HeadAt w0 cb A n c R T wx) : Cur wx cb A n c := by
  obtain ⟨p, hp, hT', hR', hU, hC⟩ := h
  exact hU
theorem HeadAt.open (h : HeadAt w0 cb A n c R T wx) : ∃ p : HeaderD, (∀ i, wx.cell? ⟨T, i, none⟩ = (#[.int .i64 p.h, .int .i64 p.t, .string p.last, .string p.vals, .string p.next, .string p.data] : Array Value)[i]?) ∧ (∀ i, wx.frozen? ⟨T, i, none⟩ = false) ∧ T < wx.heap.size := by
  obtain ⟨p, hp, hT', hR, hU, hC⟩ := h
  exact ⟨p, hT'.cell, hT'.frozen, hT'.lt⟩
end

set_option maxRecDepth 100000 in
set_option maxHeartbeats 4000000 in
theorem l7Head_any (cb : Nat) (A : Option Addr) (n c : Nat) (w : World) (hc : Cur w cb A n c) :
    Calls Tryd.prog 62 #[.pointer (some ⟨cb, 0, none⟩)] w (Drew cb A n c IsHead w) := by
  have HC := Lib.hid hc
  have hlt := hc.lt
  clear hc
  go_enter Tryd.func62, Tryd.ntmps62
  go_wp2_with fail
  refine (l1Below_any cb A n c 4 _ (HC.out.alloc _) (by omega)).mono ?_
  rintro e w1 ⟨v, rfl, ⟨x1, rfl, _, _⟩, hg, hu⟩
  have HU1 := Lib.hid hu
  have HR1 : Hid (Blk w1 w.heap.size 34 #[.int .i64 0, .int .i64 0, .string ⟨#[]⟩, .string ⟨#[]⟩, .string ⟨#[]⟩, .string ⟨#[]⟩]) := (hg.block _ (by simp) (.inr (by omega))).trans (heap_alloc_new w _)
  have C1 := Lib.hid (((Chg.refl cb (cb + 1) w).alloc _).trans hg)
  have hz1 : w.heap.size < w1.heap.size := HR1.out.lt
  clear hg hu
  go_wp2_with fail
  refine (l1Below_any cb A n c 100 _ (HU1.out) (by omega)).mono ?_
  rintro e w2 ⟨v, rfl, ⟨x2, rfl, _, _⟩, hg, hu⟩
  have HU2 := Lib.hid hu
  have HR2 : Hid (Blk w2 w.heap.size 34 #[.int .i64 0, .int .i64 0, .string ⟨#[]⟩, .string ⟨#[]⟩, .string ⟨#[]⟩, .string ⟨#[]⟩]) := (hg.block _ HR1.out.lt (.inr (by omega))).trans HR1.out
  have C2 := Lib.hid (C1.out.trans hg)
  have hz2 : w.heap.size < w2.heap.size := HR2.out.lt
  clear hg hu
  go_wp2_with fail
  refine (l1Text_any cb A n c 1 _ (HU2.out) (by decide)).mono ?_
  rintro e w3 ⟨v, rfl, ⟨s3, rfl, hs3⟩, hg, hu⟩
  have HU3 := Lib.hid hu
  have HR3 : Hid (Blk w3 w.heap.size 34 #[.int .i64 0, .int .i64 0, .string ⟨#[]⟩, .string ⟨#[]⟩, .string ⟨#[]⟩, .string ⟨#[]⟩]) := (hg.block _ HR2.out.lt (.inr (by omega))).trans HR2.out
  have C3 := Lib.hid (C2.out.trans hg)
  have hz3 : w.heap.size < w3.heap.size := HR3.out.lt
  clear hg hu
  go_wp2_with fail
  refine (sShort_text s3 _ (by omega)).mono ?_
  rintro e w4 ⟨v, rfl, ⟨s4, rfl, hs4⟩, hb⟩
  have HU4 := Lib.hid (HU3.out.below hb HU3.out.lt (Nat.le_refl _))
  have HR4 : Hid (Blk w4 w.heap.size 34 #[.int .i64 0, .int .i64 0, .string ⟨#[]⟩, .string ⟨#[]⟩, .string ⟨#[]⟩, .string ⟨#[]⟩]) := HR3.out.below hb HR3.out.lt
  have C4 := Lib.hid (C3.out.below_trans hb)
  have hz4 : w.heap.size < w4.heap.size := HR4.out.lt
  clear hb
  go_wp2_with fail
  refine (l1Text_any cb A n c 1 _ (HU4.out) (by decide)).mono ?_
  rintro e w5 ⟨v, rfl, ⟨s5, rfl, hs5⟩, hg, hu⟩
  have HU5 := Lib.hid hu
  have HR5 : Hid (Blk w5 w.heap.size 34 #[.int .i64 0, .int .i64 0, .string ⟨#[]⟩, .string ⟨#[]⟩, .string ⟨#[]⟩, .string ⟨#[]⟩]) := (hg.block _ HR4.out.lt (.inr (by omega))).trans HR4.out
  have C5 := Lib.hid (C4.out.trans hg)
  have hz5 : w.heap.size < w5.heap.size := HR5.out.lt
  clear hg hu
  go_wp2_with fail
  refine (sShort_text s5 _ (by omega)).mono ?_
  rintro e w6 ⟨v, rfl, ⟨s6, rfl, hs6⟩, hb⟩
  have HU6 := Lib.hid (HU5.out.below hb HU5.out.lt (Nat.le_refl _))
  have HR6 : Hid (Blk w6 w.heap.size 34 #[.int .i64 0, .int .i64 0, .string ⟨#[]⟩, .string ⟨#[]⟩, .string ⟨#[]⟩, .string ⟨#[]⟩]) := HR5.out.below hb HR5.out.lt
  have C6 := Lib.hid (C5.out.below_trans hb)
  have hz6 : w.heap.size < w6.heap.size := HR6.out.lt
  clear hb
  go_wp2_with fail
  refine (l1Text_any cb A n c 4 _ (HU6.out) (by decide)).mono ?_
  rintro e w7 ⟨v, rfl, ⟨s7, rfl, hs7⟩, hg, hu⟩
  have HU7 := Lib.hid hu
  have HR7 : Hid (Blk w7 w.heap.size 34 #[.int .i64 0, .int .i64 0, .string ⟨#[]⟩, .string ⟨#[]⟩, .string ⟨#[]⟩, .string ⟨#[]⟩]) := (hg.block _ HR6.out.lt (.inr (by omega))).trans HR6.out
  have C7 := Lib.hid (C6.out.trans hg)
  have hz7 : w.heap.size < w7.heap.size := HR7.out.lt
  clear hg hu
  go_upto_region 2 with fail
  obtain ⟨w8, hw8⟩ : ∃ q, q = w7.alloc (.cells #[.int .i64 (1 + x1), .int .i64 x2, .string ⟨#[]⟩, .string s4, .string s6, .string s7] 34) := ⟨_, rfl⟩
  rw [← hw8]
  have g8 : ∀ i, w8.cell? ⟨w7.heap.size, i, none⟩ = (#[.int .i64 (1 + x1), .int .i64 x2, .string ⟨#[]⟩, .string s4, .string s6, .string s7] : Array Value)[i]? := by
    rw [hw8]
    exact (show Blk _ _ 34 _ from heap_alloc_new w7 _).cell
  have M8 : Hid (HeadAt w cb A n c w.heap.size w7.heap.size w8) := Lib.hid (by
    rw [hw8]
    exact ⟨⟨1 + x1, x2, ⟨#[]⟩, s4, s6, s7⟩, ⟨Nat.zero_le _, (by show s4.size ≤ 40; omega), (by show s6.size ≤ 40; omega), (by show s7.size ≤ 40; omega)⟩, heap_alloc_new w7 _, HR7.out.below ((Below.refl _ _).alloc (Nat.le_refl _) _) hz7, HU7.out.alloc _, C7.out.alloc _⟩)
  clear hw8 HR7 HU7 C7 HR6 HU6 C6 HR5 HU5 C5 HR4 HU4 C4 HR3 HU3 C3 HR2 HU2 C2 HR1 HU1 C1 HC
  have hcT : cb < w7.heap.size := by omega
  go_upto_if 20 with fail
  go_cut [] (fun wx => HeadAt w cb A n c w.heap.size w7.heap.size wx)
  case first =>
    by_cases hx : (1 : Int) < 1 + x1
    · go_wp2_with fail
      refine (sShort_text ⟨#[97]⟩ _ (by decide)).mono ?_
      rintro e w9 ⟨v, rfl, ⟨s9, rfl, hs9⟩, hb⟩
      clear g8
      have M9 := Lib.hid (M8.out.below hb)
      clear hb M8
      obtain ⟨p, tg, tf, ht7⟩ := M9.out.open
      go_wp2_with fail
      go_meet
      exact M9.out.set2 (by omega) hcT (by omega) s9 (by omega)
    · go_wp2_with fail
      go_meet
      exact M8.out
  case rest =>
  have M9 := Lib.hid hcut
  clear hcut M8 g8
  go_wp2_with fail
  refine (l1Once_any cb A n c 8 _ M9.out.cur (by omega)).mono ?_
  rintro e w9 ⟨v, rfl, ⟨b, rfl⟩, hg, hu⟩
  have M10 := Lib.hid (M9.out.call hg hu hlt hcT)
  clear hg hu M9
  go_upto_if 24 with fail
  go_cut [] (fun wx => HeadAt w cb A n c w.heap.size w7.heap.size wx)
  case first =>
    cases b
    · go_wp2_with fail
      go_meet
      exact M10.out
    · go_wp2_with fail
      refine (l1Below_any cb A n c 5 _ M10.out.cur (by omega)).mono ?_
      rintro e w10 ⟨v, rfl, ⟨x, rfl, y0, y1⟩, hg, hu⟩
      simp at y1
      have M11 := Lib.hid (M10.out.call hg hu hlt hcT)
      clear hg hu M10
      rcases (by omega : x = 0 ∨ x = 1 ∨ x = 2 ∨ x = 3 ∨ x = 4) with rfl | rfl | rfl | rfl | rfl
      · go_wp2_with fail
        refine (l1PickInt_any cb A n c w10.heap.size 4 (-100) 1000010 _ (M11.out.cur.alloc _) (by decide) (by decide) M11.out.cur.lt (by simp) ?_).mono ?_
        · intro j hj
          rcases (by omega : j = 0 ∨ j = 1 ∨ j = 2 ∨ j = 3) with rfl | rfl | rfl | rfl
          · exact ⟨0, by simp, by decide, by decide⟩
          · exact ⟨1, by simp, by decide, by decide⟩
          · exact ⟨1000000, by simp, by decide, by decide⟩
          · exact ⟨1000001, by simp, by decide, by decide⟩
        rintro e w11 ⟨v, rfl, ⟨z, rfl, _, _⟩, hg, hu⟩
        have M12 := Lib.hid ((M11.out.alloc _).call hg hu hlt hcT)
        clear hg hu M11
        obtain ⟨p, tg, tf, ht7⟩ := M12.out.open
        go_wp2_with fail
        go_meet
        exact M12.out.set0 (by omega) hcT (by omega) _
      · go_wp2_with fail
        refine (l1PickInt_any cb A n c w10.heap.size 3 (-100) 1000010 _ (M11.out.cur.alloc _) (by decide) (by decide) M11.out.cur.lt (by simp) ?_).mono ?_
        · intro j hj
          rcases (by omega : j = 0 ∨ j = 1 ∨ j = 2) with rfl | rfl | rfl
          · exact ⟨-1, by simp, by decide, by decide⟩
          · exact ⟨1000000, by simp, by decide, by decide⟩
          · exact ⟨1000001, by simp, by decide, by decide⟩
        rintro e w11 ⟨v, rfl, ⟨z, rfl, _, _⟩, hg, hu⟩
        have M12 := Lib.hid ((M11.out.alloc _).call hg hu hlt hcT)
        clear hg hu M11
        obtain ⟨p, tg, tf, ht7⟩ := M12.out.open
        go_wp2_with fail
        go_meet
        exact M12.out.set1 (by omega) hcT (by omega) _
      · go_wp2_with fail
        refine (l1Text_any cb A n c 9 _ M11.out.cur (by decide)).mono ?_
        rintro e w11 ⟨v, rfl, ⟨s, rfl, hs⟩, hg, hu⟩
        have M12 := Lib.hid (M11.out.call hg hu hlt hcT)
        clear hg hu M11
        obtain ⟨p, tg, tf, ht7⟩ := M12.out.open
        go_wp2_with fail
        go_meet
        exact M12.out.set2 (by omega) hcT (by omega) _ (by omega)
      · go_wp2_with fail
        refine (l1Text_any cb A n c 9 _ M11.out.cur (by decide)).mono ?_
        rintro e w11 ⟨v, rfl, ⟨s, rfl, hs⟩, hg, hu⟩
        have M12 := Lib.hid (M11.out.call hg hu hlt hcT)
        clear hg hu M11
        obtain ⟨p, tg, tf, ht7⟩ := M12.out.open
        go_wp2_with fail
        go_meet
        exact M12.out.set4 (by omega) hcT (by omega) _ (by omega)
      · go_wp2_with fail
        refine (l1Text_any cb A n c 1 _ M11.out.cur (by decide)).mono ?_
        rintro e w11 ⟨v, rfl, ⟨s, rfl, hs⟩, hg, hu⟩
        have M12 := Lib.hid (M11.out.call hg hu hlt hcT)
        clear hg hu M11
        obtain ⟨p, tg, tf, ht7⟩ := M12.out.open
        have hcat : ¬ 9223372036854775807 < (⟨#[97, 97, 97, 97, 97, 97, 97, 97, 97, 97, 97, 97, 97, 97, 97, 97, 97, 97, 97, 97]⟩ : ByteArray).size + s.size := by
          show ¬ 9223372036854775807 < 20 + s.size
          omega
        go_wp2_with fail
        go_meet
        exact M12.out.set5 (by omega) hcT (by omega) _ (by rw [ByteArray.size_append]; show 20 + s.size ≤ 40; omega)
  case rest =>
  have M12 := Lib.hid hcut
  clear hcut M10
  obtain ⟨p, hp, hT, hR, hU, hC⟩ := M12.out
  have tg := hT.cell
  have rg := hR.cell
  have rf := hR.frozen
  have HU := Lib.hid hU
  have HC := Lib.hid hC
  have ht7 := hT.lt
  clear hT hR hU hC M12
  go_wp2_with fail
  refine bodyPost_ret (v := .agg #[.int .i64 p.h, .int .i64 p.t, .string p.last, .string p.vals, .string p.next, .string p.data]) (by simp [results, Tryd.results62, go_sem, rg]) rfl ⟨_, rfl, ⟨p, rfl, hp⟩, ?_, ?_⟩
  · exact HC.out.trans_topT (D := w.heap.size) (hi := w.heap.size + 1) (Nat.le_refl _) (by (repeat (first | with_reducible refine Chg.setCell ?_ (by first | exact Nat.le_refl _ | (simp; done) | (simp; omega)) (by first | (simp; done) | (simp; omega)) _ | with_reducible refine Chg.alloc ?_ _ | with_reducible refine Chg.drew ?_)); (with_reducible exact Chg.refl _ _ _))
  · refine HU.out.chg (lo := w.heap.size) (hi := w.heap.size + 1) ?_ hlt
    (repeat (first | with_reducible refine Chg.setCell ?_ (by first | exact Nat.le_refl _ | (simp; done) | (simp; omega)) (by first | (simp; done) | (simp; omega)) _ | with_reducible refine Chg.alloc ?_ _ | with_reducible refine Chg.drew ?_)); (with_reducible exact Chg.refl _ _ _)
end Go.Proofs.YtjdknaipmboekaaDoor
