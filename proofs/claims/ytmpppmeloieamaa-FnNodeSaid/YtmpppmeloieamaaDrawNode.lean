/- Draws of messages: l16Msg. -/
import Derived.Test.YtmpppmeloieamaaDraw
import Derived.Test.YtmpppmeloieamaaC
import Derived.Deep.RegionWith
import Derived.Deep.DeepCutAuto
import Derived.WalkKit
import Derived.WalkSpells
import Derived.WalkLawsBesides
import Derived.Lib.Hide
namespace Go.Proofs.Ytmpppmeloieamaa
open Go.RowKit

def IsMsg (v : Value) : Prop := ∃ k r q p f : Int, v = .agg #[.int .i64 k, .int .i64 r, .int .i64 q, .int .i64 p, .int .i64 f]
/-- the message's box and the result's, beside the cursor -/
def MsgAt (w0 : World) (cb : Nat) (A : Option Addr) (n c R T : Nat) (wx : World) : Prop :=
  ∃ k r q p f : Int, Blk wx T 40 #[.int .i64 k, .int .i64 r, .int .i64 q, .int .i64 p, .int .i64 f] ∧ Blk wx R 40 #[.int .i64 0, .int .i64 0, .int .i64 0, .int .i64 0, .int .i64 0] ∧ Cur wx cb A n c ∧ Chg cb (cb + 1) w0 wx

theorem Chg.trans_top' {cb D : Nat} {w w1 w2 : World} (h : Chg cb (cb + 1) w w1) (hD : w.heap.size ≤ D) (k : Chg D (D + 1) w1 w2) : Chg cb (cb + 1) w w2 :=
  ⟨k.os.trans h.os, k.tape.trans h.tape, k.output.trans h.output, Nat.le_trans h.size k.size, fun q h1 h2 => (k.block q (by have := h.size; omega) (.inl (by omega))).trans (h.block q h1 h2)⟩
section
variable {w0 wx wy : World} {cb n c R T : Nat} {A : Option Addr}
theorem MsgAt.set (h : MsgAt w0 cb A n c R T wx) (hT : T ≠ R) (hc : cb < T) (h0 : w0.heap.size ≤ T) (j : Nat) (hj : j < 5) (x : Int) : MsgAt w0 cb A n c R T (wx.setCell ⟨T, j, none⟩ (.int .i64 x)) := by
  obtain ⟨k, r, q, p, f, hT', hR, hU, hC⟩ := h
  have hch : Chg T (T + 1) wx (wx.setCell ⟨T, j, none⟩ (.int .i64 x)) := (Chg.refl _ _ _).setCell (by simp) (by simp) _
  have hb := hT'.set_ j (.int .i64 x)
  have hR2 := (hch.block R hR.lt (by omega)).trans hR
  have hU2 := hU.chg hch hc
  have hC2 := hC.trans_top' h0 hch
  rcases (by omega : j = 0 ∨ j = 1 ∨ j = 2 ∨ j = 3 ∨ j = 4) with rfl | rfl | rfl | rfl | rfl
  · exact ⟨x, r, q, p, f, by simpa using hb, hR2, hU2, hC2⟩
  · exact ⟨k, x, q, p, f, by simpa using hb, hR2, hU2, hC2⟩
  · exact ⟨k, r, x, p, f, by simpa using hb, hR2, hU2, hC2⟩
  · exact ⟨k, r, q, x, f, by simpa using hb, hR2, hU2, hC2⟩
  · exact ⟨k, r, q, p, x, by simpa using hb, hR2, hU2, hC2⟩
theorem MsgAt.call (h : MsgAt w0 cb A n c R T wx) (hg : Chg cb (cb + 1) wx wy) (hu : Cur wy cb A n c) (hR : cb < R) (hT : cb < T) : MsgAt w0 cb A n c R T wy := by
  obtain ⟨k, r, q, p, f, hT', hR', hU, hC⟩ := h
  exact ⟨k, r, q, p, f, (hg.block T hT'.lt (.inr (by omega))).trans hT', (hg.block R hR'.lt (.inr (by omega))).trans hR', hu, hC.trans hg⟩
theorem MsgAt.alloc (h : MsgAt w0 cb A n c R T wx) (o : Obj) : MsgAt w0 cb A n c R T (wx.alloc o) := by
  obtain ⟨k, r, q, p, f, hT', hR', hU, hC⟩ := h
  exact ⟨k, r, q, p, f, hT'.below ((Below.refl _ _).alloc (Nat.le_refl _) o) hT'.lt, hR'.below ((Below.refl _ _).alloc (Nat.le_refl _) o) hR'.lt, hU.alloc o, hC.alloc o⟩
theorem MsgAt.cur (h : MsgAt w0 cb A n c R T wx) : Cur wx cb A n c := by
  obtain ⟨k, r, q, p, f, hT', hR', hU, hC⟩ := h
  exact hU
theorem MsgAt.open (h : MsgAt w0 cb A n c R T wx) : ∃ k r q p f : Int, (∀ i, wx.cell? ⟨T, i, none⟩ = (#[.int .i64 k, .int .i64 r, .int .i64 q, .int .i64 p, .int .i64 f] : Array Value)[i]?) ∧ (∀ i, wx.frozen? ⟨T, i, none⟩ = false) ∧ T < wx.heap.size := by
  obtain ⟨k, r, q, p, f, hT', hR', hU, hC⟩ := h
  exact ⟨k, r, q, p, f, hT'.cell, hT'.frozen, hT'.lt⟩
end

set_option maxRecDepth 100000 in
set_option maxHeartbeats 2000000 in
theorem l16Msg_any (cb : Nat) (A : Option Addr) (n c : Nat) (w : World) (hc : Cur w cb A n c) :
    Calls Try.prog 50 #[.pointer (some ⟨cb, 0, none⟩)] w (Drew cb A n c IsMsg w) := by
  have HC := Lib.hid hc
  have hlt := hc.lt
  clear hc
  go_enter Try.func50, Try.ntmps50
  go_wp2_with fail
  refine (l1Below_any cb A n c 3 _ (HC.out.alloc _) (by omega)).mono ?_
  rintro e w1 ⟨v, rfl, ⟨x1, rfl, _, _⟩, hg, hu⟩
  have G1 := Lib.hid hg
  have HU1 := Lib.hid hu
  have HR1 : Hid (Blk w1 w.heap.size 40 #[.int .i64 0, .int .i64 0, .int .i64 0, .int .i64 0, .int .i64 0]) := (hg.block _ (by simp) (.inr (by omega))).trans (heap_alloc_new w _)
  have hs1 : w.heap.size < w1.heap.size := HR1.out.lt
  have C1 := Lib.hid (((Chg.refl cb (cb + 1) w).alloc _).trans hg)
  clear hg hu
  go_wp2_with fail
  refine (l1Below_any cb A n c 3 _ HU1.out (by omega)).mono ?_
  rintro e w2 ⟨v, rfl, ⟨x2, rfl, hx0, hx1⟩, hg, hu⟩
  simp at hx1
  have C2 := Lib.hid (C1.out.trans hg)
  have HR2 : Hid (Blk w2 w.heap.size 40 #[.int .i64 0, .int .i64 0, .int .i64 0, .int .i64 0, .int .i64 0]) := (hg.block _ hs1 (.inr (by omega))).trans HR1.out
  have HU2 := Lib.hid hu
  have hs2 : w.heap.size < w2.heap.size := HR2.out.lt
  clear hg hu
  go_wp2_with fail
  refine (l1PickInt_any cb A n c w2.heap.size 6 (-100) 100 _ (HU2.out.alloc _) (by decide) (by decide) HU2.out.lt (by simp) ?_).mono ?_
  · intro j hj
    rcases (by omega : j = 0 ∨ j = 1 ∨ j = 2 ∨ j = 3 ∨ j = 4 ∨ j = 5) with rfl | rfl | rfl | rfl | rfl | rfl
    · exact ⟨11, by simp, by decide, by decide⟩
    · exact ⟨12, by simp, by decide, by decide⟩
    · exact ⟨12, by simp, by decide, by decide⟩
    · exact ⟨11, by simp, by decide, by decide⟩
    · exact ⟨14, by simp, by decide, by decide⟩
    · exact ⟨0, by simp, by decide, by decide⟩
  rintro e w3 ⟨v, rfl, ⟨x3, rfl, _, _⟩, hg, hu⟩
  have C3 := Lib.hid (C2.out.trans (((Chg.refl cb (cb + 1) w2).alloc _).trans hg))
  have HR3 : Hid (Blk w3 w.heap.size 40 #[.int .i64 0, .int .i64 0, .int .i64 0, .int .i64 0, .int .i64 0]) := (hg.block _ (by simp; omega) (.inr (by omega))).trans (HR2.out.below ((Below.refl _ _).alloc (Nat.le_refl _) _) hs2)
  have HU3 := Lib.hid hu
  have hs3 : w.heap.size < w3.heap.size := HR3.out.lt
  clear hg hu
  go_wp2_with fail
  refine (l1Below_any cb A n c 4 _ HU3.out (by omega)).mono ?_
  rintro e w4 ⟨v, rfl, ⟨x4, rfl, _, _⟩, hg, hu⟩
  have C4 := Lib.hid (C3.out.trans hg)
  have HR4 : Hid (Blk w4 w.heap.size 40 #[.int .i64 0, .int .i64 0, .int .i64 0, .int .i64 0, .int .i64 0]) := (hg.block _ hs3 (.inr (by omega))).trans HR3.out
  have HU4 := Lib.hid hu
  have hs4 : w.heap.size < w4.heap.size := HR4.out.lt
  clear hg hu
  go_upto_region 2 with fail
  obtain ⟨w5, hw5⟩ : ∃ q, q = w4.alloc (.cells #[.int .i64 (1 + x1), .int .i64 x2, .int .i64 x3, .int .i64 (-1), .int .i64 (1 + x4)] 40) := ⟨_, rfl⟩
  rw [← hw5]
  have HT := Lib.hid (show Blk w5 w4.heap.size 40 #[.int .i64 (1 + x1), .int .i64 x2, .int .i64 x3, .int .i64 (-1), .int .i64 (1 + x4)] by rw [hw5]; exact heap_alloc_new w4 _)
  have HR := Lib.hid (show Blk w5 w.heap.size 40 #[.int .i64 0, .int .i64 0, .int .i64 0, .int .i64 0, .int .i64 0] by rw [hw5]; exact HR4.out.below ((Below.refl _ _).alloc (Nat.le_refl _) _) hs4)
  have HU := Lib.hid (show Cur w5 cb A n c by rw [hw5]; exact HU4.out.alloc _)
  have HC' := Lib.hid (show Chg cb (cb + 1) w w5 by rw [hw5]; exact C4.out.alloc _)
  clear hw5 HR4 HU4 C4 HR3 HU3 C3 HR2 HU2 C2 HR1 HU1 C1 G1 HC
  have HC := HC'
  clear HC'
  have tg := HT.out.cell
  have tf := HT.out.frozen
  have ht5 := HT.out.lt
  have hr5 := HR.out.lt
  have hcT : cb < w4.heap.size := by omega
  have M5 : Hid (MsgAt w cb A n c w.heap.size w4.heap.size w5) := Lib.hid ⟨_, _, _, _, _, HT.out, HR.out, HU.out, HC.out⟩
  clear HT HR HU HC
  go_upto_if 18 with fail
  go_cut [] (fun wx => MsgAt w cb A n c w.heap.size w4.heap.size wx)
  case first =>
    by_cases hk : (1 : Int) + x1 = 1
    · go_wp2_with fail
      refine (l16Proposer_any x2 _ hx0 (by omega)).mono ?_
      rintro e w6 ⟨rfl, rfl⟩
      go_wp2_with fail
      have M6 := Lib.hid (M5.out.set (by omega) hcT (by omega) 4 (by decide) (propOf x2))
      clear M5 tg tf
      refine (l1Once_any cb A n c 3 _ M6.out.cur (by omega)).mono ?_
      rintro e w7 ⟨v, rfl, ⟨b, rfl⟩, hg, hu⟩
      have M7 := Lib.hid (M6.out.call hg hu hlt hcT)
      clear hg hu M6
      obtain ⟨k, r, q, p, f, tg, tf, ht7⟩ := M7.out.open
      cases b
      · go_wp2_with fail
        go_meet
        exact M7.out
      · go_wp2_with fail
        go_meet
        exact M7.out.set (by omega) hcT (by omega) 3 (by decide) _
    · go_wp2_with fail
      go_meet
      exact M5.out
  case rest =>
  have M8 := Lib.hid hcut
  clear hcut M5 tg tf hx0 hx1
  go_wp2_with fail
  refine (l1Once_any cb A n c 12 _ M8.out.cur (by omega)).mono ?_
  rintro e w9 ⟨v, rfl, ⟨b, rfl⟩, hg, hu⟩
  have M9 := Lib.hid (M8.out.call hg hu hlt hcT)
  clear hg hu M8
  go_upto_if 30 with fail
  go_cut [] (fun wx => MsgAt w cb A n c w.heap.size w4.heap.size wx)
  case first =>
    cases b
    · go_wp2_with fail
      go_meet
      exact M9.out
    · go_wp2_with fail
      refine (l1Below_any cb A n c 4 _ M9.out.cur (by omega)).mono ?_
      rintro e w10 ⟨v, rfl, ⟨x, rfl, y0, y1⟩, hg, hu⟩
      simp at y1
      have M10 := Lib.hid (M9.out.call hg hu hlt hcT)
      clear hg hu M9
      rcases (by omega : x = 0 ∨ x = 1 ∨ x = 2 ∨ x = 3) with rfl | rfl | rfl | rfl
      · go_wp2_with fail
        refine (l1PickInt_any cb A n c w10.heap.size 3 (-100) 100 _ (M10.out.cur.alloc _) (by decide) (by decide) M10.out.cur.lt (by simp) ?_).mono ?_
        · intro j hj
          rcases (by omega : j = 0 ∨ j = 1 ∨ j = 2) with rfl | rfl | rfl
          · exact ⟨-1, by simp, by decide, by decide⟩
          · exact ⟨11, by simp, by decide, by decide⟩
          · exact ⟨12, by simp, by decide, by decide⟩
        rintro e w11 ⟨v, rfl, ⟨z, rfl, _, _⟩, hg, hu⟩
        have M11 := Lib.hid ((M10.out.alloc _).call hg hu hlt hcT)
        clear hg hu M10
        obtain ⟨k, r, q, p, f, tg, tf, ht7⟩ := M11.out.open
        go_wp2_with fail
        go_meet
        exact M11.out.set (by omega) hcT (by omega) 1 (by decide) _
      · go_wp2_with fail
        refine (l1Below_any cb A n c 6 _ M10.out.cur (by omega)).mono ?_
        rintro e w11 ⟨v, rfl, ⟨z, rfl, _, _⟩, hg, hu⟩
        have M11 := Lib.hid (M10.out.call hg hu hlt hcT)
        clear hg hu M10
        obtain ⟨k, r, q, p, f, tg, tf, ht7⟩ := M11.out.open
        go_wp2_with fail
        go_meet
        exact M11.out.set (by omega) hcT (by omega) 4 (by decide) _
      · go_wp2_with fail
        refine (l1PickInt_any cb A n c w10.heap.size 3 (-100) 100 _ (M10.out.cur.alloc _) (by decide) (by decide) M10.out.cur.lt (by simp) ?_).mono ?_
        · intro j hj
          rcases (by omega : j = 0 ∨ j = 1 ∨ j = 2) with rfl | rfl | rfl
          · exact ⟨-1, by simp, by decide, by decide⟩
          · exact ⟨20, by simp, by decide, by decide⟩
          · exact ⟨21, by simp, by decide, by decide⟩
        rintro e w11 ⟨v, rfl, ⟨z, rfl, _, _⟩, hg, hu⟩
        have M11 := Lib.hid ((M10.out.alloc _).call hg hu hlt hcT)
        clear hg hu M10
        obtain ⟨k, r, q, p, f, tg, tf, ht7⟩ := M11.out.open
        go_wp2_with fail
        go_meet
        exact M11.out.set (by omega) hcT (by omega) 2 (by decide) _
      · go_wp2_with fail
        refine (l1Below_any cb A n c 3 _ M10.out.cur (by omega)).mono ?_
        rintro e w11 ⟨v, rfl, ⟨z, rfl, _, _⟩, hg, hu⟩
        have M11 := Lib.hid (M10.out.call hg hu hlt hcT)
        clear hg hu M10
        obtain ⟨k, r, q, p, f, tg, tf, ht7⟩ := M11.out.open
        go_wp2_with fail
        go_meet
        exact M11.out.set (by omega) hcT (by omega) 3 (by decide) _
  case rest =>
  have M12 := Lib.hid hcut
  clear hcut M9
  obtain ⟨k, r, q, p, f, hT, hR, hU, hC⟩ := M12.out
  have tg := hT.cell
  have rg := hR.cell
  have rf := hR.frozen
  have HU := Lib.hid hU
  have HC := Lib.hid hC
  have ht7 := hT.lt
  clear hT hR hU hC M12
  go_wp2_with fail
  refine bodyPost_ret (v := .agg #[.int .i64 k, .int .i64 r, .int .i64 q, .int .i64 p, .int .i64 f]) (by simp [results, Try.results50, go_sem, rg]) rfl ⟨_, rfl, ⟨_, _, _, _, _, rfl⟩, ?_, ?_⟩
  · exact HC.out.trans_top' (D := w.heap.size) (Nat.le_refl _) (by (repeat (first | with_reducible refine Chg.setCell ?_ (by first | exact Nat.le_refl _ | (simp; done) | (simp; omega)) (by first | (simp; done) | (simp; omega)) _ | with_reducible refine Chg.alloc ?_ _ | with_reducible refine Chg.drew ?_)); (with_reducible exact Chg.refl _ _ _))
  · refine HU.out.chg (lo := w.heap.size) (hi := w.heap.size + 1) ?_ hlt
    (repeat (first | with_reducible refine Chg.setCell ?_ (by first | exact Nat.le_refl _ | (simp; done) | (simp; omega)) (by first | (simp; done) | (simp; omega)) _ | with_reducible refine Chg.alloc ?_ _ | with_reducible refine Chg.drew ?_)); (with_reducible exact Chg.refl _ _ _)
end Go.Proofs.Ytmpppmeloieamaa
