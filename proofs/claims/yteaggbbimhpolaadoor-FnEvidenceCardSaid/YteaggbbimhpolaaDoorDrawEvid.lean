/- Draws of signed votes and evidence. (written by wip/drawevid.py) -/
import Derived.Test.YteaggbbimhpolaaDoorDrawVote
import Derived.Test.YteaggbbimhpolaaDoorDrawSpoil
import Derived.Test.YteaggbbimhpolaaDoorSign
import Derived.Test.YteaggbbimhpolaaDoorFindEvid
import Derived.Test.YteaggbbimhpolaaDoorApp
import Derived.WalkKit
import Derived.WalkSpells
import Derived.WalkLawsBesides
import Derived.Lib.Hide
namespace Go.Proofs.YteaggbbimhpolaaDoor
open Go.RowKit

theorem signAsL_len (v : Int) (d : List UInt8) : (signAsL v d).length ≤ 8 := by
  unfold signAsL
  split
  · rw [shortL_len]; exact Nat.le_refl _
  · simp
def IsSV (v : Value) : Prop := ∃ p : SVoteD, v = .agg #[.int .i64 p.h, .int .i64 p.r, .int .i64 p.st, .string p.id, .int .i64 p.v, .string p.sig]
structure EvAt (w0 : World) (cb : Nat) (A : Option Addr) (n c R T : Nat) (wx : World) (h r st x : Int) (id : ByteArray) : Prop where
  box : Blk wx T 30 #[.int .i64 h, .int .i64 r, .int .i64 st, .string id, .int .i64 x]
  res : Blk wx R 32 #[.int .i64 0, .int .i64 0, .int .i64 0, .string ⟨#[]⟩, .int .i64 0, .string ⟨#[]⟩]
  cur : Cur wx cb A n c
  chg : Chg cb (cb + 1) w0 wx
section
variable {w0 wx wy : World} {cb n c R T : Nat} {A : Option Addr} {h r st x h' r' st' x' : Int} {id id' : ByteArray}
theorem EvAt.call (k : EvAt w0 cb A n c R T wx h r st x id) (hg : Chg cb (cb + 1) wx wy) (hu : Cur wy cb A n c) (hR : cb < R) (hT : cb < T) : EvAt w0 cb A n c R T wy h r st x id :=
  ⟨(hg.block T k.box.lt (.inr (by omega))).trans k.box, (hg.block R k.res.lt (.inr (by omega))).trans k.res, hu, k.chg.trans hg⟩
theorem EvAt.below (k : EvAt w0 cb A n c R T wx h r st x id) (hb : Below wx.heap.size wx wy) : EvAt w0 cb A n c R T wy h r st x id :=
  ⟨k.box.below hb k.box.lt, k.res.below hb k.res.lt, k.cur.below hb k.cur.lt (Nat.le_refl _), k.chg.below_trans hb⟩
theorem EvAt.turn (k : EvAt w0 cb A n c R T wx h r st x id) (hRT : T ≠ R) (hc : cb < T) (h0 : w0.heap.size ≤ T) (hch : Chg T (T + 1) wx wy) (hb : Blk wy T 30 #[.int .i64 h', .int .i64 r', .int .i64 st', .string id', .int .i64 x']) : EvAt w0 cb A n c R T wy h' r' st' x' id' :=
  ⟨hb, (hch.block R k.res.lt (by omega)).trans k.res, k.cur.chg hch hc, k.chg.trans_topT h0 hch⟩
end

set_option maxRecDepth 100000 in
set_option maxHeartbeats 4000000 in
theorem l12Vote_any (cb : Nat) (A : Option Addr) (n c : Nat) (w : World) (hc : Cur w cb A n c) :
    Calls Tryd.prog 54 #[.pointer (some ⟨cb, 0, none⟩)] w (Drew cb A n c IsSV w) := by
  have HC := Lib.hid hc
  have hlt := hc.lt
  clear hc
  go_enter Tryd.func54, Tryd.ntmps54
  go_wp2_with fail
  refine (l8Vote_any cb A n c _ (HC.out.alloc _)).mono ?_
  rintro e w1 ⟨v, rfl, ⟨h, r, st, x, id, rfl, hid⟩, hg, hu⟩
  have HR1 : Hid (Blk w1 w.heap.size 32 #[.int .i64 0, .int .i64 0, .int .i64 0, .string ⟨#[]⟩, .int .i64 0, .string ⟨#[]⟩]) := Lib.hid ((hg.block _ (by simp) (.inr (by omega))).trans (heap_alloc_new w _))
  have HU1 := Lib.hid hu
  have HC1 := Lib.hid (((Chg.refl cb (cb + 1) w).alloc _).trans hg)
  have hs1 : w.heap.size < w1.heap.size := HR1.out.lt
  clear hg hu HC
  go_upto_region 2 with fail
  obtain ⟨w2, hw2⟩ : ∃ q, q = w1.alloc (.cells #[.int .i64 h, .int .i64 r, .int .i64 st, .string id, .int .i64 x] 30) := ⟨_, rfl⟩
  rw [← hw2]
  have M2 : Hid (EvAt w cb A n c w.heap.size w1.heap.size w2 h r st x id) := Lib.hid (by
    rw [hw2]
    exact ⟨heap_alloc_new w1 _, HR1.out.below ((Below.refl _ _).alloc (Nat.le_refl _) _) hs1, HU1.out.alloc _, HC1.out.alloc _⟩)
  clear hw2 HR1 HU1 HC1
  have hcT : cb < w1.heap.size := by omega
  have hRT : w1.heap.size ≠ w.heap.size := by omega
  have h0T : w.heap.size ≤ w1.heap.size := by omega
  go_wp2_with fail
  refine (l1Once_any cb A n c 2 _ M2.out.cur (by omega)).mono ?_
  rintro e w3 ⟨v, rfl, ⟨b, rfl⟩, hg, hu⟩
  have M3 := Lib.hid (M2.out.call hg hu hlt hcT)
  clear hg hu M2
  go_upto_if 8 with fail
  go_cut [] (fun wx => ∃ (h r st x : Int) (id : ByteArray), EvAt w cb A n c w.heap.size w1.heap.size wx h r st x id)
  case first =>
    cases b
    · go_wp2_with fail
      go_meet
      exact ⟨h, r, st, x, id, M3.out⟩
    · go_wp2_with fail
      refine (l1Below_any cb A n c 2 _ M3.out.cur (by omega)).mono ?_
      rintro e w4 ⟨v, rfl, ⟨y4, rfl, _, _⟩, hg, hu⟩
      have M4 := Lib.hid (M3.out.call hg hu hlt hcT)
      clear hg hu M3
      go_wp2_with fail
      refine (l1Below_any cb A n c 2 _ M4.out.cur (by omega)).mono ?_
      rintro e w5 ⟨v, rfl, ⟨y5, rfl, _, _⟩, hg, hu⟩
      have M5 := Lib.hid (M4.out.call hg hu hlt hcT)
      clear hg hu M4
      go_wp2_with fail
      refine (l1Below_any cb A n c 3 _ M5.out.cur (by omega)).mono ?_
      rintro e w6 ⟨v, rfl, ⟨y6, rfl, _, _⟩, hg, hu⟩
      have M6 := Lib.hid (M5.out.call hg hu hlt hcT)
      clear hg hu M5
      go_wp2_with fail
      refine (l1Text_any cb A n c 1 _ M6.out.cur (by decide)).mono ?_
      rintro e w7 ⟨v, rfl, ⟨s, rfl, hs⟩, hg, hu⟩
      have M7 := Lib.hid (M6.out.call hg hu hlt hcT)
      clear hg hu M6
      go_wp2_with fail
      refine (sShort_text s _ (by omega)).mono ?_
      rintro e w8 ⟨v, rfl, ⟨s8, rfl, hs8⟩, hb⟩
      have M8 := Lib.hid (M7.out.below hb)
      clear hb M7
      have tg := M8.out.box.cell
      have tf := M8.out.box.frozen
      have tl := M8.out.box.lt
      go_wp2_with fail
      go_meet
      refine ⟨1, y4, 1 + y5, 1 + y6, s8, M8.out.turn hRT hcT h0T (by (repeat (first | with_reducible refine Chg.setCell ?_ (by first | exact Nat.le_refl _ | (simp; done) | (simp; omega)) (by first | (simp; done) | (simp; omega)) _ | with_reducible refine Chg.alloc ?_ _ | with_reducible refine Chg.drew ?_)); (with_reducible exact Chg.refl _ _ _)) ?_⟩
      have hb := ((((M8.out.box.set_ 0 (.int .i64 1)).set_ 1 (.int .i64 y4)).set_ 2 (.int .i64 (1 + y5))).set_ 3 (.string s8)).set_ 4 (.int .i64 (1 + y6))
      simp only [List.setIfInBounds_toArray, List.set_cons_zero, List.set_cons_succ] at hb
      exact hb
  case rest =>
  obtain ⟨h, r, st, x, id, hM⟩ := hcut
  obtain ⟨w9, hwc⟩ : ∃ q, q = wc := ⟨_, rfl⟩
  subst hwc
  have M9 := Lib.hid hM
  clear hM M3
  have tg := M9.out.box.cell
  have tl := M9.out.box.lt
  have hdl : (⟨(digestL ⟨h, r, st, id, x⟩).toArray⟩ : ByteArray).size ≤ 2000000 := by
    have := digestL_len ⟨h, r, st, id, x⟩
    show (digestL ⟨h, r, st, id, x⟩).toArray.size ≤ 2000000
    simp; omega
  have HDL := Lib.hid hdl
  clear hdl
  go_upto_region 4 with fail
  refine wp_region_below (by kernel_rfl) (by kernel_rfl) ?_
  repeat (first | go_big_quiet_skip | (go_big_quiet_want; go_big_quiet_op; first | go_big_quiet_on | (apply Exists.intro; refine ⟨fun w1 hC => ?_, ?_⟩; (focus (first | rfl | (go_at_call 45; exact quiet_below hC (sDigest_any ⟨h, r, st, id, x⟩ _)) | (go_at_call 44; with_reducible exact quiet_below hC (sSignAs_any _ _ _ HDL.out)) | (simp [(bcell hC).1, tg, tl]; done) | (simp [(bcell hC).1, tg, tl]; rfl))); go_big_quiet_on)))
  refine wpQuiet_nil ?_
  intro w2 hb2
  obtain ⟨hc2, hf2, hz2⟩ := bcell hb2
  obtain ⟨w10, hw10⟩ : ∃ q, q = w2 := ⟨_, rfl⟩
  rw [← hw10] at hb2 ⊢
  have M10 := Lib.hid (M9.out.below hb2)
  clear hw10 hb2 hc2 hf2 hz2 M9 tg tl HDL
  obtain ⟨sg, hsg⟩ : ∃ sg : ByteArray, sg = ⟨(signAsL x (digestL ⟨h, r, st, id, x⟩)).toArray⟩ := ⟨_, rfl⟩
  have hsz : sg.size ≤ 100 := by
    have := signAsL_len x (digestL ⟨h, r, st, id, x⟩)
    rw [hsg]
    show (signAsL x (digestL ⟨h, r, st, id, x⟩)).toArray.size ≤ 100
    simp; omega
  (try simp only at *)
  rw [← hsg]
  clear hsg
  have HSZ := Lib.hid hsz
  clear hsz
  go_wp2_with fail
  refine (l1Once_any cb A n c 8 _ M10.out.cur (by omega)).mono ?_
  rintro e w11 ⟨v, rfl, ⟨b2, rfl⟩, hg, hu⟩
  have M11 := Lib.hid (M10.out.call hg hu hlt hcT)
  clear hg hu M10
  go_upto_if 27 with fail
  go_cut [4] (fun sv wx => ∃ t : ByteArray, sv = .string t ∧ EvAt w cb A n c w.heap.size w1.heap.size wx h r st x id)
  case first =>
    cases b2
    · go_wp2_with fail
      go_meet
      exact ⟨sg, rfl, M11.out⟩
    · go_wp2_with fail
      refine (l1Spoil_any cb A n c sg _ M11.out.cur HSZ.out).mono ?_
      rintro e w12 ⟨v, rfl, ⟨t, rfl, ht⟩, hg, hu⟩
      have M12 := Lib.hid (M11.out.call hg hu hlt hcT)
      clear hg hu M11
      go_wp2_with fail
      go_meet
      exact ⟨t, rfl, M12.out⟩
  case rest =>
  obtain ⟨t, rfl, hM⟩ := hcut
  have M13 := Lib.hid hM
  have tg := hM.box.cell
  have tl := hM.box.lt
  have rg := hM.res.cell
  have rf := hM.res.frozen
  clear hM M11
  go_wp2_with fail
  refine bodyPost_ret (v := .agg #[.int .i64 h, .int .i64 r, .int .i64 st, .string id, .int .i64 x, .string t]) (by simp [results, Tryd.results54, go_sem, rg]) rfl ⟨_, rfl, ⟨⟨h, r, st, id, x, t⟩, rfl⟩, ?_, ?_⟩
  · exact M13.out.chg.trans_topT (D := w.heap.size) (hi := w.heap.size + 1) (Nat.le_refl _) (by (repeat (first | with_reducible refine Chg.setCell ?_ (by first | exact Nat.le_refl _ | (simp; done) | (simp; omega)) (by first | (simp; done) | (simp; omega)) _ | with_reducible refine Chg.alloc ?_ _ | with_reducible refine Chg.drew ?_)); (with_reducible exact Chg.refl _ _ _))
  · refine M13.out.cur.chg (lo := w.heap.size) (hi := w.heap.size + 1) ?_ hlt
    (repeat (first | with_reducible refine Chg.setCell ?_ (by first | exact Nat.le_refl _ | (simp; done) | (simp; omega)) (by first | (simp; done) | (simp; omega)) _ | with_reducible refine Chg.alloc ?_ _ | with_reducible refine Chg.drew ?_)); (with_reducible exact Chg.refl _ _ _)
def IsEv (v : Value) : Prop := ∃ p q : SVoteD, v = .agg #[.int .i64 p.h, .int .i64 p.r, .int .i64 p.st, .string p.id, .int .i64 p.v, .string p.sig, .int .i64 q.h, .int .i64 q.r, .int .i64 q.st, .string q.id, .int .i64 q.v, .string q.sig]
/-- two drawn votes' boxes and the result's -/
structure EvAt2 (w0 : World) (cb : Nat) (A : Option Addr) (n c R T U : Nat) (wx : World) (p q : SVoteD) : Prop where
  box : Blk wx T 32 #[.int .i64 p.h, .int .i64 p.r, .int .i64 p.st, .string p.id, .int .i64 p.v, .string p.sig]
  bo2 : Blk wx U 32 #[.int .i64 q.h, .int .i64 q.r, .int .i64 q.st, .string q.id, .int .i64 q.v, .string q.sig]
  res : Blk wx R 34 #[.int .i64 0, .int .i64 0, .int .i64 0, .string ⟨#[]⟩, .int .i64 0, .string ⟨#[]⟩, .int .i64 0, .int .i64 0, .int .i64 0, .string ⟨#[]⟩, .int .i64 0, .string ⟨#[]⟩]
  cur : Cur wx cb A n c
  chg : Chg cb (cb + 1) w0 wx
section
variable {w0 wx wy : World} {cb n c R T U : Nat} {A : Option Addr} {p q q' : SVoteD}
theorem EvAt2.call (k : EvAt2 w0 cb A n c R T U wx p q) (hg : Chg cb (cb + 1) wx wy) (hu : Cur wy cb A n c) (hR : cb < R) (hT : cb < T) (hU : cb < U) : EvAt2 w0 cb A n c R T U wy p q :=
  ⟨(hg.block T k.box.lt (.inr (by omega))).trans k.box, (hg.block U k.bo2.lt (.inr (by omega))).trans k.bo2, (hg.block R k.res.lt (.inr (by omega))).trans k.res, hu, k.chg.trans hg⟩
theorem EvAt2.below (k : EvAt2 w0 cb A n c R T U wx p q) (hb : Below wx.heap.size wx wy) : EvAt2 w0 cb A n c R T U wy p q :=
  ⟨k.box.below hb k.box.lt, k.bo2.below hb k.bo2.lt, k.res.below hb k.res.lt, k.cur.below hb k.cur.lt (Nat.le_refl _), k.chg.below_trans hb⟩
theorem EvAt2.turn (k : EvAt2 w0 cb A n c R T U wx p q) (hRU : R < U) (hTU : T < U) (hc : cb < U) (h0 : w0.heap.size ≤ U) (hch : Chg U (U + 1) wx wy) (hb : Blk wy U 32 #[.int .i64 q'.h, .int .i64 q'.r, .int .i64 q'.st, .string q'.id, .int .i64 q'.v, .string q'.sig]) : EvAt2 w0 cb A n c R T U wy p q' :=
  ⟨(hch.block T k.box.lt (.inl hTU)).trans k.box, hb, (hch.block R k.res.lt (.inl hRU)).trans k.res, k.cur.chg hch hc, k.chg.trans_topT h0 hch⟩
end

set_option maxRecDepth 100000 in
set_option maxHeartbeats 4000000 in
theorem l12Evid_any (cb : Nat) (A : Option Addr) (n c : Nat) (w : World) (hc : Cur w cb A n c) :
    Calls Tryd.prog 41 #[.pointer (some ⟨cb, 0, none⟩)] w (Drew cb A n c IsEv w) := by
  have HC := Lib.hid hc
  have hlt := hc.lt
  clear hc
  go_enter Tryd.func41, Tryd.ntmps41
  go_wp2_with fail
  refine (l12Vote_any cb A n c _ (HC.out.alloc _)).mono ?_
  rintro e w1 ⟨v, rfl, ⟨p, rfl⟩, hg, hu⟩
  have HR1 : Hid (Blk w1 w.heap.size 34 #[.int .i64 0, .int .i64 0, .int .i64 0, .string ⟨#[]⟩, .int .i64 0, .string ⟨#[]⟩, .int .i64 0, .int .i64 0, .int .i64 0, .string ⟨#[]⟩, .int .i64 0, .string ⟨#[]⟩]) := Lib.hid ((hg.block _ (by simp) (.inr (by omega))).trans (heap_alloc_new w _))
  have HU1 := Lib.hid hu
  have HC1 := Lib.hid (((Chg.refl cb (cb + 1) w).alloc _).trans hg)
  have hs1 : w.heap.size < w1.heap.size := HR1.out.lt
  clear hg hu HC
  go_upto_region 3 with fail
  obtain ⟨w3, hw3⟩ : ∃ q, q = (w1.alloc (.cells #[.int .i64 p.h, .int .i64 p.r, .int .i64 p.st, .string p.id, .int .i64 p.v, .string p.sig] 32)).alloc (.cells #[.int .i64 p.h, .int .i64 p.r, .int .i64 p.st, .string p.id, .int .i64 p.v, .string p.sig] 32) := ⟨_, rfl⟩
  rw [← hw3]
  have hb : Below w1.heap.size w1 w3 := by rw [hw3]; exact ((Below.refl _ _).alloc (Nat.le_refl _) _).alloc (by simp) _
  have M3 : Hid (EvAt2 w cb A n c w.heap.size w1.heap.size (w1.heap.size + 1) w3 p p) := Lib.hid (by
    refine ⟨?_, ?_, HR1.out.below hb hs1, HU1.out.below hb HU1.out.lt (Nat.le_refl _), HC1.out.below_trans hb⟩
    · rw [hw3]; exact (show Blk _ _ _ _ from heap_alloc_new w1 _).alloc _
    · rw [hw3]
      have h := heap_alloc_new (w1.alloc (.cells #[.int .i64 p.h, .int .i64 p.r, .int .i64 p.st, .string p.id, .int .i64 p.v, .string p.sig] 32)) (.cells #[.int .i64 p.h, .int .i64 p.r, .int .i64 p.st, .string p.id, .int .i64 p.v, .string p.sig] 32)
      rw [World.size_alloc] at h
      exact h)
  clear hw3 hb HR1 HU1 HC1
  have hcT : cb < w1.heap.size := by omega
  have hcU : cb < w1.heap.size + 1 := by omega
  have hRU : w.heap.size < w1.heap.size + 1 := by omega
  have hTU : w1.heap.size < w1.heap.size + 1 := by omega
  have h0U : w.heap.size ≤ w1.heap.size + 1 := by omega
  go_wp2_with fail
  refine (l1Text_any cb A n c 2 _ M3.out.cur (by decide)).mono ?_
  rintro e w4 ⟨v, rfl, ⟨s, rfl, hs⟩, hg, hu⟩
  have M4 := Lib.hid (M3.out.call hg hu hlt hcT hcU)
  clear hg hu M3
  go_wp2_with fail
  refine (sShort_text s _ (by omega)).mono ?_
  rintro e w5 ⟨v, rfl, ⟨s8, rfl, hs8⟩, hb⟩
  have M5 := Lib.hid (M4.out.below hb)
  clear hb M4
  have ug := M5.out.bo2.cell
  have uf := M5.out.bo2.frozen
  have ul := M5.out.bo2.lt
  go_upto_region 4 with fail
  obtain ⟨w6, hw6⟩ : ∃ q, q = w5.setCell ⟨w1.heap.size + 1, 3, none⟩ (.string s8) := ⟨_, rfl⟩
  rw [← hw6]
  have M6 : Hid (EvAt2 w cb A n c w.heap.size w1.heap.size (w1.heap.size + 1) w6 p ⟨p.h, p.r, p.st, s8, p.v, p.sig⟩) := Lib.hid (M5.out.turn hRU hTU hcU h0U (by rw [hw6]; (repeat (first | with_reducible refine Chg.setCell ?_ (by first | exact Nat.le_refl _ | (simp; done) | (simp; omega)) (by first | (simp; done) | (simp; omega)) _ | with_reducible refine Chg.alloc ?_ _ | with_reducible refine Chg.drew ?_)); (with_reducible exact Chg.refl _ _ _)) (by
    rw [hw6]
    have := M5.out.bo2.set_ 3 (.string s8)
    simpa using this))
  clear hw6 M5 ug uf ul
  have ug := M6.out.bo2.cell
  have uf := M6.out.bo2.frozen
  have ul := M6.out.bo2.lt
  have hdl : (⟨(digestL ⟨p.h, p.r, p.st, s8, p.v⟩).toArray⟩ : ByteArray).size ≤ 2000000 := by
    have := digestL_len ⟨p.h, p.r, p.st, s8, p.v⟩
    show (digestL ⟨p.h, p.r, p.st, s8, p.v⟩).toArray.size ≤ 2000000
    simp; omega
  have HDL := Lib.hid hdl
  clear hdl
  have HSD := Lib.hid (fun (wq : World) (hC : Below w6.heap.size w6 wq) => quiet_below hC (sDigest_any ⟨p.h, p.r, p.st, s8, p.v⟩ wq))
  go_cut [] (fun wx => ∃ q : SVoteD, EvAt2 w cb A n c w.heap.size w1.heap.size (w1.heap.size + 1) wx p q)
  case first =>
    go_region_law (first
      | (go_simp; refine (sDigest_any ⟨p.h, p.r, p.st, s8, p.v⟩ _).mono ?_; rintro e w7 ⟨rfl, hb⟩; have hb : Below w6.heap.size w6 w7 := ⟨hb.os, hb.tape, hb.output, hb.size, hb.block⟩; have M7 := Lib.hid (M6.out.below hb); have ug7 := M7.out.bo2.cell; have uf7 := M7.out.bo2.frozen; have ul7 := M7.out.bo2.lt; clear hb)
      | (go_simp; refine (sSignAs_any _ _ _ HDL.out).mono ?_; rintro e w8 ⟨rfl, hb⟩; have M8 := Lib.hid (M7.out.below hb); have ug8 := M8.out.bo2.cell; have uf8 := M8.out.bo2.frozen; have ul8 := M8.out.bo2.lt; clear hb))
    all_goals
      go_wp2_with fail
      go_meet
      refine ⟨⟨p.h, p.r, p.st, s8, p.v, ⟨(signAsL p.v (digestL ⟨p.h, p.r, p.st, s8, p.v⟩)).toArray⟩⟩, M8.out.turn hRU hTU hcU h0U (by (repeat (first | with_reducible refine Chg.setCell ?_ (by first | exact Nat.le_refl _ | (simp; done) | (simp; omega)) (by first | (simp; done) | (simp; omega)) _ | with_reducible refine Chg.alloc ?_ _ | with_reducible refine Chg.drew ?_)); (with_reducible exact Chg.refl _ _ _)) ?_⟩
      have := M8.out.bo2.set_ 5 (.string ⟨(signAsL p.v (digestL ⟨p.h, p.r, p.st, s8, p.v⟩)).toArray⟩)
      simpa using this
  case rest =>
  obtain ⟨q, hM⟩ := hcut
  obtain ⟨w9, hwc⟩ : ∃ q, q = wc := ⟨_, rfl⟩
  subst hwc
  have M9 := Lib.hid hM
  clear hM M6 ug uf ul HSD HDL
  go_wp2_with fail
  refine (l1Once_any cb A n c 4 _ M9.out.cur (by omega)).mono ?_
  rintro e w10 ⟨v, rfl, ⟨b, rfl⟩, hg, hu⟩
  have M10 := Lib.hid (M9.out.call hg hu hlt hcT hcU)
  clear hg hu M9
  go_upto_if 22 with fail
  go_cut [] (fun wx => ∃ q : SVoteD, EvAt2 w cb A n c w.heap.size w1.heap.size (w1.heap.size + 1) wx p q)
  case first =>
    cases b
    · go_wp2_with fail
      go_meet
      exact ⟨q, M10.out⟩
    · go_wp2_with fail
      refine (l12Vote_any cb A n c _ M10.out.cur).mono ?_
      rintro e w11 ⟨v, rfl, ⟨q2, rfl⟩, hg, hu⟩
      have M11 := Lib.hid (M10.out.call hg hu hlt hcT hcU)
      clear hg hu M10
      have ug := M11.out.bo2.cell
      have uf := M11.out.bo2.frozen
      have ul := M11.out.bo2.lt
      go_wp2_with fail
      go_meet
      refine ⟨q2, M11.out.turn hRU hTU hcU h0U (by (repeat (first | with_reducible refine Chg.setCell ?_ (by first | exact Nat.le_refl _ | (simp; done) | (simp; omega)) (by first | (simp; done) | (simp; omega)) _ | with_reducible refine Chg.alloc ?_ _ | with_reducible refine Chg.drew ?_)); (with_reducible exact Chg.refl _ _ _)) ?_⟩
      have hb := (((((M11.out.bo2.set_ 0 (.int .i64 q2.h)).set_ 1 (.int .i64 q2.r)).set_ 2 (.int .i64 q2.st)).set_ 3 (.string q2.id)).set_ 4 (.int .i64 q2.v)).set_ 5 (.string q2.sig)
      simp only [List.setIfInBounds_toArray, List.set_cons_zero, List.set_cons_succ] at hb
      exact hb
  case rest =>
  obtain ⟨q3, hM⟩ := hcut
  have M12 := Lib.hid hM
  have tg := hM.box.cell
  have tl := hM.box.lt
  have ug := hM.bo2.cell
  have ul := hM.bo2.lt
  have rg := hM.res.cell
  have rf := hM.res.frozen
  clear hM M10
  go_wp2_with fail
  refine bodyPost_ret (v := .agg #[.int .i64 p.h, .int .i64 p.r, .int .i64 p.st, .string p.id, .int .i64 p.v, .string p.sig, .int .i64 q3.h, .int .i64 q3.r, .int .i64 q3.st, .string q3.id, .int .i64 q3.v, .string q3.sig]) (by simp [results, Tryd.results41, go_sem, rg]) rfl ⟨_, rfl, ⟨p, q3, rfl⟩, ?_, ?_⟩
  · exact M12.out.chg.trans_topT (D := w.heap.size) (hi := w.heap.size + 1) (Nat.le_refl _) (by (repeat (first | with_reducible refine Chg.setCell ?_ (by first | exact Nat.le_refl _ | (simp; done) | (simp; omega)) (by first | (simp; done) | (simp; omega)) _ | with_reducible refine Chg.alloc ?_ _ | with_reducible refine Chg.drew ?_)); (with_reducible exact Chg.refl _ _ _))
  · refine M12.out.cur.chg (lo := w.heap.size) (hi := w.heap.size + 1) ?_ hlt
    (repeat (first | with_reducible refine Chg.setCell ?_ (by first | exact Nat.le_refl _ | (simp; done) | (simp; omega)) (by first | (simp; done) | (simp; omega)) _ | with_reducible refine Chg.alloc ?_ _ | with_reducible refine Chg.drew ?_)); (with_reducible exact Chg.refl _ _ _)
theorem Rd.oneS6 (w : World) (p : SVoteD) (g : Nat) (hg : g = w.heap.size) : Rd (w.alloc (.cells #[.int .i64 p.h, .int .i64 p.r, .int .i64 p.st, .string p.id, .int .i64 p.v, .string p.sig] 32)) (w.heap.size + 1) (some ⟨g, 0, none⟩) 1 1 6 (svtC p) := by
  subst hg
  refine ⟨rfl, Nat.le_refl _, by unfold maxLen; omega, fun _ => ⟨w.heap.size, 0, rfl, by omega, fun j hj => ?_⟩⟩
  have hb : Blk (w.alloc (.cells #[.int .i64 p.h, .int .i64 p.r, .int .i64 p.st, .string p.id, .int .i64 p.v, .string p.sig] 32)) w.heap.size 32 #[.int .i64 p.h, .int .i64 p.r, .int .i64 p.st, .string p.id, .int .i64 p.v, .string p.sig] := heap_alloc_new w _
  rw [hb.cell, Nat.zero_add]; simp [svtC]
theorem svtC_oneS (p : SVoteD) : ∀ u ∈ svtC p, u.oneCell' = true := by
  intro u hu
  simp only [svtC, List.mem_cons, List.not_mem_nil, or_false] at hu
  rcases hu with rfl | rfl | rfl | rfl | rfl | rfl <;> rfl
def ListDrew (w : World) (e : Ending) (w' : World) : Prop :=
  ∃ (l : List SVoteD) (Al : Option Addr) (cl : Nat), e = .returned (.slice Al l.length cl) ∧ OwnL svtC 6 32 w' w.heap.size w'.heap.size Al l.length cl l ∧ l.length ≤ 100

set_option maxRecDepth 100000 in
set_option maxHeartbeats 4000000 in
theorem l12List_any (cb : Nat) (A : Option Addr) (n c : Nat) (w : World) (hc : Cur w cb A n c) :
    Calls Tryd.prog 40 #[.pointer (some ⟨cb, 0, none⟩)] w fun e w' => ListDrew w e w' ∧ Chg cb (cb + 1) w w' := by
  obtain ⟨i0, hi, hz0, hz1, hz2⟩ := info_parts infoSVote
  have HC := Lib.hid hc
  have hlt := hc.lt
  clear hc
  go_enter Tryd.func40, Tryd.ntmps40
  go_wp2_with fail
  have hrow : (w.alloc (.cells #[] 32)).ownsRow w.heap.size 32 6 (.slice (some ⟨w.heap.size, 0, none⟩) 0 0) ([] : List SVoteD).length (([] : List SVoteD).flatMap svtC) := World.ownsRow_lit w #[] 0 (Nat.le_refl _) (by decide) rfl
  obtain ⟨A3, c3, e3, hro3⟩ := OwnL.of_own (f := svtC) (l := []) rfl hrow
  simp only [Value.slice.injEq] at e3
  obtain ⟨rfl, -, rfl⟩ := e3
  have HRO := Lib.hid hro3
  clear hrow hro3
  refine (l1Below_any cb A n c 9 _ (HC.out.alloc _) (by omega)).mono ?_
  rintro e w1 ⟨v, rfl, ⟨k0, rfl, hk0, hk1⟩, hg, hu⟩
  simp at hk1
  obtain ⟨k0, rfl⟩ := Int.eq_ofNat_of_zero_le hk0
  have HU1 := Lib.hid hu
  have HC1 := Lib.hid (((Chg.refl cb (cb + 1) w).alloc _).trans hg)
  have HRO1 := Lib.hid ((HRO.out.chg hg (.inr (by omega))).wide (hi' := w1.heap.size) (Nat.le_refl _) hg.size)
  have hs1 : w.heap.size < w1.heap.size := by have := hg.size; simp at this; omega
  clear hg hu HC HRO
  go_wp2_with fail
  go_loopw [3, 4] (fun lv iv wr => ∃ (k : Nat) (l : List SVoteD) (Al : Option Addr) (cl : Nat), l.length + k ≤ 50 ∧ iv = .int .i64 k ∧ lv = .slice Al l.length cl ∧ OwnL svtC 6 32 wr w.heap.size wr.heap.size Al l.length cl l ∧ Cur wr cb A n c ∧ Chg cb (cb + 1) w wr ∧ w.heap.size < wr.heap.size) (fun _ iv _ => (intOf iv).toNat)
  case atStart => exact ⟨k0, [], _, _, by simp; omega, rfl, rfl, HRO1.out, HU1.out, HC1.out, hs1⟩
  case round =>
    obtain ⟨k, l, Al, cl, hkl, rfl, rfl, hro, hu, hcg, hsz⟩ := hrel
    have HRO2 := Lib.hid hro; have HU2 := Lib.hid hu; have HC2 := Lib.hid hcg
    clear hro hu hcg HRO1 HU1 HC1
    by_cases hk : 0 < k
    · go_wp2_with fail
      refine (l12Vote_any cb A n c _ HU2.out).mono ?_
      rintro e w3 ⟨v, rfl, ⟨p, rfl⟩, hg, hu⟩
      have HRO3 := Lib.hid ((HRO2.out.chg hg (.inr (by omega))).wide (hi' := w3.heap.size) (Nat.le_refl _) hg.size)
      have HU3 := Lib.hid hu
      have HC3 := Lib.hid (HC2.out.trans hg)
      have hs3 : w.heap.size < w3.heap.size := by have := hg.size; omega
      have hll : l.length ≤ 50 := by omega
      clear hg hu HRO2 HU2 HC2
      go_wp2_with (at_builtin; refine wpList_app_rd _ rfl _ _ _ rfl w.heap.size 32 i0 _ 6 64 Tryd.underlying42 hi hz0 hz1 hz2 rfl (by decide) (.slice Al l.length cl) l.length (l.flatMap svtC) rfl (by exact (HRO3.out.owns svtC_len).alloc _) _ _ 1 1 _ rfl (by exact Rd.oneS6 w3 p _ (by first | rfl | simp)) (svtC_oneS _) (by unfold maxLen; omega) (by omega) (by first | (simp; done) | (simp; omega)) ?_)
      intro v2 w5 hown hg hat
      have hroA := (HRO3.out.below ((Below.refl _ _).alloc (Nat.le_refl _) (.cells #[.int .i64 p.h, .int .i64 p.r, .int .i64 p.st, .string p.id, .int .i64 p.v, .string p.sig] 32)) (Nat.le_refl _)).wide (lo' := w.heap.size) (hi' := (w3.alloc (.cells #[.int .i64 p.h, .int .i64 p.r, .int .i64 p.st, .string p.id, .int .i64 p.v, .string p.sig] 32)).heap.size) (Nat.le_refl _) (by simp)
      have e5 : l.flatMap svtC ++ svtC p = (l ++ [p]).flatMap svtC := by rw [List.flatMap_append]; simp
      rw [e5] at hown
      obtain ⟨A5, c5, rfl, ho5⟩ := OwnL.of_own (f := svtC) (n := l.length + 1) (l := l ++ [p]) (by simp) hown
      have hgc : Chg w.heap.size (w3.alloc (.cells #[.int .i64 p.h, .int .i64 p.r, .int .i64 p.st, .string p.id, .int .i64 p.v, .string p.sig] 32)).heap.size (w3.alloc (.cells #[.int .i64 p.h, .int .i64 p.r, .int .i64 p.st, .string p.id, .int .i64 p.v, .string p.sig] 32)) w5 := grown_chg hg fun g e => hroA.block g e
      have HU5 := Lib.hid ((HU3.out.alloc (.cells #[.int .i64 p.h, .int .i64 p.r, .int .i64 p.st, .string p.id, .int .i64 p.v, .string p.sig] 32)).chg hgc hlt)
      have HC5 := Lib.hid ((HC3.out.alloc (.cells #[.int .i64 p.h, .int .i64 p.r, .int .i64 p.st, .string p.id, .int .i64 p.v, .string p.sig] 32)).trans_topT (Nat.le_refl _) hgc)
      have HO5 : Hid (OwnL svtC 6 32 w5 w.heap.size w5.heap.size A5 (l ++ [p]).length c5 (l ++ [p])) := Lib.hid (by simpa using ho5)
      have hs5 : w.heap.size < w5.heap.size := by have := hgc.size; simp at this; omega
      clear hown hg hat hroA e5 ho5 hgc HRO3 HU3 HC3
      go_wp2_with fail
      go_roundw
      case rel => exact ⟨k - 1, l ++ [p], _, c5, by simp; omega, by go_num, by simp, HO5.out, HU5.out, HC5.out, hs5⟩
      case measure => simp [intOf]; omega
    · obtain rfl : k = 0 := by omega
      go_wp2_with fail
      go_ret
      exact ⟨⟨l, Al, cl, rfl, HRO2.out, by omega⟩, HC2.out⟩
set_option maxHeartbeats 1000000 in
theorem DrawBlame_any (A : Option Addr) (n c : Nat) (l : List UInt8) (w : World) (hl : RdL octC 1 w w.heap.size A n c l) (hn : n ≤ 1048576) :
    Calls Tryd.prog 27 #[.slice A n c] w fun e w' => ListDrew w e w' ∧ Below w.heap.size w w' := by
  have HL := Lib.hid hl
  clear hl
  go_enter Tryd.func27, Tryd.ntmps27
  go_wp2_with fail
  refine (l1New_any A n c l _ HL.out hn).mono ?_
  rintro e w1 ⟨rfl, hu, hb⟩
  have HU1 := Lib.hid hu
  have B1 := Lib.hid hb
  have hlt1 := hu.lt
  clear hu hb
  go_wp2_with fail
  refine (l12List_any w.heap.size A n c _ HU1.out).mono ?_
  rintro e w2 ⟨⟨la, Al, cl, rfl, ho, hll⟩, hg⟩
  have B2 := Lib.hid (B1.out.trans (hg.below (B := w.heap.size) (Nat.le_refl _) (by omega)))
  have HO2 := Lib.hid ho
  clear hg ho B1
  go_wp2_with fail
  go_ret
  exact ⟨⟨la, Al, cl, rfl, HO2.out.wide (by omega) (Nat.le_refl _), hll⟩, B2.out⟩
set_option maxHeartbeats 1000000 in
theorem DrawEvidOk_any (A : Option Addr) (n c : Nat) (l : List UInt8) (w : World) (hl : RdL octC 1 w w.heap.size A n c l) (hn : n ≤ 1048576) :
    Calls Tryd.prog 30 #[.slice A n c] w fun e w' => (∃ p q : SVoteD, e = .returned (.agg #[.int .i64 p.h, .int .i64 p.r, .int .i64 p.st, .string p.id, .int .i64 p.v, .string p.sig, .int .i64 q.h, .int .i64 q.r, .int .i64 q.st, .string q.id, .int .i64 q.v, .string q.sig])) ∧ Below w.heap.size w w' := by
  have HL := Lib.hid hl
  clear hl
  go_enter Tryd.func30, Tryd.ntmps30
  go_wp2_with fail
  refine (l1New_any A n c l _ (by exact (HL.out.alloc (Nat.le_refl _) _).more (by simp)) hn).mono ?_
  rintro e w1 ⟨rfl, hu, hb⟩
  have hcb : (w.alloc (.cells #[.int .i64 0, .int .i64 0, .int .i64 0, .string ⟨#[]⟩, .int .i64 0, .string ⟨#[]⟩, .int .i64 0, .int .i64 0, .int .i64 0, .string ⟨#[]⟩, .int .i64 0, .string ⟨#[]⟩] 34)).heap.size = w.heap.size + 1 := by simp
  have hs1 : w.heap.size + 1 ≤ w1.heap.size := by have := hb.size; simpa using this
  have HR1 : Hid (Blk w1 w.heap.size 34 #[.int .i64 0, .int .i64 0, .int .i64 0, .string ⟨#[]⟩, .int .i64 0, .string ⟨#[]⟩, .int .i64 0, .int .i64 0, .int .i64 0, .string ⟨#[]⟩, .int .i64 0, .string ⟨#[]⟩]) := (show Blk (w.alloc (.cells #[.int .i64 0, .int .i64 0, .int .i64 0, .string ⟨#[]⟩, .int .i64 0, .string ⟨#[]⟩, .int .i64 0, .int .i64 0, .int .i64 0, .string ⟨#[]⟩, .int .i64 0, .string ⟨#[]⟩] 34)) w.heap.size 34 #[.int .i64 0, .int .i64 0, .int .i64 0, .string ⟨#[]⟩, .int .i64 0, .string ⟨#[]⟩, .int .i64 0, .int .i64 0, .int .i64 0, .string ⟨#[]⟩, .int .i64 0, .string ⟨#[]⟩] from heap_alloc_new w _).below hb (by simp)
  have HB1 : Hid (Below w.heap.size w w1) := ((Below.refl _ _).alloc (Nat.le_refl _) _).trans (hb.mono (by simp))
  have hu' : Cur w1 (w.heap.size + 1) A n c := by rw [← hcb]; exact hu
  have HU1 := Lib.hid hu'
  have hlt1 := hu'.lt
  rw [hcb]
  clear hb hu hu' hcb
  go_wp2_with fail
  refine (l12Evid_any (w.heap.size + 1) A n c _ HU1.out).mono ?_
  rintro e w2 ⟨v, rfl, ⟨p, q, rfl⟩, hg, hu⟩
  have HR2 := Lib.hid (show Blk w2 w.heap.size _ _ from (hg.block _ HR1.out.lt (.inl (by omega))).trans HR1.out)
  have HB2 : Hid (Below w.heap.size w w2) := HB1.out.trans (hg.below (by omega) (by omega))
  clear hg hu HR1 HB1 HU1
  have rg := HR2.out.cell
  have rf := HR2.out.frozen
  have rl := HR2.out.lt
  go_wp2_with fail
  refine bodyPost_ret (v := .agg #[.int .i64 p.h, .int .i64 p.r, .int .i64 p.st, .string p.id, .int .i64 p.v, .string p.sig, .int .i64 q.h, .int .i64 q.r, .int .i64 q.st, .string q.id, .int .i64 q.v, .string q.sig]) (by simp [results, Tryd.results30, go_sem, rg]) rfl ⟨⟨p, q, rfl⟩, ?_⟩
  (repeat (first | with_reducible refine Below.setCell ?_ (by first | exact Nat.le_refl _ | (simp; done) | (simp; omega)) _ | with_reducible refine Below.alloc ?_ (by first | exact Nat.le_refl _ | (simp; done) | (simp; omega)) _ | with_reducible refine Below.drew ?_)); (with_reducible exact HB2.out)
end Go.Proofs.YteaggbbimhpolaaDoor
