/- Draws of a net's acts: l17Act. (written by wip/drawact.py) -/
import Derived.Deep.RegionWith
import Derived.Deep.CutBlock
import Derived.Deep.DeepCutAuto
import Derived.WalkKit
import Derived.WalkSpells
import Derived.WalkLawsBesides
import Derived.Lib.Hide
import Derived.Test.YtjgaelnonacdkaaG05
import Derived.Test.YtjgaelnonacdkaaMNetS
import Derived.Test.YtjgaelnonacdkaaG41
namespace Go.Proofs.Ytjgaelnonacdkaa
open Go.RowKit

def actA (a : ActD) : Array Value := #[.int .i64 a.k, .int .i64 a.a, .int .i64 a.b, .int .i64 a.m.k, .int .i64 a.m.r, .int .i64 a.m.v, .int .i64 a.m.p, .int .i64 a.m.f]
def zeroAA : Array Value := #[.int .i64 0, .int .i64 0, .int .i64 0, .int .i64 0, .int .i64 0, .int .i64 0, .int .i64 0, .int .i64 0]
def IsAct (v : Value) : Prop := ∃ a : ActD, v = .agg (actA a)
/-- the act's box, the result's and the net's, beside the cursor -/
structure DActAt (w0 : World) (cb : Nat) (A : Option Addr) (n c X R T : Nat) (XC : Array Value) (wx : World) (a : ActD) : Prop where
  box : Blk wx T 51 (actA a)
  res : Blk wx R 51 zeroAA
  par : Blk wx X 27 XC
  cur : Cur wx cb A n c
  chg : Chg cb (cb + 1) w0 wx
section
variable {w0 wx wy : World} {cb n c X R T : Nat} {A : Option Addr} {XC : Array Value} {a a' : ActD}
theorem Chg.trans_topA {cb D hi : Nat} {w w1 w2 : World} (h : Chg cb (cb + 1) w w1) (hD : w.heap.size ≤ D) (k : Chg D hi w1 w2) : Chg cb (cb + 1) w w2 :=
  ⟨k.os.trans h.os, k.tape.trans h.tape, k.output.trans h.output, Nat.le_trans h.size k.size, fun q h1 h2 => (k.block q (by have := h.size; omega) (.inl (by omega))).trans (h.block q h1 h2)⟩
theorem DActAt.call (h : DActAt w0 cb A n c X R T XC wx a) (hg : Chg cb (cb + 1) wx wy) (hu : Cur wy cb A n c) (hX : cb < X) (hR : cb < R) (hT : cb < T) : DActAt w0 cb A n c X R T XC wy a :=
  ⟨(hg.block T h.box.lt (.inr (by omega))).trans h.box, (hg.block R h.res.lt (.inr (by omega))).trans h.res, (hg.block X h.par.lt (.inr (by omega))).trans h.par, hu, h.chg.trans hg⟩
theorem DActAt.turn (h : DActAt w0 cb A n c X R T XC wx a) (hX : X < T) (hR : R < T) (hc : cb < T) (h0 : w0.heap.size ≤ T) (hch : Chg T (T + 1) wx wy) (hb : Blk wy T 51 (actA a')) : DActAt w0 cb A n c X R T XC wy a' :=
  ⟨hb, (hch.block R h.res.lt (.inl hR)).trans h.res, (hch.block X h.par.lt (.inl hX)).trans h.par, h.cur.chg hch hc, h.chg.trans_topA h0 hch⟩
theorem DActAt.set (h : DActAt w0 cb A n c X R T XC wx a) (hX : X < T) (hR : R < T) (hc : cb < T) (h0 : w0.heap.size ≤ T) (j : Nat) (v : Value) (a' : ActD) (e : (actA a).setIfInBounds j v = actA a') : DActAt w0 cb A n c X R T XC (wx.setCell ⟨T, j, none⟩ v) a' := by
  have hb := h.box.set_ j v
  rw [e] at hb
  exact h.turn hX hR hc h0 ((Chg.refl _ _ _).setCell (by simp) (by simp) _) hb
end

set_option maxRecDepth 100000 in
set_option maxHeartbeats 4000000 in
theorem l17Act_any (cb : Nat) (A : Option Addr) (n c : Nat) (lo hi : Nat) (Ap : Option Addr) (cp : Nat) (Pp : Option Addr) (pn dp : Nat) (ln : List NodeD) (w : World) (hc : Cur w cb A n c) (hcl : cb < lo) (hhi : hi ≤ w.heap.size) (h3 : ln.length = 3) (hp : pn ≤ 1048576) (hl : NodesOwn w lo hi Ap ln.length cp ln) :
    Calls Try.prog 53 #[.pointer (some ⟨cb, 0, none⟩), .agg #[.slice Ap ln.length cp, .slice Pp pn dp]] w (Drew cb A n c IsAct w) := by
  have HC := Lib.hid hc
  have hlt := hc.lt
  have HL := Lib.hid hl
  have hn3 : ln.length ≤ 3 := by omega
  have hn3' : 3 ≤ ln.length := by omega
  clear hc hl h3
  go_enter Try.func53, Try.ntmps53
  go_wp2_with fail
  refine (l1Below_any cb A n c 3 _ ((HC.out.alloc _).alloc _) (by omega)).mono ?_
  rintro e w1 ⟨v, rfl, ⟨x1, rfl, hx0, hxx⟩, hg, hu⟩
  simp at hxx
  have hX1 : Blk w1 w.heap.size 27 #[.slice Ap ln.length cp, .slice Pp pn dp] := (hg.block _ (by simp; omega) (.inr (by omega))).trans ((show Blk (w.alloc _) w.heap.size _ _ from heap_alloc_new w _).alloc _)
  have hR1 : Blk w1 (w.heap.size + 1) 51 zeroAA := (hg.block _ (by simp) (.inr (by omega))).trans (by
    have h := heap_alloc_new (w.alloc (.cells #[.slice Ap ln.length cp, .slice Pp pn dp] 27)) (.cells zeroAA 51)
    rw [World.size_alloc] at h
    exact h)
  have C1 : Chg cb (cb + 1) w w1 := (((Chg.refl cb (cb + 1) w).alloc _).alloc _).trans hg
  have hs1 := hR1.lt
  go_upto_region 2 with fail
  obtain ⟨w2, hw2⟩ : ∃ q, q = w1.alloc (.cells (actA ⟨0, 1 + x1, 0, ⟨0, 0, 0, 0, 0⟩⟩) 51) := ⟨_, rfl⟩
  have hb2 : Below w1.heap.size w1 w2 := by rw [hw2]; exact (Below.refl _ _).alloc (Nat.le_refl _) _
  have M2 : Hid (DActAt w cb A n c w.heap.size (w.heap.size + 1) w1.heap.size #[.slice Ap ln.length cp, .slice Pp pn dp] w2 ⟨0, 1 + x1, 0, ⟨0, 0, 0, 0, 0⟩⟩) := Lib.hid
    ⟨by rw [hw2]; exact heap_alloc_new w1 _, hR1.below hb2 hR1.lt, hX1.below hb2 hX1.lt, hu.below hb2 hu.lt (Nat.le_refl _), C1.below_trans hb2⟩
  unfold actA at hw2
  rw [← hw2]
  clear hw2 hb2 hg hu hX1 hR1 C1 HC
  have hcT : cb < w1.heap.size := by omega
  have hXT : w.heap.size < w1.heap.size := by omega
  have hRT : w.heap.size + 1 < w1.heap.size := by omega
  have h0T : w.heap.size ≤ w1.heap.size := by omega
  have hcX : cb < w.heap.size := hlt
  have hcR : cb < w.heap.size + 1 := by omega
  go_wp2_with fail
  refine (l1Below_any cb A n c 12 _ M2.out.cur (by omega)).mono ?_
  rintro e w3 ⟨v, rfl, ⟨x2, rfl, hy0, hyy⟩, hg, hu⟩
  simp at hyy
  have M3 := Lib.hid (M2.out.call hg hu hcX hcR hcT)
  clear hg hu M2
  go_upto_block 0 with fail
  go_cut [] (fun wx => ∃ a, DActAt w cb A n c w.heap.size (w.heap.size + 1) w1.heap.size #[.slice Ap ln.length cp, .slice Pp pn dp] wx a)
  case first =>
    have tg := M3.out.box.cell
    have tf := M3.out.box.frozen
    have tl := M3.out.box.lt
    have xg := M3.out.par.cell
    have xl := M3.out.par.lt
    unfold actA at tg
    by_cases h0 : x2 = 0
    · subst h0
      go_wp2_with fail
      go_meet
      exact ⟨_, M3.out.set hXT hRT hcT h0T 0 (.int .i64 1) ⟨1, 1 + x1, 0, ⟨0, 0, 0, 0, 0⟩⟩ (by simp [actA])⟩
    by_cases h1 : x2 = 1
    · subst h1
      have HL3 := Lib.hid ((HL.out.chg M3.out.chg (.inr (by omega))).rd)
      rcases (by omega : x1 = 0 ∨ x1 = 1 ∨ x1 = 2) with rfl | rfl | rfl
      · obtain ⟨nb, off, s, A1, n1, c1, l, e0, hb1, hpn, hr, d0, d1, d2, d3, d4, d5, d6, d7, d8, d9⟩ := HL3.out.at_ (k := 0) (by omega)
        subst e0
        have nl : nb < w3.heap.size := by have := M3.out.chg.size; omega
        clear hpn hr d0 d1 d3 d4 d5 d6 d7 d8 d9 HL3 HL
        have hlen : (0 : Int) < ln.length := by omega
        go_wp2_with fail
        go_meet
        exact ⟨_, (M3.out.set hXT hRT hcT h0T 0 (.int .i64 3) ⟨3, 1 + 0, 0, ⟨0, 0, 0, 0, 0⟩⟩ (by simp [actA])).set hXT hRT hcT h0T 2 (.int .i64 s.step) ⟨3, 1 + 0, s.step, ⟨0, 0, 0, 0, 0⟩⟩ (by simp [actA])⟩
      · obtain ⟨nb, off, s, A1, n1, c1, l, e0, hb1, hpn, hr, d0, d1, d2, d3, d4, d5, d6, d7, d8, d9⟩ := HL3.out.at_ (k := 1) (by omega)
        subst e0
        have nl : nb < w3.heap.size := by have := M3.out.chg.size; omega
        clear hpn hr d0 d1 d3 d4 d5 d6 d7 d8 d9 HL3 HL
        have hlen : (1 : Int) < ln.length := by omega
        go_wp2_with fail
        go_meet
        exact ⟨_, (M3.out.set hXT hRT hcT h0T 0 (.int .i64 3) ⟨3, 1 + 1, 0, ⟨0, 0, 0, 0, 0⟩⟩ (by simp [actA])).set hXT hRT hcT h0T 2 (.int .i64 s.step) ⟨3, 1 + 1, s.step, ⟨0, 0, 0, 0, 0⟩⟩ (by simp [actA])⟩
      · obtain ⟨nb, off, s, A1, n1, c1, l, e0, hb1, hpn, hr, d0, d1, d2, d3, d4, d5, d6, d7, d8, d9⟩ := HL3.out.at_ (k := 2) (by omega)
        subst e0
        have nl : nb < w3.heap.size := by have := M3.out.chg.size; omega
        clear hpn hr d0 d1 d3 d4 d5 d6 d7 d8 d9 HL3 HL
        have hlen : (2 : Int) < ln.length := by omega
        go_wp2_with fail
        go_meet
        exact ⟨_, (M3.out.set hXT hRT hcT h0T 0 (.int .i64 3) ⟨3, 1 + 2, 0, ⟨0, 0, 0, 0, 0⟩⟩ (by simp [actA])).set hXT hRT hcT h0T 2 (.int .i64 s.step) ⟨3, 1 + 2, s.step, ⟨0, 0, 0, 0, 0⟩⟩ (by simp [actA])⟩
    by_cases h2 : x2 = 2 ∨ x2 = 3
    · have hmsg : Hid (True) := Lib.hid trivial
      rcases h2 with rfl | rfl
      · go_wp2_with fail
        have M4 := Lib.hid (M3.out.set hXT hRT hcT h0T 0 (.int .i64 4) ⟨4, 1 + x1, 0, ⟨0, 0, 0, 0, 0⟩⟩ (by simp [actA]))
        clear M3 tg tf tl xg xl
        refine (l16Msg_any cb A n c _ M4.out.cur).mono ?_
        rintro e w4 ⟨v, rfl, ⟨mk, mr, mv, mp, mf, rfl⟩, hg, hu⟩
        have M5 := Lib.hid (M4.out.call hg hu hcX hcR hcT)
        clear hg hu M4
        have tg := M5.out.box.cell
        have tf := M5.out.box.frozen
        have tl := M5.out.box.lt
        unfold actA at tg
        have M6 := Lib.hid ((((((M5.out.set hXT hRT hcT h0T 3 (.int .i64 mk) ⟨4, 1 + x1, 0, ⟨mk, 0, 0, 0, 0⟩⟩ (by simp [actA])).set hXT hRT hcT h0T 4 (.int .i64 mr) ⟨4, 1 + x1, 0, ⟨mk, mr, 0, 0, 0⟩⟩ (by simp [actA])).set hXT hRT hcT h0T 5 (.int .i64 mv) ⟨4, 1 + x1, 0, ⟨mk, mr, mv, 0, 0⟩⟩ (by simp [actA])).set hXT hRT hcT h0T 6 (.int .i64 mp) ⟨4, 1 + x1, 0, ⟨mk, mr, mv, mp, 0⟩⟩ (by simp [actA])).set hXT hRT hcT h0T 7 (.int .i64 mf) ⟨4, 1 + x1, 0, ⟨mk, mr, mv, mp, mf⟩⟩ (by simp [actA])).set hXT hRT hcT h0T 7 (.int .i64 4) ⟨4, 1 + x1, 0, ⟨mk, mr, mv, mp, 4⟩⟩ (by simp [actA]))
        by_cases hk : mk = 1
        · subst hk
          go_wp2_with fail
          go_meet
          exact ⟨_, M6.out.set hXT hRT hcT h0T 4 (.int .i64 3) ⟨4, 1 + x1, 0, ⟨1, 3, mv, mp, 4⟩⟩ (by simp [actA])⟩
        · go_wp2_with fail
          go_meet
          exact ⟨_, M6.out⟩
      · go_wp2_with fail
        have M4 := Lib.hid (M3.out.set hXT hRT hcT h0T 0 (.int .i64 4) ⟨4, 1 + x1, 0, ⟨0, 0, 0, 0, 0⟩⟩ (by simp [actA]))
        clear M3 tg tf tl xg xl
        refine (l16Msg_any cb A n c _ M4.out.cur).mono ?_
        rintro e w4 ⟨v, rfl, ⟨mk, mr, mv, mp, mf, rfl⟩, hg, hu⟩
        have M5 := Lib.hid (M4.out.call hg hu hcX hcR hcT)
        clear hg hu M4
        have tg := M5.out.box.cell
        have tf := M5.out.box.frozen
        have tl := M5.out.box.lt
        unfold actA at tg
        have M6 := Lib.hid ((((((M5.out.set hXT hRT hcT h0T 3 (.int .i64 mk) ⟨4, 1 + x1, 0, ⟨mk, 0, 0, 0, 0⟩⟩ (by simp [actA])).set hXT hRT hcT h0T 4 (.int .i64 mr) ⟨4, 1 + x1, 0, ⟨mk, mr, 0, 0, 0⟩⟩ (by simp [actA])).set hXT hRT hcT h0T 5 (.int .i64 mv) ⟨4, 1 + x1, 0, ⟨mk, mr, mv, 0, 0⟩⟩ (by simp [actA])).set hXT hRT hcT h0T 6 (.int .i64 mp) ⟨4, 1 + x1, 0, ⟨mk, mr, mv, mp, 0⟩⟩ (by simp [actA])).set hXT hRT hcT h0T 7 (.int .i64 mf) ⟨4, 1 + x1, 0, ⟨mk, mr, mv, mp, mf⟩⟩ (by simp [actA])).set hXT hRT hcT h0T 7 (.int .i64 4) ⟨4, 1 + x1, 0, ⟨mk, mr, mv, mp, 4⟩⟩ (by simp [actA]))
        by_cases hk : mk = 1
        · subst hk
          go_wp2_with fail
          go_meet
          exact ⟨_, M6.out.set hXT hRT hcT h0T 4 (.int .i64 3) ⟨4, 1 + x1, 0, ⟨1, 3, mv, mp, 4⟩⟩ (by simp [actA])⟩
        · go_wp2_with fail
          go_meet
          exact ⟨_, M6.out⟩
    have h2a : ¬ x2 = 2 := fun e => h2 (.inl e)
    have h2b : ¬ x2 = 3 := fun e => h2 (.inr e)
    by_cases hpn : (0 : Int) < pn
    · go_wp2_with fail
      have M4 := Lib.hid (M3.out.set hXT hRT hcT h0T 0 (.int .i64 2) ⟨2, 1 + x1, 0, ⟨0, 0, 0, 0, 0⟩⟩ (by simp [actA]))
      clear M3 tg tf tl xg xl
      refine (l1Below_any cb A n c pn _ M4.out.cur (by omega)).mono ?_
      rintro e w4 ⟨v, rfl, ⟨x3, rfl, _, _⟩, hg, hu⟩
      have M5 := Lib.hid (M4.out.call hg hu hcX hcR hcT)
      clear hg hu M4
      have tg := M5.out.box.cell
      have tf := M5.out.box.frozen
      have tl := M5.out.box.lt
      unfold actA at tg
      go_wp2_with fail
      go_meet
      exact ⟨_, M5.out.set hXT hRT hcT h0T 2 (.int .i64 x3) ⟨2, 1 + x1, x3, ⟨0, 0, 0, 0, 0⟩⟩ (by simp [actA])⟩
    · go_wp2_with fail
      go_meet
      exact ⟨_, M3.out.set hXT hRT hcT h0T 0 (.int .i64 2) ⟨2, 1 + x1, 0, ⟨0, 0, 0, 0, 0⟩⟩ (by simp [actA])⟩
  case rest =>
  obtain ⟨a, hM⟩ := hcut
  have M6 := Lib.hid hM
  clear hM M3
  go_wp2_with fail
  refine (l1Once_any cb A n c 30 _ M6.out.cur (by omega)).mono ?_
  rintro e w7 ⟨v, rfl, ⟨b, rfl⟩, hg, hu⟩
  have M7 := Lib.hid (M6.out.call hg hu hcX hcR hcT)
  clear hg hu M6
  go_upto_if 54 with fail
  go_cut [] (fun wx => ∃ a, DActAt w cb A n c w.heap.size (w.heap.size + 1) w1.heap.size #[.slice Ap ln.length cp, .slice Pp pn dp] wx a)
  case first =>
    cases b
    · go_wp2_with fail
      go_meet
      exact ⟨a, M7.out⟩
    · go_wp2_with fail
      refine (l1Below_any cb A n c 6 _ M7.out.cur (by omega)).mono ?_
      rintro e w8 ⟨v, rfl, ⟨x3, rfl, _, _⟩, hg, hu⟩
      have M8 := Lib.hid (M7.out.call hg hu hcX hcR hcT)
      clear hg hu M7
      have tg := M8.out.box.cell
      have tf := M8.out.box.frozen
      have tl := M8.out.box.lt
      unfold actA at tg
      go_wp2_with fail
      have M9 := Lib.hid (M8.out.set hXT hRT hcT h0T 0 (.int .i64 x3) ⟨x3, a.a, a.b, a.m⟩ (by simp [actA]))
      clear M8 tg tf tl
      refine (l1Below_any cb A n c 5 _ M9.out.cur (by omega)).mono ?_
      rintro e w9 ⟨v, rfl, ⟨x4, rfl, _, _⟩, hg, hu⟩
      have M10 := Lib.hid (M9.out.call hg hu hcX hcR hcT)
      clear hg hu M9
      have tg := M10.out.box.cell
      have tf := M10.out.box.frozen
      have tl := M10.out.box.lt
      unfold actA at tg
      go_wp2_with fail
      go_meet
      exact ⟨_, M10.out.set hXT hRT hcT h0T 1 (.int .i64 x4) ⟨x3, x4, a.b, a.m⟩ (by simp [actA])⟩
  case rest =>
  obtain ⟨a2, hM⟩ := hcut
  have M12 := Lib.hid hM
  have tg := hM.box.cell
  have rg := hM.res.cell
  have rf := hM.res.frozen
  have tl := hM.box.lt
  unfold actA at tg
  unfold zeroAA at rg
  clear hM M7
  go_wp2_with fail
  refine bodyPost_ret (v := .agg (actA a2)) (by simp [results, Try.results53, go_sem, rg, actA]) rfl ⟨_, rfl, ⟨_, rfl⟩, ?_, ?_⟩
  · exact M12.out.chg.trans_topA (D := w.heap.size + 1) (hi := w.heap.size + 1 + 1) (by omega) (by (repeat (first | with_reducible refine Chg.setCell ?_ (by first | exact Nat.le_refl _ | (simp; done) | (simp; omega)) (by first | (simp; done) | (simp; omega)) _ | with_reducible refine Chg.alloc ?_ _ | with_reducible refine Chg.drew ?_)); (with_reducible exact Chg.refl _ _ _))
  · refine M12.out.cur.chg (lo := w.heap.size + 1) (hi := w.heap.size + 1 + 1) ?_ hcR
    (repeat (first | with_reducible refine Chg.setCell ?_ (by first | exact Nat.le_refl _ | (simp; done) | (simp; omega)) (by first | (simp; done) | (simp; omega)) _ | with_reducible refine Chg.alloc ?_ _ | with_reducible refine Chg.drew ?_)); (with_reducible exact Chg.refl _ _ _)
end Go.Proofs.Ytjgaelnonacdkaa
