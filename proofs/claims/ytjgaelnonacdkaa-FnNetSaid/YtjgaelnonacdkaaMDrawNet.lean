/- Draws of nets: l17Some, DrawNetDo. (written by wip/drawnet.py) -/
import Derived.WalkKit
import Derived.WalkSpells
import Derived.WalkLawsBesides
import Derived.Lib.Hide
import Derived.Test.YtjgaelnonacdkaaMDrawStory
import Derived.Test.YtjgaelnonacdkaaMDrawNode4
import Derived.Test.YtjgaelnonacdkaaG05
import Derived.Test.YtjgaelnonacdkaaMNodesMk
namespace Go.Proofs.Ytjgaelnonacdkaa
open Go.RowKit

section
variable {α : Type} {f : α → List Value} {w w' : World} {size B n c x y : Nat} {A : Option Addr} {l : List α}
theorem RdL.chg_at (h : RdL f size w B A n c l) (hp : ∀ a, A = some a → a.block < x ∨ y ≤ a.block) (hB : B ≤ w.heap.size) (hc : Chg x y w w') : RdL f size w' B A n c l := by
  obtain ⟨h1, h2, h3, h4, h5⟩ := h
  refine ⟨h1, h2, h3, h4, fun hn => ?_⟩
  obtain ⟨b, off, e, hb, hq⟩ := h5 hn
  exact ⟨b, off, e, hb, fun j hj => (hc.cell (k := b) (Nat.lt_of_lt_of_le hb hB) (hp _ e)).trans (hq j hj)⟩
theorem RdL.dropN {k b off : Nat} (hf : ∀ x, (f x).length = size) (h : RdL f size w B (some ⟨b, off, none⟩) n c l) (hk : k ≤ n) : RdL f size w B (some ⟨b, off + k * size, none⟩) (n - k) (c - k) (l.drop k) := by
  obtain ⟨h1, h2, h3, h4, h5⟩ := h
  have hl : (l.drop k).length = n - k := by rw [List.length_drop]; omega
  refine ⟨hl, by rw [flat_len f size _ (fun x _ => hf x), hl], by omega, by omega, fun hn => ?_⟩
  obtain ⟨b', off', e, hb, hc⟩ := h5 (by omega)
  simp only [Option.some.injEq, Addr.mk.injEq, and_true] at e
  obtain ⟨rfl, rfl⟩ := e
  refine ⟨b, off + k * size, rfl, hb, fun j hj => ?_⟩
  have hm : k * size + j < n * size := by
    have : (n - k) * size = n * size - k * size := Nat.sub_mul _ _ _
    omega
  rw [Nat.add_assoc, hc _ hm]
  have hsp : l.flatMap f = (l.take k).flatMap f ++ (l.drop k).flatMap f := by rw [← List.flatMap_append, List.take_append_drop]
  have ht : ((l.take k).flatMap f).length = k * size := by rw [flat_len f size _ (fun x _ => hf x), List.length_take]; congr 1; omega
  rw [hsp, List.getElem?_append_right (by omega), ht]
  congr 1; omega
end
theorem RdL.none_' {α : Type} {f : α → List Value} {w : World} {B size m : Nat} {A : Option Addr} {l : List α} (hl : l.length = m) (h0 : m = 0) : RdL f size w B A m 0 l := by
  subst h0
  obtain rfl := List.eq_nil_of_length_eq_zero hl
  exact ⟨rfl, by simp, Nat.le_refl _, Nat.zero_le _, fun h => absurd h (by omega)⟩
/-- a drawn net: its nodes in a stretch of their own, its pool to be read behind lo -/
structure NetD (w : World) (lo : Nat) (A : Option Addr) (c : Nat) (P : Option Addr) (d : Nat) (ln : List NodeD) (lp : List NMsgD) : Prop where
  nodes : ∃ hi, hi ≤ w.heap.size ∧ NodesOwn w lo hi A ln.length c ln
  pool : RdL msgC 5 w w.heap.size P lp.length d lp
  at_ : ∀ a, P = some a → lo ≤ a.block
  n3 : ln.length = 3
  p151 : lp.length ≤ 151
section
variable {w w' : World} {lo hi a b c d : Nat} {A P : Option Addr} {ln : List NodeD} {lp : List NMsgD}
theorem NetD.below (h : NetD w lo A c P d ln lp) (hb : Below w.heap.size w w') : NetD w' lo A c P d ln lp := by
  obtain ⟨⟨hi, h1, h2⟩, h3, h4, h5, h6⟩ := h
  exact ⟨⟨hi, Nat.le_trans h1 hb.size, h2.chg (Chg.of_below (lo := 0) (hi := 0) hb) (.inr (Nat.zero_le _))⟩, (h3.below hb (Nat.le_refl _)).more hb.size, h4, h5, h6⟩
theorem NetD.chg (h : NetD w lo A c P d ln lp) (hc : Chg a b w w') (hb : b ≤ lo) : NetD w' lo A c P d ln lp := by
  obtain ⟨⟨hi, h1, h2⟩, h3, h4, h5, h6⟩ := h
  exact ⟨⟨hi, Nat.le_trans h1 hc.size, h2.chg hc (.inr hb)⟩, (h3.chg_at (fun q e => .inr (Nat.le_trans hb (h4 q e))) (Nat.le_refl _) hc).more hc.size, h4, h5, h6⟩
theorem NetD.lower {lo' : Nat} (h : NetD w lo A c P d ln lp) (hl : lo' ≤ lo) : NetD w lo' A c P d ln lp := by
  obtain ⟨⟨hi, h1, h2⟩, h3, h4, h5, h6⟩ := h
  exact ⟨⟨hi, h1, h2.wide hl (Nat.le_refl _)⟩, h3, fun a e => Nat.le_trans hl (h4 a e), h5, h6⟩
theorem NetD.rdn (h : NetD w lo A c P d ln lp) : NodesRd w w.heap.size A ln.length c ln := by
  obtain ⟨⟨hi, h1, h2⟩, _⟩ := h
  exact h2.rd.more h1
theorem NetD.of_s (h : NetS w lo hi A c P d ln lp) (h3 : ln.length = 3) (hp : lp.length ≤ 151) : NetD w lo A c P d ln lp :=
  ⟨⟨hi, h.hh, h.nodes.own⟩, h.rdp, fun a e => by
    obtain ⟨_, ⟨_, e0, _⟩ | ⟨g, cur, e0, h1, _⟩⟩ := h.pool
    · rw [e] at e0; cases e0
    · rw [e] at e0; cases e0; exact h1, h3, hp⟩
/-- nodes in a row of their own, the pool apart: read together -/
theorem NetD.of_x {hi2 : Nat} (hn : NodesOwn w lo hi2 A ln.length c ln) (hh : hi2 ≤ w.heap.size) (hp : OwnL msgC 5 49 w lo hi P lp.length d lp) (hhi : hi ≤ w.heap.size) (h3 : ln.length = 3) (h151 : lp.length ≤ 151) : NetD w lo A c P d ln lp :=
  ⟨⟨hi2, hh, hn⟩, (hp.rd msgC_len).more hhi, fun a e => by
    obtain ⟨_, ⟨_, e0, _⟩ | ⟨g, cur, e0, h1, _⟩⟩ := hp
    · rw [e] at e0; cases e0
    · rw [e] at e0; cases e0; exact h1, h3, h151⟩
theorem NodesOwn.dec {g j : Nat} {cur : Array Value} {n : Nat} {z : Int} (h : NodesOwn w lo hi (some ⟨g, 0, none⟩) n c ln) (hb : Blk w g 79 cur) (hj : j < n) (hc : Chg g (g + 1) w w') (hb' : Blk w' g 79 (cur.setIfInBounds (j * 10 + 8) (.int .i64 z))) :
    ∃ ln', ln'.length = ln.length ∧ NodesOwn w' lo hi (some ⟨g, 0, none⟩) n c ln' := by
  rcases h.at_g with ⟨rfl, _⟩ | ⟨g', cur0, lv, e, h0⟩
  · omega
  · simp only [Option.some.injEq, Addr.mk.injEq, and_true] at e
    subst e
    have e2 : cur = cur0 := by
      have h1 := h0.blk
      unfold Blk at h1 hb
      rw [hb] at h1
      simpa using h1
    subst e2
    obtain ⟨v, hv⟩ : ∃ v, lv[j]? = some v := ⟨_, List.getElem?_eq_getElem (by rw [h0.len]; exact hj)⟩
    obtain ⟨x, hx, hs, hm⟩ := h0.msgs j v hv
    obtain ⟨a, b, ho, hab⟩ := hm.narrow
    have hag : g < a ∨ b ≤ g := by
      rcases hab with rfl | ⟨rfl, _, _, _, cs, hcs⟩
      · omega
      · have := h0.blk.ne hcs (by decide); omega
    have hsz : j * 10 + 10 ≤ cur.size := by rw [h0.size]; have := h0.cap; have := Nat.mul_le_mul_right 10 (show j + 1 ≤ c by omega); omega
    obtain ⟨hst, _⟩ := h0.step (w3 := w') ⟨v.s.me, v.s.round, v.s.step, v.s.lv, v.s.lr, v.s.vv, v.s.vr, v.s.polka, z⟩ hv hc hb' (by simp)
      (fun i hi => by rw [Array.getElem?_setIfInBounds, if_neg (by omega)])
      (fun q hq => by
        have hcq := h0.cells j v hv q hq
        by_cases h8 : q = 8
        · subst h8; simp [Array.getElem?_setIfInBounds, nodeC]; omega
        · rw [Array.getElem?_setIfInBounds, if_neg (by omega), hcq]
          rcases (by omega : q = 0 ∨ q = 1 ∨ q = 2 ∨ q = 3 ∨ q = 4 ∨ q = 5 ∨ q = 6 ∨ q = 7 ∨ q = 9) with rfl | rfl | rfl | rfl | rfl | rfl | rfl | rfl | rfl <;> rfl)
      hab (Chg.refl a b w') (ho.chg hc (by omega))
    exact ⟨_, by simp, hst.own⟩
end
def NetDrew (cb : Nat) (A : Option Addr) (n c : Nat) (w : World) (e : Ending) (w' : World) : Prop :=
  ∃ ln lp A' c' P' d', e = .returned (.agg #[.slice A' ln.length c', .slice P' lp.length d']) ∧ NetD w' w.heap.size A' c' P' d' ln lp ∧ Chg cb (cb + 1) w w' ∧ Cur w' cb A n c

set_option maxRecDepth 100000 in
set_option maxHeartbeats 8000000 in
theorem l17Some_any (cb : Nat) (A : Option Addr) (n c : Nat) (m : Int) (w : World) (hc : Cur w cb A n c) (hm : m ≤ 300) :
    Calls Try.prog 51 #[.pointer (some ⟨cb, 0, none⟩), .int .i64 m] w (NetDrew cb A n c w) := by
  have HC := Lib.hid hc
  have hlt := hc.lt
  clear hc
  go_enter Try.func51, Try.ntmps51
  go_wp2_with fail
  refine (l17Story_any cb A n c m _ (HC.out.alloc _) (by omega)).mono ?_
  rintro e w1 ⟨la, Al, cl, rfl, ho, hll, hg, hu⟩
  have hs1 : w.heap.size + 1 ≤ w1.heap.size := by have := hg.size; simpa using this
  have HR1 : Hid (Blk w1 w.heap.size 27 #[.slice none 0 0, .slice none 0 0]) := Lib.hid ((hg.block _ (by simp) (.inr (by omega))).trans (heap_alloc_new w _))
  have HU1 := Lib.hid hu
  have HC1 := Lib.hid (((Chg.refl cb (cb + 1) w).alloc _).trans hg)
  have HO1 := Lib.hid ho
  have hla : la.length ≤ 400 := by split at hll <;> omega
  clear hg hu ho hll HC
  go_wp2_with fail
  refine (sNetPlay_any Al la.length cl la _ ((HO1.out.rd naC_len).more (Nat.le_refl _))).mono ?_
  rintro e w2 ⟨A', c', P', d', lo, hi, he, hlo, hns, hb⟩
  have hni : NetI (playN la).1.1 (playN la).1.2 := by unfold playN; rw [if_neg (by omega)]; exact netI_play la
  generalize playN la = r at *
  obtain ⟨⟨ln, lp⟩, cnt⟩ := r
  dsimp only at he hns hni
  subst he
  obtain ⟨h3, h150⟩ := hni.b3
  have H3 := Lib.hid h3
  have hn3 : 3 ≤ ln.length := by omega
  have hn3' : ln.length ≤ 3 := by omega
  clear h3 hni
  have HS2 := Lib.hid hns
  have HR2 := Lib.hid (HR1.out.below hb HR1.out.lt)
  have HU2 := Lib.hid (HU1.out.below hb HU1.out.lt (Nat.le_refl _))
  have HC2 := Lib.hid (HC1.out.below_trans hb)
  have hs2 := hb.size
  have hhi := hns.hh
  have hlh := hns.hl
  clear hns hb HR1 HU1 HC1 HO1
  go_upto_region 2 with fail
  obtain ⟨w3, hw3⟩ : ∃ q, q = w2.alloc (.cells #[.slice A' ln.length c', .slice P' lp.length d'] 27) := ⟨_, rfl⟩
  rw [← hw3]
  have hb : Below w2.heap.size w2 w3 := by rw [hw3]; exact (Below.refl _ _).alloc (Nat.le_refl _) _
  have HX3 : Hid (Blk w3 w2.heap.size 27 #[.slice A' ln.length c', .slice P' lp.length d']) := Lib.hid (by rw [hw3]; exact heap_alloc_new w2 _)
  have HS3 := Lib.hid (HS2.out.below hb)
  have HR3 := Lib.hid (HR2.out.below hb HR2.out.lt)
  have HU3 := Lib.hid (HU2.out.below hb HU2.out.lt (Nat.le_refl _))
  have HC3 := Lib.hid (HC2.out.below_trans hb)
  have hs3 : w2.heap.size + 1 ≤ w3.heap.size := HX3.out.lt
  clear hw3 hb HS2 HR2 HU2 HC2
  go_wp2_with fail
  refine (l1Once_any cb A n c 10 _ HU3.out (by omega)).mono ?_
  rintro e w4 ⟨v, rfl, ⟨b, rfl⟩, hg, hu⟩
  have HX4 := Lib.hid (show Blk w4 w2.heap.size _ _ from (hg.block _ HX3.out.lt (.inr (by omega))).trans HX3.out)
  have HS4 := Lib.hid (HS3.out.chg hg (.inr (by omega)))
  have HR4 := Lib.hid (show Blk w4 w.heap.size _ _ from (hg.block _ HR3.out.lt (.inr (by omega))).trans HR3.out)
  have HC4 := Lib.hid (HC3.out.trans hg)
  have HU4 := Lib.hid hu
  have hs4 : w2.heap.size + 1 ≤ w4.heap.size := HX4.out.lt
  clear hg hu HX3 HS3 HR3 HC3 HU3
  go_upto_if 16 with fail
  go_cut [] (fun wx => ∃ ln lp A' c' P' d', NetD wx (w.heap.size + 1) A' c' P' d' ln lp ∧ Blk wx w2.heap.size 27 #[.slice A' ln.length c', .slice P' lp.length d'] ∧ Blk wx w.heap.size 27 #[.slice none 0 0, .slice none 0 0] ∧ Cur wx cb A n c ∧ Chg cb (cb + 1) w wx)
  case first =>
    cases b
    · go_wp2_with fail
      go_meet
      exact ⟨ln, lp, A', c', P', d', (NetD.of_s HS4.out H3.out (by omega)).below (Below.refl _ _) |> fun h => ⟨⟨_, HS4.out.hh, HS4.out.nodes.own.wide (by omega) (Nat.le_refl _)⟩, h.pool, fun a e => by have := h.at_ a e; omega, h.n3, h.p151⟩, HX4.out, HR4.out, HU4.out, HC4.out⟩
    go_wp2_with fail
    refine (l1Below_any cb A n c 3 _ HU4.out (by omega)).mono ?_
    rintro e w5 ⟨v, rfl, ⟨x, rfl, hx0, hx1⟩, hg, hu⟩
    simp at hx1
    have HX5 := Lib.hid (show Blk w5 w2.heap.size _ _ from (hg.block _ HX4.out.lt (.inr (by omega))).trans HX4.out)
    have HS5 := Lib.hid (HS4.out.chg hg (.inr (by omega)))
    have HR5 := Lib.hid (show Blk w5 w.heap.size _ _ from (hg.block _ HR4.out.lt (.inr (by omega))).trans HR4.out)
    have HC5 := Lib.hid (HC4.out.trans hg)
    have HU5 := Lib.hid hu
    have hs5 : w2.heap.size + 1 ≤ w5.heap.size := HX5.out.lt
    clear hg hu HX4 HS4 HR4 HC4 HU4
    go_wp2_with fail
    refine (l1Below_any cb A n c 4 _ HU5.out (by omega)).mono ?_
    rintro e w6 ⟨v, rfl, ⟨y, rfl, hy0, hy1⟩, hg, hu⟩
    simp at hy1
    have HX6 := Lib.hid (show Blk w6 w2.heap.size _ _ from (hg.block _ HX5.out.lt (.inr (by omega))).trans HX5.out)
    have HS6 := Lib.hid (HS5.out.chg hg (.inr (by omega)))
    have HR6 := Lib.hid (show Blk w6 w.heap.size _ _ from (hg.block _ HR5.out.lt (.inr (by omega))).trans HR5.out)
    have HC6 := Lib.hid (HC5.out.trans hg)
    have HU6 := Lib.hid hu
    have hs6 : w2.heap.size + 1 ≤ w6.heap.size := HX6.out.lt
    clear hg hu HX5 HS5 HR5 HC5 HU5
    obtain ⟨j, rfl⟩ := Int.eq_ofNat_of_zero_le hx0
    have hj3 : j < ln.length := by omega
    have hji : (j : Int) < ln.length := by omega
    clear hx0
    have tg := HX6.out.cell
    have tf := HX6.out.frozen
    have tl := HX6.out.lt
    rcases (by omega : y = 0 ∨ y = 1 ∨ y = 2 ∨ y = 3) with rfl | rfl | rfl | rfl
    · obtain ⟨g, cur, hA2, hg1, hg2, hblk, hnc, hsz⟩ := (NodesX.of HS6.out.nodes.own).open (by omega)
      subst hA2
      have HBG := Lib.hid hblk
      have hj10 : j * 10 + 10 ≤ cur.size := by omega
      have hgl := hblk.lt
      have qf := hblk.frozen
      have q0 := hblk.has (j * 10) (by omega)
      have q1 := hblk.has (j * 10 + 1) (by omega)
      have q2 := hblk.has (j * 10 + 2) (by omega)
      have q3 := hblk.has (j * 10 + 3) (by omega)
      have q4 := hblk.has (j * 10 + 4) (by omega)
      have q5 := hblk.has (j * 10 + 5) (by omega)
      have q6 := hblk.has (j * 10 + 6) (by omega)
      have q7 := hblk.has (j * 10 + 7) (by omega)
      have q8 := hblk.has (j * 10 + 8) (by omega)
      have q9 := hblk.has (j * 10 + 9) (by omega)
      clear hblk
      go_upto_region 7 with fail
      go_region_law (first
        | (go_simp; refine (l16Some_any cb A n c 9 _ (by exact HU6.out.drew) (by omega)).mono ?_; rintro e w7 ⟨s, l, B, d, rfl, ho, hll, hg, hu⟩; have hg : Chg cb (cb + 1) w6 w7 := ⟨hg.os, hg.tape, hg.output, hg.size, hg.block⟩; have ho : OwnL msgC 5 49 w7 w6.heap.size w7.heap.size B l.length d l := ho; have HX7 := Lib.hid (show Blk w7 w2.heap.size _ _ from (hg.block _ HX6.out.lt (.inr (by omega))).trans HX6.out); have HS7 := Lib.hid (HS6.out.chg hg (.inr (by omega))); have HR7 := Lib.hid (show Blk w7 w.heap.size _ _ from (hg.block _ HR6.out.lt (.inr (by omega))).trans HR6.out); have HC7 := Lib.hid (HC6.out.trans hg); have HU7 := Lib.hid hu; have HO7 := Lib.hid ho; have hs7 := hg.size; have tg7 := HX7.out.cell; have HBG7 := Lib.hid (show Blk w7 g 79 cur from (hg.block _ HBG.out.lt (.inr (by omega))).trans HBG.out); have gl7 := HBG7.out.lt; have qf7 := HBG7.out.frozen; have r0 := HBG7.out.has (j * 10) (by omega); have r1 := HBG7.out.has (j * 10 + 1) (by omega); have r2 := HBG7.out.has (j * 10 + 2) (by omega); have r3 := HBG7.out.has (j * 10 + 3) (by omega); have r4 := HBG7.out.has (j * 10 + 4) (by omega); have r5 := HBG7.out.has (j * 10 + 5) (by omega); have r6 := HBG7.out.has (j * 10 + 6) (by omega); have r7 := HBG7.out.has (j * 10 + 7) (by omega); have r8 := HBG7.out.has (j * 10 + 8) (by omega); have r9 := HBG7.out.has (j * 10 + 9) (by omega); clear hg hu ho))
      all_goals
        clear q0 q1 q2 q3 q4 q5 q6 q7 q8 q9 qf tg tf
        go_wp2_with fail
        go_meet
        obtain ⟨w8, hw8⟩ : ∃ z, z = ((((((((((w7.setCell ⟨g, j * 10, none⟩ (.int .i64 s.me)).setCell ⟨g, j * 10 + 1, none⟩ (.int .i64 s.round)).setCell ⟨g, j * 10 + 2, none⟩ (.int .i64 s.step)).setCell ⟨g, j * 10 + 3, none⟩ (.int .i64 s.lv)).setCell ⟨g, j * 10 + 4, none⟩ (.int .i64 s.lr)).setCell ⟨g, j * 10 + 5, none⟩ (.int .i64 s.vv)).setCell ⟨g, j * 10 + 6, none⟩ (.int .i64 s.vr)).setCell ⟨g, j * 10 + 7, none⟩ (.int .i64 s.polka)).setCell ⟨g, j * 10 + 8, none⟩ (.int .i64 s.dec)).setCell ⟨g, j * 10 + 9, none⟩ (.slice B l.length d)) := ⟨_, rfl⟩
        rw [← hw8]
        have C : Chg g (g + 1) w7 w8 := by rw [hw8]; (repeat (first | with_reducible refine Chg.setCell ?_ (by first | exact Nat.le_refl _ | (simp; done) | (simp; omega)) (by first | (simp; done) | (simp; omega)) _ | with_reducible refine Chg.alloc ?_ _ | with_reducible refine Chg.drew ?_)); (with_reducible exact Chg.refl _ _ _)
        have hb8 := ((((((((((HBG7.out.set_ (j * 10) (.int .i64 s.me)).set_ (j * 10 + 1) (.int .i64 s.round)).set_ (j * 10 + 2) (.int .i64 s.step)).set_ (j * 10 + 3) (.int .i64 s.lv)).set_ (j * 10 + 4) (.int .i64 s.lr)).set_ (j * 10 + 5) (.int .i64 s.vv)).set_ (j * 10 + 6) (.int .i64 s.vr)).set_ (j * 10 + 7) (.int .i64 s.polka)).set_ (j * 10 + 8) (.int .i64 s.dec)).set_ (j * 10 + 9) (.slice B l.length d))
        rw [← hw8] at hb8
        clear hw8
        have hnx : NodesX w8 lo w7.heap.size (some ⟨g, 0, none⟩) ln.length c' (ln.set j ⟨s, l⟩) (fun _ => False) := NodesX.put (lo2 := w6.heap.size) (s := s) (B := B) (m := l.length) (d := d) (l := l) (NodesX.of HS7.out.nodes.own) HBG7.out hj3 C hb8 (by simp)
          (fun i hi => by simp [Array.getElem?_setIfInBounds]; rw [if_neg (by omega)]; rw [if_neg (by omega)]; rw [if_neg (by omega)]; rw [if_neg (by omega)]; rw [if_neg (by omega)]; rw [if_neg (by omega)]; rw [if_neg (by omega)]; rw [if_neg (by omega)]; rw [if_neg (by omega)]; rw [if_neg (by omega)])
          (fun q hq => by rcases (by omega : q = 0 ∨ q = 1 ∨ q = 2 ∨ q = 3 ∨ q = 4 ∨ q = 5 ∨ q = 6 ∨ q = 7 ∨ q = 8 ∨ q = 9) with rfl | rfl | rfl | rfl | rfl | rfl | rfl | rfl | rfl | rfl <;> simp [Array.getElem?_setIfInBounds, nodeC] <;> omega)
          (HO7.out.chg C (.inr (by omega))) (by omega) (by omega) (by omega) (fun q _ _ h => h)
        have hpl := OwnL.by_box HBG7.out (by decide) C HS7.out.pool
        have hlen : (ln.set j (⟨s, l⟩ : NodeD)).length = ln.length := List.length_set ..
        have hhs := C.size
        have hown := hnx.own
        rw [← hlen] at hown
        refine ⟨ln.set j ⟨s, l⟩, lp, _, c', P', d', NetD.of_x (hown.wide (by omega) (Nat.le_refl _)) hhs (hpl.wide (lo' := w.heap.size + 1) (by omega) (Nat.le_refl _)) (by omega) (by rw [hlen]; exact H3.out) (by omega), ?_, (C.block _ HR7.out.lt (.inl (by omega))).trans HR7.out, HU7.out.chg C (by omega), HC7.out.trans_topA (by omega) C⟩
        rw [hlen]
        exact (C.block _ HX7.out.lt (.inr (by omega))).trans HX7.out
    · obtain ⟨i0, hi0, hz0, hz1, hz2⟩ := info_parts infoMsgS
      go_upto_region 9 with fail
      go_region_law (first
        | ((refine step_app_rd _ rfl _ _ _ rfl lo 49 i0 _ 5 40 Try.underlying25 hi0 hz0 hz1 hz2 rfl (by decide) (.slice P' lp.length d') lp.length (lp.flatMap msgC) rfl (by exact (HS7.out.pool.owns msgC_len).alloc _) _ _ 1 1 _ rfl (by exact Rd.one5S w7 ⟨x1, x2, x3, x4, x5⟩ _ (by first | rfl | simp)) (msgC_oneS _) (by unfold maxLen; omega) (by omega) (by first | (simp; done) | (simp; omega)) ?_)
           intro v2 w8 hown hg hat
           obtain ⟨P2, d2, rfl, hS8, hC8⟩ := (HS7.out.below ((Below.refl _ _).alloc (Nat.le_refl _) _)).app (m := ⟨x1, x2, x3, x4, x5⟩) hown hg hat (by simp)
           have hC := (Chg.refl lo hi w7).alloc (.cells #[.int .i64 x1, .int .i64 x2, .int .i64 x3, .int .i64 x4, .int .i64 x5] 49) |>.trans hC8
           have HX8 := Lib.hid (grown_box (HS7.out.below ((Below.refl _ _).alloc (Nat.le_refl _) (.cells #[.int .i64 x1, .int .i64 x2, .int .i64 x3, .int .i64 x4, .int .i64 x5] 49))).pool hg (by decide) (HX7.out.alloc _))
           have HR8 := Lib.hid (show Blk w8 w.heap.size 27 #[.slice none 0 0, .slice none 0 0] from (hC.block _ HR7.out.lt (.inl (by omega))).trans HR7.out)
           have HU8 := Lib.hid (HU7.out.chg hC (by omega))
           have HC8 := Lib.hid (HC7.out.trans_topA (by omega) hC)
           have HS8 := Lib.hid hS8
           have hsz8 := hC.size
           clear hown hg hat hS8 hC8 hC
           have tg8 := HX8.out.cell
           have tf8 := HX8.out.frozen
           have tl8 := HX8.out.lt)
        | (go_simp; refine (l16Msg_any cb A n c _ (by exact HU6.out.drew)).mono ?_; rintro e w7 ⟨v, rfl, ⟨x1, x2, x3, x4, x5, rfl⟩, hg, hu⟩; have hg : Chg cb (cb + 1) w6 w7 := ⟨hg.os, hg.tape, hg.output, hg.size, hg.block⟩; have HX7 := Lib.hid (show Blk w7 w2.heap.size _ _ from (hg.block _ HX6.out.lt (.inr (by omega))).trans HX6.out); have HS7 := Lib.hid (HS6.out.chg hg (.inr (by omega))); have HR7 := Lib.hid (show Blk w7 w.heap.size _ _ from (hg.block _ HR6.out.lt (.inr (by omega))).trans HR6.out); have HC7 := Lib.hid (HC6.out.trans hg); have HU7 := Lib.hid hu; have hs7 := hg.size; have tg7 := HX7.out.cell; have tf7 := HX7.out.frozen; have tl7 := HX7.out.lt; clear hg hu))
      all_goals
        go_wp2_with fail
        go_meet
        have D : Chg w2.heap.size (w2.heap.size + 1) w8 (w8.setCell ⟨w2.heap.size, 1, none⟩ (.slice P2 (lp.length + 1) d2)) := Chg.setCell (p := ⟨w2.heap.size, 1, none⟩) (Chg.refl _ _ w8) (Nat.le_refl _) (Nat.lt_succ_self _) _
        have hS9 := HS8.out.box HX8.out (by decide) (by decide) D
        refine ⟨ln, lp ++ [⟨x1, x2, x3, x4, x5⟩], A', c', P2, d2, NetD.of_x (hS9.nodes.own.wide (by omega) (Nat.le_refl _)) hS9.hh (hS9.pool.wide (lo' := w.heap.size + 1) (by omega) (Nat.le_refl _)) hS9.hh H3.out (by simp; omega), ?_, (D.block _ HR8.out.lt (.inl (by omega))).trans HR8.out, HU8.out.chg D (by omega), HC8.out.trans_topA (by omega) D⟩
        have := HX8.out.set_ 1 (.slice P2 (lp.length + 1) d2)
        simpa using this
    · by_cases hp0 : (0 : Int) < lp.length
      · obtain ⟨pg, rfl⟩ : ∃ pg, P' = some ⟨pg, 0, none⟩ := by
          obtain ⟨_, ⟨e0, _⟩ | ⟨g, cur, e0, _⟩⟩ := HS6.out.pool
          · omega
          · exact ⟨g, e0⟩
        have hcap : lp.length ≤ d' := HS6.out.rdp.2.2.1
        have hcm : (lp.length : Int) ≤ d' := by omega
        have h1p : (1 : Int) ≤ lp.length := by omega
        have h1d : 1 ≤ d' := by omega
        rcases Nat.eq_or_lt_of_le h1d with hd1 | hd1
        · subst hd1
          go_wp2_with fail
          go_meet
          have D : Chg w2.heap.size (w2.heap.size + 1) w6 (w6.setCell ⟨w2.heap.size, 1, none⟩ (.slice (some ⟨pg, 0, none⟩) 0 0)) := Chg.setCell (p := ⟨w2.heap.size, 1, none⟩) (Chg.refl _ _ w6) (Nat.le_refl _) (Nat.lt_succ_self _) _
          have hS9 := HS6.out.box HX6.out (by decide) (by decide) D
          have hlen : (lp.drop 1).length = 0 := by simp; omega
          have hpl2 : RdL msgC 5 (w6.setCell ⟨w2.heap.size, 1, none⟩ (.slice (some ⟨pg, 0, none⟩) 0 0)) (w6.setCell ⟨w2.heap.size, 1, none⟩ (.slice (some ⟨pg, 0, none⟩) 0 0)).heap.size (some ⟨pg, 0, none⟩) (lp.drop 1).length 0 (lp.drop 1) := by rw [hlen]; exact RdL.none_' hlen rfl
          have hat := (NetD.of_s hS9 H3.out (by omega)).at_ _ rfl
          refine ⟨ln, lp.drop 1, A', c', some ⟨pg, 0, none⟩, 0, ⟨⟨_, hS9.hh, hS9.nodes.own.wide (by omega) (Nat.le_refl _)⟩, hpl2, fun a e => by cases e; exact Nat.le_trans (by omega) hat, H3.out, by rw [hlen]; omega⟩, ?_, (D.block _ HR6.out.lt (.inl (by omega))).trans HR6.out, HU6.out.chg D (by omega), HC6.out.trans_topA (by omega) D⟩
          have := HX6.out.set_ 1 (.slice (some ⟨pg, 0, none⟩) 0 0)
          rw [hlen]
          simpa using this
        · have hd2 : (1 : Int) < d' := by omega
          go_wp2_with fail
          go_meet
          have D : Chg w2.heap.size (w2.heap.size + 1) w6 (w6.setCell ⟨w2.heap.size, 1, none⟩ (.slice (some ⟨pg, 0 + 1 * 5, none⟩) (lp.length - 1) (d' - 1))) := Chg.setCell (p := ⟨w2.heap.size, 1, none⟩) (Chg.refl _ _ w6) (Nat.le_refl _) (Nat.lt_succ_self _) _
          have hS9 := HS6.out.box HX6.out (by decide) (by decide) D
          have hpl := hS9.rdp.dropN msgC_len (k := 1) (by omega)
          have hlen : (lp.drop 1).length = lp.length - 1 := by simp
          have hpl2 : RdL msgC 5 (w6.setCell ⟨w2.heap.size, 1, none⟩ (.slice (some ⟨pg, 0 + 1 * 5, none⟩) (lp.length - 1) (d' - 1))) (w6.setCell ⟨w2.heap.size, 1, none⟩ (.slice (some ⟨pg, 0 + 1 * 5, none⟩) (lp.length - 1) (d' - 1))).heap.size (some ⟨pg, 0 + 1 * 5, none⟩) (lp.drop 1).length (d' - 1) (lp.drop 1) := by rw [hlen]; exact hpl
          have hat := (NetD.of_s hS9 H3.out (by omega)).at_ _ rfl
          refine ⟨ln, lp.drop 1, A', c', some ⟨pg, 0 + 1 * 5, none⟩, d' - 1, ⟨⟨_, hS9.hh, hS9.nodes.own.wide (by omega) (Nat.le_refl _)⟩, hpl2, fun a e => by cases e; exact Nat.le_trans (by omega) hat, H3.out, by rw [hlen]; omega⟩, ?_, (D.block _ HR6.out.lt (.inl (by omega))).trans HR6.out, HU6.out.chg D (by omega), HC6.out.trans_topA (by omega) D⟩
          have := HX6.out.set_ 1 (.slice (some ⟨pg, 0 + 1 * 5, none⟩) (lp.length - 1) (d' - 1))
          rw [hlen]
          simpa using this
      · go_wp2_with fail
        go_meet
        exact ⟨ln, lp, A', c', P', d', NetD.of_x (HS6.out.nodes.own.wide (by omega) (Nat.le_refl _)) HS6.out.hh (HS6.out.pool.wide (lo' := w.heap.size + 1) (by omega) (Nat.le_refl _)) HS6.out.hh H3.out (by omega), HX6.out, HR6.out, HU6.out, HC6.out⟩
    · obtain ⟨g, cur, hA2, hg1, hg2, hblk, hnc, hsz⟩ := (NodesX.of HS6.out.nodes.own).open (by omega)
      subst hA2
      have HBG := Lib.hid hblk
      have hj10 : j * 10 + 10 ≤ cur.size := by omega
      have hgl := hblk.lt
      have qf := hblk.frozen
      have q0 := hblk.has (j * 10) (by omega)
      have q1 := hblk.has (j * 10 + 1) (by omega)
      have q2 := hblk.has (j * 10 + 2) (by omega)
      have q3 := hblk.has (j * 10 + 3) (by omega)
      have q4 := hblk.has (j * 10 + 4) (by omega)
      have q5 := hblk.has (j * 10 + 5) (by omega)
      have q6 := hblk.has (j * 10 + 6) (by omega)
      have q7 := hblk.has (j * 10 + 7) (by omega)
      have q8 := hblk.has (j * 10 + 8) (by omega)
      have q9 := hblk.has (j * 10 + 9) (by omega)
      clear hblk
      go_upto_region 5 with fail
      go_region_law (first
        | (go_simp; refine (l1PickInt_any cb A n c w6.heap.size 3 (-100) 100 _ (by exact HU6.out.drew.alloc _) (by decide) (by decide) HU6.out.lt (by simp) ?_).mono ?_
           · intro j hj
             rcases (by omega : j = 0 ∨ j = 1 ∨ j = 2) with rfl | rfl | rfl
             · exact ⟨11, by simp, by decide, by decide⟩
             · exact ⟨12, by simp, by decide, by decide⟩
             · exact ⟨21, by simp, by decide, by decide⟩
           rintro e w7 ⟨v, rfl, ⟨z, rfl, _, _⟩, hg, hu⟩
           have hg : Chg cb (cb + 1) w6 w7 := ⟨hg.os, hg.tape, hg.output, by have := hg.size; simp at this; omega, fun q h1 h2 => (hg.block q (by simp; omega) h2).trans (((Below.refl w6.heap.size w6).alloc (Nat.le_refl _) _).block q h1)⟩
           have HX7 := Lib.hid (show Blk w7 w2.heap.size _ _ from (hg.block _ HX6.out.lt (.inr (by omega))).trans HX6.out)
           have HS7 := Lib.hid (HS6.out.chg hg (.inr (by omega)))
           have HR7 := Lib.hid (show Blk w7 w.heap.size _ _ from (hg.block _ HR6.out.lt (.inr (by omega))).trans HR6.out)
           have HC7 := Lib.hid (HC6.out.trans hg)
           have HU7 := Lib.hid hu
           have hs7 := hg.size
           have tg7 := HX7.out.cell
           have HBG7 := Lib.hid (show Blk w7 g 79 cur from (hg.block _ HBG.out.lt (.inr (by omega))).trans HBG.out)
           have gl7 := HBG7.out.lt
           have qf7 := HBG7.out.frozen
           have r8 := HBG7.out.has (j * 10 + 8) (by omega)
           clear hg hu))
      all_goals
        clear q0 q1 q2 q3 q4 q5 q6 q7 q8 q9 qf tg tf
        go_wp2_with fail
        go_meet
        have C : Chg g (g + 1) w7 (w7.setCell ⟨g, j * 10 + 8, none⟩ (.int .i64 z)) := Chg.setCell (p := ⟨g, j * 10 + 8, none⟩) (Chg.refl _ _ w7) (Nat.le_refl _) (Nat.lt_succ_self _) _
        obtain ⟨ln', hlen, hown⟩ := HS7.out.nodes.own.dec HBG7.out hj3 C (HBG7.out.set_ (j * 10 + 8) (.int .i64 z))
        have hpl := OwnL.by_box HBG7.out (by decide) C HS7.out.pool
        have hhs := C.size
        have hhi7 := HS7.out.hh
        rw [← hlen] at hown
        refine ⟨ln', lp, _, c', P', d', NetD.of_x (hown.wide (by omega) (Nat.le_refl _)) (by omega) (hpl.wide (lo' := w.heap.size + 1) (by omega) (Nat.le_refl _)) (by omega) (by rw [hlen]; exact H3.out) (by omega), ?_, (C.block _ HR7.out.lt (.inl (by omega))).trans HR7.out, HU7.out.chg C (by omega), HC7.out.trans_topA (by omega) C⟩
        rw [hlen]
        exact (C.block _ HX7.out.lt (.inr (by omega))).trans HX7.out
  case rest =>
  obtain ⟨ln', lp', A2, c2, P2, d2, hnd, hx, hr, hu, hcg⟩ := hcut
  have HD := Lib.hid hnd
  have HU := Lib.hid hu
  have HCG := Lib.hid hcg
  have tg := hx.cell
  have tl := hx.lt
  have rg := hr.cell
  have rf := hr.frozen
  clear hnd hx hr hu hcg HS4 HX4 HR4 HU4 HC4
  go_wp2_with fail
  refine bodyPost_ret (v := .agg #[.slice A2 ln'.length c2, .slice P2 lp'.length d2]) (by simp [results, Try.results51, go_sem, rg]) rfl ⟨ln', lp', A2, c2, P2, d2, rfl, ?_, ?_, ?_⟩
  · refine NetD.lower (HD.out.chg (a := w.heap.size) (b := w.heap.size + 1) ?_ (Nat.le_refl _)) (by omega)
    (repeat (first | with_reducible refine Chg.setCell ?_ (by first | exact Nat.le_refl _ | (simp; done) | (simp; omega)) (by first | (simp; done) | (simp; omega)) _ | with_reducible refine Chg.alloc ?_ _ | with_reducible refine Chg.drew ?_)); (with_reducible exact Chg.refl _ _ _)
  · exact HCG.out.trans_topA (D := w.heap.size) (hi := w.heap.size + 1) (Nat.le_refl _) (by (repeat (first | with_reducible refine Chg.setCell ?_ (by first | exact Nat.le_refl _ | (simp; done) | (simp; omega)) (by first | (simp; done) | (simp; omega)) _ | with_reducible refine Chg.alloc ?_ _ | with_reducible refine Chg.drew ?_)); (with_reducible exact Chg.refl _ _ _))
  · refine HU.out.chg (lo := w.heap.size) (hi := w.heap.size + 1) ?_ hlt
    (repeat (first | with_reducible refine Chg.setCell ?_ (by first | exact Nat.le_refl _ | (simp; done) | (simp; omega)) (by first | (simp; done) | (simp; omega)) _ | with_reducible refine Chg.alloc ?_ _ | with_reducible refine Chg.drew ?_)); (with_reducible exact Chg.refl _ _ _)
end Go.Proofs.Ytjgaelnonacdkaa
