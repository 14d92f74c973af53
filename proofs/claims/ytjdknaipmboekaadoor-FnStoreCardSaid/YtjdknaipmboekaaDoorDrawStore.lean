/- Draws of stores: l15Some. (written by wip/drawstore.py) -/
import Derived.Test.YtjdknaipmboekaaDoorDrawBehind
import Derived.Test.YtjdknaipmboekaaDoorDrawSize
import Derived.Test.YtjdknaipmboekaaDoorStoreAdd
import Derived.Test.YtjdknaipmboekaaDoorStorePrune
import Derived.Test.YtjdknaipmboekaaDoorStoreFall
import Derived.Test.YtjdknaipmboekaaDoorStoreSync
import Derived.WalkKit
import Derived.WalkSpells
import Derived.WalkLawsBesides
import Derived.Lib.Hide
namespace Go.Proofs.YtjdknaipmboekaaDoor
open Go.RowKit

def okH (l : List HeaderD) : Prop := l.length ≤ 20 ∧ ∀ x ∈ l, smallH x
theorem pruneL_ok {l : List HeaderD} {y k : Int} (h : ∀ x ∈ l, smallH x) : okH (pruneL l y k) := by
  unfold pruneL; split
  · rename_i hs
    have := storeB_facts hs
    split
    · exact ⟨by rw [List.length_drop]; omega, fun x hx => h x (List.mem_of_mem_drop hx)⟩
    · exact ⟨by omega, h⟩
  · exact ⟨Nat.zero_le _, fun x hx => absurd hx (by simp)⟩
theorem fallL_ok {l : List HeaderD} {y k : Int} (h : ∀ x ∈ l, smallH x) : okH (fallL l y k) := by
  unfold fallL; split
  · rename_i hs
    have := storeB_facts hs
    exact ⟨by rw [List.length_take]; omega, fun x hx => h x (List.mem_of_mem_take hx)⟩
  · exact ⟨Nat.zero_le _, fun x hx => absurd hx (by simp)⟩
theorem syncL_ok {l : List HeaderD} {y : Int} (h : ∀ x ∈ l, smallH x) : okH (syncL l y) := by
  unfold syncL; split
  · rename_i hs
    have := storeB_facts hs
    exact ⟨by omega, h⟩
  · exact ⟨Nat.zero_le _, fun x hx => absurd hx (by simp)⟩
theorem addL_ok {l : List HeaderD} {y : Int} {v : HeaderD} (h : ∀ x ∈ l, smallH x) (hv : smallH v) : okH (addL l y v) := by
  unfold addL; split
  · rename_i hs
    have := storeB_facts hs
    split
    · rename_i hs2
      have := storeB_facts hs2
      exact ⟨by omega, fun x hx => by
        rcases List.mem_append.1 hx with hx | hx
        · exact h x hx
        · simp at hx; subst hx; exact hv⟩
    · exact ⟨by omega, h⟩
  · exact ⟨Nat.zero_le _, fun x hx => absurd hx (by simp)⟩

theorem listH2 {l : List Value} (h : l.length = 2) : ∃ c0 c1, l = [c0, c1] := by
  match l, h with
  | [c0, c1], _ => exact ⟨c0, c1, rfl⟩
structure StoreIn (w0 : World) (cb : Nat) (A : Option Addr) (n c R T : Nat) (wx : World) (y : Int) (l : List HeaderD) (B : Option Addr) (d : Nat) : Prop where
  box : Blk wx T 29 #[.slice B l.length d, .int .i64 y]
  res : Blk wx R 29 #[.slice none 0 0, .int .i64 0]
  cur : Cur wx cb A n c
  chg : Chg cb (cb + 1) w0 wx
  own : OwnL headC 6 34 wx (T + 1) wx.heap.size B l.length d l
  len : l.length ≤ 21
  sm : ∀ x ∈ l, smallH x
section
variable {w0 wx wy : World} {cb n c R T d d' : Nat} {A B B' : Option Addr} {y y' : Int} {l l' : List HeaderD}
theorem StoreIn.call (h : StoreIn w0 cb A n c R T wx y l B d) (hg : Chg cb (cb + 1) wx wy) (hu : Cur wy cb A n c) (hR : cb < R) (hT : cb < T) : StoreIn w0 cb A n c R T wy y l B d :=
  ⟨(hg.block T h.box.lt (.inr (by omega))).trans h.box, (hg.block R h.res.lt (.inr (by omega))).trans h.res, hu, h.chg.trans hg, (h.own.chg hg (.inr (by omega))).wide (Nat.le_refl _) hg.size, h.len, h.sm⟩
theorem StoreIn.below (h : StoreIn w0 cb A n c R T wx y l B d) (hb : Below wx.heap.size wx wy) : StoreIn w0 cb A n c R T wy y l B d :=
  ⟨h.box.below hb h.box.lt, h.res.below hb h.res.lt, h.cur.below hb h.cur.lt (Nat.le_refl _), h.chg.below_trans hb, (h.own.below hb (Nat.le_refl _)).wide (Nat.le_refl _) hb.size, h.len, h.sm⟩
theorem StoreIn.alloc (h : StoreIn w0 cb A n c R T wx y l B d) (ob : Obj) : StoreIn w0 cb A n c R T (wx.alloc ob) y l B d := h.below ((Below.refl _ _).alloc (Nat.le_refl _) ob)
theorem StoreIn.drew (h : StoreIn w0 cb A n c R T wx y l B d) : StoreIn w0 cb A n c R T wx.drew y l B d := h.below ⟨rfl, rfl, rfl, Nat.le_refl _, fun _ _ => rfl⟩
theorem StoreIn.put (h : StoreIn w0 cb A n c R T wx y l B d) (hRT : T ≠ R) (hcT : cb < T) (h0 : w0.heap.size ≤ T) (hch : Chg T (T + 1) wx wy) (hb : Blk wy T 29 #[.slice B' l'.length d', .int .i64 y']) (ho : OwnL headC 6 34 wx (T + 1) wx.heap.size B' l'.length d' l') (hl : l'.length ≤ 21) (hs : ∀ x ∈ l', smallH x) : StoreIn w0 cb A n c R T wy y' l' B' d' :=
  ⟨hb, (hch.block R h.res.lt (by omega)).trans h.res, h.cur.chg hch hcT, h.chg.trans_topT h0 hch, (ho.chg hch (.inr (Nat.le_refl _))).wide (Nat.le_refl _) hch.size, hl, hs⟩
theorem StoreIn.setY (h : StoreIn w0 cb A n c R T wx y l B d) (hRT : T ≠ R) (hcT : cb < T) (h0 : w0.heap.size ≤ T) (y' : Int) : StoreIn w0 cb A n c R T (wx.setCell ⟨T, 1, none⟩ (.int .i64 y')) y' l B d := by
  have hch : Chg T (T + 1) wx (wx.setCell ⟨T, 1, none⟩ (.int .i64 y')) := (Chg.refl _ _ _).setCell (by simp) (by simp) _
  have hb := h.box.set_ 1 (.int .i64 y')
  exact h.put hRT hcT h0 hch (by simpa using hb) h.own h.len h.sm
theorem StoreIn.fill (h : StoreIn w0 cb A n c R T wx y l B d) (hRT : T ≠ R) (hcT : cb < T) (h0 : w0.heap.size ≤ T) (y' : Int) (ho : OwnL headC 6 34 wx (T + 1) wx.heap.size B' l'.length d' l') (hk : okH l') :
    StoreIn w0 cb A n c R T ((wx.setCell ⟨T, 0, none⟩ (.slice B' l'.length d')).setCell ⟨T, 1, none⟩ (.int .i64 y')) y' l' B' d' := by
  refine h.put hRT hcT h0 (by (repeat (first | with_reducible refine Chg.setCell ?_ (by first | exact Nat.le_refl _ | (simp; done) | (simp; omega)) (by first | (simp; done) | (simp; omega)) _ | with_reducible refine Chg.alloc ?_ _ | with_reducible refine Chg.drew ?_)); (with_reducible exact Chg.refl _ _ _)) ?_ ho (Nat.le_succ_of_le hk.1) hk.2
  have hb := ((h.box.set_ 0 (.slice B' l'.length d')).set_ 1 (.int .i64 y'))
  simpa using hb
/-- a header more -/
theorem StoreIn.app {w' : World} {m : HeaderD} {v : Value} (h : StoreIn w0 cb A n c R T wx y l B d) (hl : l.length + 1 ≤ 21) (hm : smallH m) (hcT : cb < T) (hRT : R < T) (h0 : w0.heap.size ≤ T)
    (hown : w'.ownsRow (T + 1) 34 6 v (l.length + 1) (l.flatMap headC ++ headC m)) (hg : wx.grownBy w' (Value.ownBlock (.slice B l.length d))) :
    ∃ B' d', v = .slice B' (l.length + 1) d' ∧ (∀ i, w'.cell? ⟨T, i, none⟩ = (#[.slice B l.length d, .int .i64 y] : Array Value)[i]?) ∧ (∀ i, w'.frozen? ⟨T, i, none⟩ = false) ∧ T < w'.heap.size ∧ StoreIn w0 cb A n c R T (w'.setCell ⟨T, 0, none⟩ v) y (l ++ [m]) B' d' := by
  have e : l.flatMap headC ++ headC m = (l ++ [m]).flatMap headC := by rw [List.flatMap_append]; simp
  rw [e] at hown
  obtain ⟨B', d', rfl, ho⟩ := OwnL.of_own (f := headC) (l := l ++ [m]) (by simp) hown
  have hch : Chg (T + 1) wx.heap.size wx w' := grown_chg hg fun g e => by have := h.own.block g e; omega
  have hb : Blk w' T 29 #[.slice B l.length d, .int .i64 y] := (hch.block T h.box.lt (.inl (by omega))).trans h.box
  have hc2 : Chg T (T + 1) w' (w'.setCell ⟨T, 0, none⟩ (.slice B' (l.length + 1) d')) := (Chg.refl _ _ _).setCell (p := ⟨T, 0, none⟩) (Nat.le_refl _) (Nat.lt_succ_self _) _
  refine ⟨B', d', rfl, hb.cell, hb.frozen, hb.lt, ?_, ?_, (h.cur.chg hch (by omega)).chg hc2 hcT, (h.chg.trans_topT (by omega) hch).trans_topT h0 hc2, ?_, by simpa using hl, fun x hx => ?_⟩
  · have := hb.set_ 0 (.slice B' (l.length + 1) d')
    simpa using this
  · exact (hc2.block R (by have := hb.lt; omega) (.inl (by omega))).trans ((hch.block R h.res.lt (.inl (by omega))).trans h.res)
  · have := (ho.chg hc2 (.inr (Nat.le_refl _))).wide (Nat.le_refl _) hc2.size
    simpa using this
  · rcases List.mem_append.1 hx with hx | hx
    · exact h.sm x hx
    · simp at hx; subst hx; exact hm
/-- the row's block, opened -/
theorem StoreIn.row (h : StoreIn w0 cb A n c R T wx y l B d) (hl : l.length ≠ 0) : ∃ g cur, B = some ⟨g, 0, none⟩ ∧ T + 1 ≤ g ∧ g < wx.heap.size ∧ Blk wx g 34 cur ∧ ∃ s : ByteArray, wx.cell? ⟨g, 5, none⟩ = some (.string s) := by
  obtain ⟨_, ⟨h1, _⟩ | ⟨g, cur, e, h1, h2, h3, h4, h5, h6, h7⟩⟩ := h.own
  · exact absurd h1 hl
  · refine ⟨g, cur, e, h1, h2, h3, ?_⟩
    cases l with
    | nil => exact absurd rfl hl
    | cons p l =>
      refine ⟨p.data, ?_⟩
      rw [h3.cell, h7 5 (by simp; omega)]
      simp [headC]
theorem StoreIn.set0 {g : Nat} (h : StoreIn w0 cb A n c R T wx y l (some ⟨g, 0, none⟩) d) (hl : l.length ≠ 0) (hg : T + 1 ≤ g) (hRT : R < T) (hcT : cb < T) (h0 : w0.heap.size ≤ T) (s : ByteArray) (hs : s.size ≤ 40) : ∃ l', l'.length = l.length ∧ StoreIn w0 cb A n c R T (wx.setCell ⟨g, 5, none⟩ (.string s)) y l' (some ⟨g, 0, none⟩) d := by
  cases l with
  | nil => exact absurd rfl hl
  | cons p l =>
    have hch : Chg g (g + 1) wx (wx.setCell ⟨g, 5, none⟩ (.string s)) := (Chg.refl _ _ _).setCell (by simp) (by simp) _
    refine ⟨{ p with data := s } :: l, rfl, (hch.block T h.box.lt (.inl (by omega))).trans h.box, (hch.block R h.res.lt (.inl (by omega))).trans h.res, h.cur.chg hch (by omega), h.chg.trans_topT (by omega) hch, ?_, h.len, fun x hx => ?_⟩
    · obtain ⟨_, ⟨h1, _⟩ | ⟨g', cur, e, h1, h2, h3, h4, h5, h6, h7⟩⟩ := h.own
      · exact absurd h1 (by simp)
      · simp only [Option.some.injEq, Addr.mk.injEq, and_true] at e
        obtain rfl := e
        refine ⟨rfl, .inr ⟨g, cur.setIfInBounds 5 (.string s), rfl, h1, by simpa using h2, h3.set_ 5 _, h4, h5, by simpa using h6, fun j hj => ?_⟩⟩
        have h8 := h7 j hj
        rw [Array.getElem?_setIfInBounds]
        by_cases h9 : 5 = j
        · subst h9
          have : 5 < cur.size := by rw [h6]; simp at h4; omega
          simp [this, headC]
        · rw [if_neg h9, h8]
          rcases (by omega : j = 0 ∨ j = 1 ∨ j = 2 ∨ j = 3 ∨ j = 4 ∨ 6 ≤ j) with rfl | rfl | rfl | rfl | rfl | h10
          · simp [headC]
          · simp [headC]
          · simp [headC]
          · simp [headC]
          · simp [headC]
          · obtain ⟨j, rfl⟩ : ∃ k, j = k + 6 := ⟨j - 6, by omega⟩
            simp [headC]
    · rcases List.mem_cons.1 hx with rfl | hx
      · have := h.sm p (by simp)
        exact ⟨this.1, this.2.1, this.2.2.1, hs⟩
      · exact h.sm x (by simp [hx])
end
def StoreDrew (cb : Nat) (A : Option Addr) (n c : Nat) (w : World) (e : Ending) (w' : World) : Prop :=
  ∃ (y : Int) (l : List HeaderD) (B : Option Addr) (d : Nat), e = .returned (.agg #[.slice B l.length d, .int .i64 y]) ∧ OwnL headC 6 34 w' w.heap.size w'.heap.size B l.length d l ∧ l.length ≤ 21 ∧ (∀ x ∈ l, smallH x) ∧ Chg cb (cb + 1) w w' ∧ Cur w' cb A n c
theorem Rd.oneH (w : World) (m : HeaderD) (g : Nat) (hg : g = w.heap.size) : Rd (w.alloc (.cells #[.int .i64 m.h, .int .i64 m.t, .string m.last, .string m.vals, .string m.next, .string m.data] 34)) (w.heap.size + 1) (some ⟨g, 0, none⟩) 1 1 6 (headC m) := by
  subst hg
  refine ⟨rfl, Nat.le_refl _, by unfold maxLen; omega, fun _ => ⟨w.heap.size, 0, rfl, by omega, fun j hj => ?_⟩⟩
  have hb : Blk (w.alloc (.cells #[.int .i64 m.h, .int .i64 m.t, .string m.last, .string m.vals, .string m.next, .string m.data] 34)) w.heap.size 34 #[.int .i64 m.h, .int .i64 m.t, .string m.last, .string m.vals, .string m.next, .string m.data] := heap_alloc_new w _
  rw [hb.cell, Nat.zero_add]; simp [headC]
theorem headC_oneS (m : HeaderD) : ∀ u ∈ headC m, u.oneCell' = true := by
  intro u hu
  simp only [headC, List.mem_cons, List.not_mem_nil, or_false] at hu
  rcases hu with rfl | rfl | rfl | rfl | rfl | rfl <;> rfl

set_option maxRecDepth 100000 in
set_option maxHeartbeats 8000000 in
theorem l15Some_any (cb : Nat) (A : Option Addr) (n c : Nat) (m : Int) (w : World) (hc : Cur w cb A n c) (hm : m ≤ 1048576) :
    Calls Tryd.prog 50 #[.pointer (some ⟨cb, 0, none⟩), .int .i64 m] w (StoreDrew cb A n c w) := by
  have HC := Lib.hid hc
  have hlt := hc.lt
  clear hc
  have BR0 : Hid (Blk ((w.alloc (.cells #[.slice none 0 0, .int .i64 0] 29)).alloc (.cells #[.slice none 0 0, .int .i64 0] 29)) w.heap.size 29 #[.slice none 0 0, .int .i64 0]) := Lib.hid (Blk.alloc (heap_alloc_new w _) _)
  have BT0 : Hid (Blk ((w.alloc (.cells #[.slice none 0 0, .int .i64 0] 29)).alloc (.cells #[.slice none 0 0, .int .i64 0] 29)) (w.heap.size + 1) 29 #[.slice none 0 0, .int .i64 0]) := Lib.hid (blk_newAt _ (w.heap.size + 1) _ _ (by simp))
  obtain ⟨w1, hw1⟩ : ∃ q, q = (w.alloc (.cells #[.slice none 0 0, .int .i64 0] 29)).alloc (.cells #[.slice none 0 0, .int .i64 0] 29) := ⟨_, rfl⟩
  rw [← hw1] at BR0 BT0
  have N1 : Hid (StoreIn w cb A n c w.heap.size (w.heap.size + 1) w1 0 [] none 0) := by
    have hb : Below w.heap.size w w1 := by rw [hw1]; exact ((Below.refl _ _).alloc (Nat.le_refl _) _).alloc (by simp) _
    exact ⟨BT0.out, BR0.out, HC.out.below hb hlt (Nat.le_refl _), (Chg.refl cb (cb + 1) w).below_trans hb, ⟨rfl, .inl ⟨rfl, rfl, rfl⟩⟩, Nat.zero_le _, fun x hx => absurd hx (by simp)⟩
  clear HC BR0 BT0
  have hcT : cb < w.heap.size + 1 := by omega
  have hRT : w.heap.size + 1 ≠ w.heap.size := by omega
  have h0T : w.heap.size ≤ w.heap.size + 1 := by omega
  go_enter Tryd.func50, Tryd.ntmps50
  go_upto_region 2 with fail
  rw [← hw1]
  clear hw1
  go_wp2_with fail
  refine (l1Below_any cb A n c m _ N1.out.cur (by omega)).mono ?_
  rintro e w4 ⟨v, rfl, ⟨j, rfl, hj0, hj1⟩, hg, hu⟩
  have N4 := Lib.hid (N1.out.call hg hu hlt hcT)
  clear hg hu N1
  obtain ⟨k0, rfl⟩ := Int.eq_ofNat_of_zero_le hj0
  have hk0 : k0 ≤ 1048576 := by split at hj1 <;> omega
  clear hj1 hj0
  go_wp2_with fail
  go_loopw [6] (fun i wr => ∃ (k : Nat) (y : Int) (l : List HeaderD) (B : Option Addr) (d : Nat), k ≤ 1048576 ∧ i = .int .i64 k ∧ StoreIn w cb A n c w.heap.size (w.heap.size + 1) wr y l B d ∧ l.length ≤ 20) (fun i _ => (intOf i).toNat)
  case atStart => exact ⟨k0, 0, [], none, 0, hk0, rfl, N4.out, by simp⟩
  case round =>
    obtain ⟨k, y, l, B, d, hkb, rfl, hN, hl⟩ := hrel
    have NK := Lib.hid hN
    clear hN N4
    by_cases hk : (0 : Int) < k
    · go_wp2_with fail
      refine (l1Below_any cb A n c 9 _ NK.out.cur (by omega)).mono ?_
      rintro e w5 ⟨v, rfl, ⟨x, rfl, hx2, hx3⟩, hg, hu⟩
      simp at hx3
      have N5 := Lib.hid (NK.out.call hg hu hlt hcT)
      clear hg hu NK
      have h5 := N5.out.box.lt
      have tg := N5.out.box.cell
      have tf := N5.out.box.frozen
      rcases (by omega : x = 0 ∨ x = 1 ∨ x = 2 ∨ (3 ≤ x ∧ x < 9)) with rfl | rfl | rfl | hx
      · go_wp2_with fail
        refine (sStoreSync_any y B d l _ ((N5.out.own.rd headC_len).more (Nat.le_refl _))).mono ?_
        rintro e w9 ⟨A7, c7, rfl, ho, hb⟩
        have N9 := Lib.hid (N5.out.below hb)
        have hln := syncL_ok (y := y) N5.out.sm
        obtain ⟨yl, hyl⟩ : ∃ z, z = syncL l y := ⟨_, rfl⟩
        rw [← hyl] at hln ho
        have hO := Lib.hid (ho.wide (lo' := w.heap.size + 1 + 1) (hi' := w9.heap.size) (by omega) (Nat.le_refl _))
        rw [← hyl]
        generalize syncY l y = yy
        generalize syncB l y = kk
        clear tg tf hyl hb ho N5
        have h9 := N9.out.box.lt
        have tg := N9.out.box.cell
        have tf := N9.out.box.frozen
        go_wp2_with fail
        go_roundw
        case rel => exact ⟨k - 1, yy, yl, A7, c7, by omega, by go_num, (N9.out.fill hRT hcT h0T yy hO.out hln).alloc _, hln.1⟩
        case measure => simp [intOf]; omega
      · go_upto_region 12 with fail
        go_cut [9, 10] (fun sp _ wx => ∃ (q : Nat) (l' : List HeaderD) (y' : Int) (A7 : Option Addr) (c7 : Nat), sp = .pointer (some ⟨q, 0, none⟩) ∧ w5.heap.size ≤ q ∧ Blk wx q 29 #[.slice A7 l'.length c7, .int .i64 y'] ∧ OwnL headC 6 34 wx w5.heap.size wx.heap.size A7 l'.length c7 l' ∧ okH l' ∧ Chg cb (cb + 1) w5 wx ∧ Cur wx cb A n c)
        case first =>
          refine wp_region_core2 [0, 1, 2, 3, 4, 5, 6, 7, 8] (fun w => Chg cb (cb + 1) w5 w ∧ Cur w cb A n c) (fun j wa wb => match j with | 2 => Chg cb (cb + 1) wa wb | 8 => BoxTurn 29 wa wb | _ => Below wa.heap.size wa wb) (fun i b w => match i with
            | 0 => b.tmps.getD 45 undef = .agg #[.slice B l.length d, .int .i64 y]
            | 1 => b.tmps.getD 46 undef = .pointer (some ⟨cb, 0, none⟩)
            | 2 => ∃ x : Int, b.tmps.getD 47 undef = .int .i64 x
            | 3 => ∃ (l' : List HeaderD) (y' : Int) (A7 : Option Addr) (c7 : Nat) (kk : Bool), b.tmps.getD 48 undef = .tuple #[.agg #[.slice A7 l'.length c7, .int .i64 y'], .bool kk] ∧ OwnL headC 6 34 w w5.heap.size w.heap.size A7 l'.length c7 l' ∧ okH l'
            | 4 => ∃ (l' : List HeaderD) (y' : Int) (A7 : Option Addr) (c7 : Nat) (kk : Bool), b.tmps.getD 44 undef = .tuple #[.agg #[.slice A7 l'.length c7, .int .i64 y'], .bool kk] ∧ OwnL headC 6 34 w w5.heap.size w.heap.size A7 l'.length c7 l' ∧ okH l'
            | 5 => ∃ (l' : List HeaderD) (y' : Int) (A7 : Option Addr) (c7 : Nat), b.tmps.getD 49 undef = .agg #[.slice A7 l'.length c7, .int .i64 y'] ∧ OwnL headC 6 34 w w5.heap.size w.heap.size A7 l'.length c7 l' ∧ okH l'
            | 6 => True
            | 7 => ∃ (q : Nat) (cs : Array Value), b.tmps.getD 9 undef = .pointer (some ⟨q, 0, none⟩) ∧ w5.heap.size ≤ q ∧ cs.size = 2 ∧ Blk w q 29 cs
            | 8 => ∃ (q : Nat) (l' : List HeaderD) (y' : Int) (A7 : Option Addr) (c7 : Nat), b.tmps.getD 9 undef = .pointer (some ⟨q, 0, none⟩) ∧ w5.heap.size ≤ q ∧ Blk w q 29 #[.slice A7 l'.length c7, .int .i64 y'] ∧ OwnL headC 6 34 w w5.heap.size w.heap.size A7 l'.length c7 l' ∧ okH l'
            | _ => True) (by kernel_rfl) (by kernel_rfl) (⟨(Chg.refl _ _ _).drew, N5.out.cur.drew⟩) ?_ ?_ ?_
          · intro b wa wb i j oj v hi hj hij hoj hdep hE h
            simp only [List.mem_cons, List.not_mem_nil, or_false] at hi hj
            rcases hj with rfl | rfl | rfl | rfl | rfl | rfl | rfl | rfl | rfl
            all_goals obtain rfl := Option.some.inj hoj
            · rcases hi with rfl | rfl | rfl | rfl | rfl | rfl | rfl | rfl | rfl
              all_goals first | exact absurd rfl hij | exact trivial | (simp only at hE h ⊢; (first | exact trivial | exact getkH h (by decide) | (obtain ⟨p, e, h⟩ := h; exact ⟨p, getkH e (by decide), h⟩) | (obtain ⟨x, e⟩ := h; exact ⟨x, getkH e (by decide)⟩) | (obtain ⟨l', y', A7, c7, kk, e, h, hl⟩ := h; exact ⟨l', y', A7, c7, kk, getkH e (by decide), (h.below hE (Nat.le_refl _)).wide (Nat.le_refl _) hE.size, hl⟩) | (obtain ⟨l', y', A7, c7, e, h, hl⟩ := h; exact ⟨l', y', A7, c7, getkH e (by decide), (h.below hE (Nat.le_refl _)).wide (Nat.le_refl _) hE.size, hl⟩) | (obtain ⟨q, cs, e, h1, h2, h3⟩ := h; exact ⟨q, cs, getkH e (by decide), h1, h2, h3.below hE h3.lt⟩) | (obtain ⟨q, l', y', A7, c7, e, h1, h3, h, hl⟩ := h; exact ⟨q, l', y', A7, c7, getkH e (by decide), h1, h3.below hE h3.lt, (h.below hE (Nat.le_refl _)).wide (Nat.le_refl _) hE.size, hl⟩))) | exact absurd rfl (hdep _ rfl ⟨0, .data⟩ (by simp) rfl)
            · rcases hi with rfl | rfl | rfl | rfl | rfl | rfl | rfl | rfl | rfl
              all_goals first | exact absurd rfl hij | exact trivial | (simp only at hE h ⊢; (first | exact trivial | exact getkH h (by decide) | (obtain ⟨p, e, h⟩ := h; exact ⟨p, getkH e (by decide), h⟩) | (obtain ⟨x, e⟩ := h; exact ⟨x, getkH e (by decide)⟩) | (obtain ⟨l', y', A7, c7, kk, e, h, hl⟩ := h; exact ⟨l', y', A7, c7, kk, getkH e (by decide), (h.below hE (Nat.le_refl _)).wide (Nat.le_refl _) hE.size, hl⟩) | (obtain ⟨l', y', A7, c7, e, h, hl⟩ := h; exact ⟨l', y', A7, c7, getkH e (by decide), (h.below hE (Nat.le_refl _)).wide (Nat.le_refl _) hE.size, hl⟩) | (obtain ⟨q, cs, e, h1, h2, h3⟩ := h; exact ⟨q, cs, getkH e (by decide), h1, h2, h3.below hE h3.lt⟩) | (obtain ⟨q, l', y', A7, c7, e, h1, h3, h, hl⟩ := h; exact ⟨q, l', y', A7, c7, getkH e (by decide), h1, h3.below hE h3.lt, (h.below hE (Nat.le_refl _)).wide (Nat.le_refl _) hE.size, hl⟩))) | exact absurd rfl (hdep _ rfl ⟨1, .data⟩ (by simp) rfl)
            · rcases hi with rfl | rfl | rfl | rfl | rfl | rfl | rfl | rfl | rfl
              all_goals first | exact absurd rfl hij | exact trivial | (simp only at hE h ⊢; (first | exact trivial | exact getkH h (by decide) | (obtain ⟨p, e, h⟩ := h; exact ⟨p, getkH e (by decide), h⟩) | (obtain ⟨x, e⟩ := h; exact ⟨x, getkH e (by decide)⟩) | (obtain ⟨l', y', A7, c7, kk, e, h, hl⟩ := h; exact ⟨l', y', A7, c7, kk, getkH e (by decide), (h.chg hE (.inr (by omega))).wide (Nat.le_refl _) hE.size, hl⟩) | (obtain ⟨l', y', A7, c7, e, h, hl⟩ := h; exact ⟨l', y', A7, c7, getkH e (by decide), (h.chg hE (.inr (by omega))).wide (Nat.le_refl _) hE.size, hl⟩) | (obtain ⟨q, cs, e, h1, h2, h3⟩ := h; exact ⟨q, cs, getkH e (by decide), h1, h2, (hE.block q h3.lt (.inr (by omega))).trans h3⟩) | (obtain ⟨q, l', y', A7, c7, e, h1, h3, h, hl⟩ := h; exact ⟨q, l', y', A7, c7, getkH e (by decide), h1, (hE.block q h3.lt (.inr (by omega))).trans h3, (h.chg hE (.inr (by omega))).wide (Nat.le_refl _) hE.size, hl⟩))) | exact absurd rfl (hdep _ rfl ⟨2, .data⟩ (by simp) rfl)
            · rcases hi with rfl | rfl | rfl | rfl | rfl | rfl | rfl | rfl | rfl
              all_goals first | exact absurd rfl hij | exact trivial | (simp only at hE h ⊢; (first | exact trivial | exact getkH h (by decide) | (obtain ⟨p, e, h⟩ := h; exact ⟨p, getkH e (by decide), h⟩) | (obtain ⟨x, e⟩ := h; exact ⟨x, getkH e (by decide)⟩) | (obtain ⟨l', y', A7, c7, kk, e, h, hl⟩ := h; exact ⟨l', y', A7, c7, kk, getkH e (by decide), (h.below hE (Nat.le_refl _)).wide (Nat.le_refl _) hE.size, hl⟩) | (obtain ⟨l', y', A7, c7, e, h, hl⟩ := h; exact ⟨l', y', A7, c7, getkH e (by decide), (h.below hE (Nat.le_refl _)).wide (Nat.le_refl _) hE.size, hl⟩) | (obtain ⟨q, cs, e, h1, h2, h3⟩ := h; exact ⟨q, cs, getkH e (by decide), h1, h2, h3.below hE h3.lt⟩) | (obtain ⟨q, l', y', A7, c7, e, h1, h3, h, hl⟩ := h; exact ⟨q, l', y', A7, c7, getkH e (by decide), h1, h3.below hE h3.lt, (h.below hE (Nat.le_refl _)).wide (Nat.le_refl _) hE.size, hl⟩))) | exact absurd rfl (hdep _ rfl ⟨3, .data⟩ (by simp) rfl)
            · rcases hi with rfl | rfl | rfl | rfl | rfl | rfl | rfl | rfl | rfl
              all_goals first | exact absurd rfl hij | exact trivial | (simp only at hE h ⊢; (first | exact trivial | exact getkH h (by decide) | (obtain ⟨p, e, h⟩ := h; exact ⟨p, getkH e (by decide), h⟩) | (obtain ⟨x, e⟩ := h; exact ⟨x, getkH e (by decide)⟩) | (obtain ⟨l', y', A7, c7, kk, e, h, hl⟩ := h; exact ⟨l', y', A7, c7, kk, getkH e (by decide), (h.below hE (Nat.le_refl _)).wide (Nat.le_refl _) hE.size, hl⟩) | (obtain ⟨l', y', A7, c7, e, h, hl⟩ := h; exact ⟨l', y', A7, c7, getkH e (by decide), (h.below hE (Nat.le_refl _)).wide (Nat.le_refl _) hE.size, hl⟩) | (obtain ⟨q, cs, e, h1, h2, h3⟩ := h; exact ⟨q, cs, getkH e (by decide), h1, h2, h3.below hE h3.lt⟩) | (obtain ⟨q, l', y', A7, c7, e, h1, h3, h, hl⟩ := h; exact ⟨q, l', y', A7, c7, getkH e (by decide), h1, h3.below hE h3.lt, (h.below hE (Nat.le_refl _)).wide (Nat.le_refl _) hE.size, hl⟩))) | exact absurd rfl (hdep _ rfl ⟨4, .data⟩ (by simp) rfl)
            · rcases hi with rfl | rfl | rfl | rfl | rfl | rfl | rfl | rfl | rfl
              all_goals first | exact absurd rfl hij | exact trivial | (simp only at hE h ⊢; (first | exact trivial | exact getkH h (by decide) | (obtain ⟨p, e, h⟩ := h; exact ⟨p, getkH e (by decide), h⟩) | (obtain ⟨x, e⟩ := h; exact ⟨x, getkH e (by decide)⟩) | (obtain ⟨l', y', A7, c7, kk, e, h, hl⟩ := h; exact ⟨l', y', A7, c7, kk, getkH e (by decide), (h.below hE (Nat.le_refl _)).wide (Nat.le_refl _) hE.size, hl⟩) | (obtain ⟨l', y', A7, c7, e, h, hl⟩ := h; exact ⟨l', y', A7, c7, getkH e (by decide), (h.below hE (Nat.le_refl _)).wide (Nat.le_refl _) hE.size, hl⟩) | (obtain ⟨q, cs, e, h1, h2, h3⟩ := h; exact ⟨q, cs, getkH e (by decide), h1, h2, h3.below hE h3.lt⟩) | (obtain ⟨q, l', y', A7, c7, e, h1, h3, h, hl⟩ := h; exact ⟨q, l', y', A7, c7, getkH e (by decide), h1, h3.below hE h3.lt, (h.below hE (Nat.le_refl _)).wide (Nat.le_refl _) hE.size, hl⟩))) | exact absurd rfl (hdep _ rfl ⟨5, .data⟩ (by simp) rfl)
            · rcases hi with rfl | rfl | rfl | rfl | rfl | rfl | rfl | rfl | rfl
              all_goals first | exact absurd rfl hij | exact trivial | (simp only at hE h ⊢; (first | exact trivial | exact getkH h (by decide) | (obtain ⟨p, e, h⟩ := h; exact ⟨p, getkH e (by decide), h⟩) | (obtain ⟨x, e⟩ := h; exact ⟨x, getkH e (by decide)⟩) | (obtain ⟨l', y', A7, c7, kk, e, h, hl⟩ := h; exact ⟨l', y', A7, c7, kk, getkH e (by decide), (h.below hE (Nat.le_refl _)).wide (Nat.le_refl _) hE.size, hl⟩) | (obtain ⟨l', y', A7, c7, e, h, hl⟩ := h; exact ⟨l', y', A7, c7, getkH e (by decide), (h.below hE (Nat.le_refl _)).wide (Nat.le_refl _) hE.size, hl⟩) | (obtain ⟨q, cs, e, h1, h2, h3⟩ := h; exact ⟨q, cs, getkH e (by decide), h1, h2, h3.below hE h3.lt⟩) | (obtain ⟨q, l', y', A7, c7, e, h1, h3, h, hl⟩ := h; exact ⟨q, l', y', A7, c7, getkH e (by decide), h1, h3.below hE h3.lt, (h.below hE (Nat.le_refl _)).wide (Nat.le_refl _) hE.size, hl⟩))) | exact absurd rfl (hdep _ rfl ⟨6, .data⟩ (by simp) rfl)
            · rcases hi with rfl | rfl | rfl | rfl | rfl | rfl | rfl | rfl | rfl
              all_goals first | exact absurd rfl hij | exact trivial | (simp only at hE h ⊢; (first | exact trivial | exact getkH h (by decide) | (obtain ⟨p, e, h⟩ := h; exact ⟨p, getkH e (by decide), h⟩) | (obtain ⟨x, e⟩ := h; exact ⟨x, getkH e (by decide)⟩) | (obtain ⟨l', y', A7, c7, kk, e, h, hl⟩ := h; exact ⟨l', y', A7, c7, kk, getkH e (by decide), (h.below hE (Nat.le_refl _)).wide (Nat.le_refl _) hE.size, hl⟩) | (obtain ⟨l', y', A7, c7, e, h, hl⟩ := h; exact ⟨l', y', A7, c7, getkH e (by decide), (h.below hE (Nat.le_refl _)).wide (Nat.le_refl _) hE.size, hl⟩) | (obtain ⟨q, cs, e, h1, h2, h3⟩ := h; exact ⟨q, cs, getkH e (by decide), h1, h2, h3.below hE h3.lt⟩) | (obtain ⟨q, l', y', A7, c7, e, h1, h3, h, hl⟩ := h; exact ⟨q, l', y', A7, c7, getkH e (by decide), h1, h3.below hE h3.lt, (h.below hE (Nat.le_refl _)).wide (Nat.le_refl _) hE.size, hl⟩))) | exact absurd rfl (hdep _ rfl ⟨7, .data⟩ (by simp) rfl)
            · rcases hi with rfl | rfl | rfl | rfl | rfl | rfl | rfl | rfl | rfl
              all_goals first | exact absurd rfl hij | exact trivial | (simp only at hE h ⊢; (first | exact trivial | exact getkH h (by decide) | (obtain ⟨p, e, h⟩ := h; exact ⟨p, getkH e (by decide), h⟩) | (obtain ⟨x, e⟩ := h; exact ⟨x, getkH e (by decide)⟩) | (obtain ⟨l', y', A7, c7, kk, e, h, hl⟩ := h; exact ⟨l', y', A7, c7, kk, getkH e (by decide), hE.row (by decide) h, hl⟩) | (obtain ⟨l', y', A7, c7, e, h, hl⟩ := h; exact ⟨l', y', A7, c7, getkH e (by decide), hE.row (by decide) h, hl⟩) | (obtain ⟨q, cs, e, h1, h2, h3⟩ := h; (obtain ⟨cs', g1, g2⟩ := hE.box h3; exact ⟨q, cs', getkH e (by decide), h1, g1.trans h2, g2⟩)) | (obtain ⟨q, l', y', A7, c7, e, h1, h3, h, hl⟩ := h; exact ⟨q, l', y', A7, c7, getkH e (by decide), h1, h3, hE.row (by decide) h, hl⟩))) | exact absurd rfl (hdep _ rfl ⟨8, .data⟩ (by simp) rfl)
          · intro j o hj ho a' w' hC hsame hdep
            have hz : w5.heap.size ≤ w'.heap.size := hC.1.size
            simp only [List.mem_cons, List.not_mem_nil, or_false] at hj
            rcases hj with rfl | rfl | rfl | rfl | rfl | rfl | rfl | rfl | rfl
            all_goals obtain rfl := Option.some.inj ho
            · have hs : a'.tmps.getD 5 undef = .pointer (some ⟨w.heap.size + 1, 0, none⟩) := hsame 5 (by rfl)
              have zz : ∀ o, w'.cell? ⟨w.heap.size + 1, o, none⟩ = _ := fun o => (hC.1.cell (k := w.heap.size + 1) h5 (.inr (by omega))).trans (tg o)
              refine wp_val (w2 := w') (.agg #[.slice B l.length d, .int .i64 y]) (fun K hK => ?_) ⟨_, rfl, hC, Below.refl _ _, fun b hb hb2 => hb 45 rfl⟩
              clear hsame hdep
              unfold Oper.wp
              simp [execOp, Act.eval, go_sem, hs, zz]
              exact hK
            · have hs : a'.tmps.getD 0 undef = .pointer (some ⟨cb, 0, none⟩) := hsame 0 (by rfl)
              refine wp_val (w2 := w') (.pointer (some ⟨cb, 0, none⟩)) (fun K hK => ?_) ⟨_, rfl, hC, Below.refl _ _, fun b hb hb2 => hb 46 rfl⟩
              clear hsame hdep
              unfold Oper.wp
              simp [execOp, Act.eval, go_sem, hs]
              exact hK
            · have e1 : a'.tmps.getD 46 undef = .pointer (some ⟨cb, 0, none⟩) := hdep ⟨1, .data⟩ (by simp) rfl
              refine wp_call (fun u wq => (∃ x : Int, u = .int .i64 x) ∧ Chg cb (cb + 1) w' wq ∧ Cur wq cb A n c) (fun K hK => ?_) ?_
              · clear hsame hdep
                unfold Oper.wp
                simp [Act.eval, e1, go_sem]
                refine (l1Below_any cb A n c 6 _ hC.2 (by omega)).mono ?_
                rintro e w3 ⟨v, rfl, ⟨x, rfl, _, _⟩, hg, hu⟩
                exact hK _ _ ⟨⟨x, rfl⟩, hg, hu⟩
              · rintro u w3 ⟨⟨x, rfl⟩, hg, hu⟩
                exact ⟨_, rfl, ⟨hC.1.trans hg, hu⟩, hg, fun b hb _ => ⟨x, hb 47 rfl⟩⟩
            · have e1 : a'.tmps.getD 45 undef = .agg #[.slice B l.length d, .int .i64 y] := hdep ⟨0, .data⟩ (by simp) rfl
              obtain ⟨x, e2⟩ := hdep ⟨2, .data⟩ (by simp) rfl
              have ho : OwnL headC 6 34 w' (w.heap.size + 1 + 1) w'.heap.size B l.length d l := (N5.out.own.chg hC.1 (.inr (by omega))).wide (Nat.le_refl _) hz
              have hr : RdL headC 6 w' w'.heap.size B l.length d l := ho.rd headC_len
              refine wp_call (fun u wq => ∃ (l' : List HeaderD) (y' : Int) (A7 : Option Addr) (c7 : Nat) (kk : Bool), u = .tuple #[.agg #[.slice A7 l'.length c7, .int .i64 y'], .bool kk] ∧ (OwnL headC 6 34 wq w5.heap.size wq.heap.size A7 l'.length c7 l' ∧ okH l') ∧ Below w'.heap.size w' wq) (fun K hK => ?_) ?_
              · clear hsame hdep ho
                unfold Oper.wp
                simp [Act.eval, e1, e2, go_sem]
                refine (sStorePrune_any y B d l x _ hr).mono ?_
                rintro e w3 ⟨A7, c7, rfl, ho, hb3⟩
                exact hK _ _ ⟨_, _, A7, c7, _, rfl, ⟨ho.wide hz (Nat.le_refl _), pruneL_ok N5.out.sm⟩, hb3⟩
              · rintro u w3 ⟨l', y', A7, c7, kk, rfl, hrr, hb3⟩
                exact ⟨_, rfl, ⟨hC.1.below_trans hb3, hC.2.below hb3 hC.2.lt (Nat.le_refl _)⟩, hb3, fun b hb _ => ⟨l', y', A7, c7, kk, hb 48 rfl, hrr⟩⟩
            · obtain ⟨l', y', A7, c7, kk, e1, hrr⟩ := hdep ⟨3, .data⟩ (by simp) rfl
              refine wp_val (w2 := w') (.tuple #[.agg #[.slice A7 l'.length c7, .int .i64 y'], .bool kk]) (fun K hK => ?_) ⟨_, rfl, hC, Below.refl _ _, fun b hb hb2 => ⟨l', y', A7, c7, kk, hb 44 rfl, hrr⟩⟩
              clear hsame hdep
              unfold Oper.wp
              simp [execOp, Act.eval, go_sem, e1]
              exact hK
            · obtain ⟨l', y', A7, c7, kk, e1, hrr⟩ := hdep ⟨4, .data⟩ (by simp) rfl
              refine wp_val (w2 := w') (.agg #[.slice A7 l'.length c7, .int .i64 y']) (fun K hK => ?_) ⟨_, rfl, hC, Below.refl _ _, fun b hb hb2 => ⟨l', y', A7, c7, hb 49 rfl, hrr⟩⟩
              clear hsame hdep
              unfold Oper.wp
              simp [execOp, Act.eval, go_sem, e1]
              exact hK
            · obtain ⟨l', y', A7, c7, kk, e1, hrr⟩ := hdep ⟨4, .data⟩ (by simp) rfl
              refine wp_val (w2 := w') (.bool kk) (fun K hK => ?_) ⟨_, rfl, hC, Below.refl _ _, fun b hb hb2 => trivial⟩
              clear hsame hdep
              unfold Oper.wp
              simp [execOp, Act.eval, go_sem, e1]
              exact hK
            · refine wp_val (w2 := w'.alloc (.cells #[.slice none 0 0, .int .i64 0] 29)) (.pointer (some ⟨w'.heap.size, 0, none⟩)) (fun K hK => ?_) ⟨_, rfl, ⟨hC.1.alloc _, hC.2.alloc _⟩, (Below.refl _ _).alloc (Nat.le_refl _) _, fun b hb hb2 => ⟨w'.heap.size, _, hb 9 rfl, hz, rfl, heap_alloc_new w' _⟩⟩
              clear hsame hdep
              unfold Oper.wp
              simp [execOp, go_sem]
              exact hK
            · obtain ⟨q0, cs0, e1, hq0, hsz, hblk⟩ := hdep ⟨7, .data⟩ (by simp) rfl
              obtain ⟨l', y', A7, c7, e2, hro, hl⟩ := hdep ⟨5, .data⟩ (by simp) rfl
              obtain ⟨lc⟩ := cs0
              obtain ⟨k0, k1, rfl⟩ := listH2 (l := lc) (by simpa using hsz)
              have f0 : w'.cell? ⟨q0, 0, none⟩ = some k0 := by rw [hblk.cell]; rfl
              have f1 : w'.cell? ⟨q0, 1, none⟩ = some k1 := by rw [hblk.cell]; rfl
              have ff := hblk.frozen
              obtain ⟨w9, hw9⟩ : ∃ z, z = ((w'.setCell ⟨q0, 0, none⟩ (.slice A7 l'.length c7)).setCell ⟨q0, 1, none⟩ (.int .i64 y')) := ⟨_, rfl⟩
              have hchg : Chg q0 (q0 + 1) w' w9 := by rw [hw9]; (repeat (first | with_reducible refine Chg.setCell ?_ (by first | exact Nat.le_refl _ | (simp; done) | (simp; omega)) (by first | (simp; done) | (simp; omega)) _ | with_reducible refine Chg.alloc ?_ _ | with_reducible refine Chg.drew ?_)); (with_reducible exact Chg.refl _ _ _)
              have hblk2 : Blk w9 q0 29 #[.slice A7 l'.length c7, .int .i64 y'] := by
                rw [hw9]
                have hb := (hblk.set_ 0 (.slice A7 l'.length c7)).set_ 1 (.int .i64 y')
                simp only [List.setIfInBounds_toArray, List.set_cons_zero, List.set_cons_succ] at hb
                exact hb
              have hturn := BoxTurn.of_blk hblk hblk2 rfl hchg
              have hown := hturn.row (by decide) hro
              have hcls : Chg cb (cb + 1) w5 w9 ∧ Cur w9 cb A n c := ⟨hC.1.trans_topT (D := q0) hq0 hchg, hC.2.chg hchg (by omega)⟩
              refine wp_val (w2 := w9) undef (fun K hK => ?_) ⟨_, rfl, hcls, hturn, fun b _ hb => ⟨q0, l', y', A7, c7, (hb 9 (by intro d h; cases h)).trans e1, hq0, hblk2, hown, hl⟩⟩
              rw [hw9] at hK
              clear hsame hdep hchg hblk2 hturn hcls hown hw9
              unfold Oper.wp
              simp [execOp, Act.eval, e1, e2, go_sem, f0, f1, ff]
              exact hK
          · intro a' w' hC ha hP
            obtain ⟨q0, l', y', A7, c7, e1, hq0, hblk, ho, hl⟩ := hP 8 (by simp)
            clear hP
            simp only [coreOps, List.filterMap_cons, List.filterMap_nil, List.getElem?_cons_zero, List.getElem?_cons_succ, fillA, slotOf, Act.put, e1] at ha
            generalize a'.tmps.getD 45 undef = u45 at ha
            generalize a'.tmps.getD 46 undef = u46 at ha
            generalize a'.tmps.getD 47 undef = u47 at ha
            generalize a'.tmps.getD 48 undef = u48 at ha
            generalize a'.tmps.getD 44 undef = u44 at ha
            generalize a'.tmps.getD 49 undef = u49 at ha
            generalize a'.tmps.getD 50 undef = u50 at ha
            subst ha
            clear e1
            show wpAny _ _ _ _ 1 _ _ _
            refine wpAny_ready (rs := [9]) (by kernel_rfl) (by simp) ?_
            refine AllReady.cons rfl (fun K hK => ?_) AllReady.nil
            go_simp
            refine hK _ _ ?_
            clear hK K
            refine wpAny_done (by kernel_rfl) ?_ _
            go_wp2_with fail
            go_meet
            exact ⟨q0, l', y', A7, c7, rfl, hq0, hblk, ho, hl, hC.1, hC.2⟩
        case rest =>
        obtain ⟨q, l', y', A7, c7, rfl, hq, hblk, ho, hk', hg, hu⟩ := hcut
        obtain ⟨w9, hwc⟩ : ∃ z, z = wc := ⟨_, rfl⟩
        subst hwc
        have N9 := Lib.hid (N5.out.call hg hu hlt hcT)
        have hO := Lib.hid (ho.wide (lo' := w.heap.size + 1 + 1) (hi' := w9.heap.size) (by omega) (Nat.le_refl _))
        have qg := hblk.cell
        clear tg tf ho hg hu N5 hblk
        have h9 := N9.out.box.lt
        have tg := N9.out.box.cell
        have tf := N9.out.box.frozen
        go_wp2_with fail
        go_roundw
        case rel => exact ⟨k - 1, y', l', A7, c7, by omega, by go_num, N9.out.fill hRT hcT h0T y' hO.out hk', hk'.1⟩
        case measure => simp [intOf]; omega
      · go_upto_region 15 with fail
        go_cut [11, 12] (fun sp _ wx => ∃ (q : Nat) (l' : List HeaderD) (y' : Int) (A7 : Option Addr) (c7 : Nat), sp = .pointer (some ⟨q, 0, none⟩) ∧ w5.heap.size ≤ q ∧ Blk wx q 29 #[.slice A7 l'.length c7, .int .i64 y'] ∧ OwnL headC 6 34 wx w5.heap.size wx.heap.size A7 l'.length c7 l' ∧ okH l' ∧ Chg cb (cb + 1) w5 wx ∧ Cur wx cb A n c)
        case first =>
          refine wp_region_core2 [0, 1, 2, 3, 4, 5, 6, 7, 8] (fun w => Chg cb (cb + 1) w5 w ∧ Cur w cb A n c) (fun j wa wb => match j with | 2 => Chg cb (cb + 1) wa wb | 8 => BoxTurn 29 wa wb | _ => Below wa.heap.size wa wb) (fun i b w => match i with
            | 0 => b.tmps.getD 55 undef = .agg #[.slice B l.length d, .int .i64 y]
            | 1 => b.tmps.getD 56 undef = .pointer (some ⟨cb, 0, none⟩)
            | 2 => ∃ x : Int, b.tmps.getD 57 undef = .int .i64 x
            | 3 => ∃ (l' : List HeaderD) (y' : Int) (A7 : Option Addr) (c7 : Nat) (kk : Bool), b.tmps.getD 58 undef = .tuple #[.agg #[.slice A7 l'.length c7, .int .i64 y'], .bool kk] ∧ OwnL headC 6 34 w w5.heap.size w.heap.size A7 l'.length c7 l' ∧ okH l'
            | 4 => ∃ (l' : List HeaderD) (y' : Int) (A7 : Option Addr) (c7 : Nat) (kk : Bool), b.tmps.getD 54 undef = .tuple #[.agg #[.slice A7 l'.length c7, .int .i64 y'], .bool kk] ∧ OwnL headC 6 34 w w5.heap.size w.heap.size A7 l'.length c7 l' ∧ okH l'
            | 5 => ∃ (l' : List HeaderD) (y' : Int) (A7 : Option Addr) (c7 : Nat), b.tmps.getD 59 undef = .agg #[.slice A7 l'.length c7, .int .i64 y'] ∧ OwnL headC 6 34 w w5.heap.size w.heap.size A7 l'.length c7 l' ∧ okH l'
            | 6 => True
            | 7 => ∃ (q : Nat) (cs : Array Value), b.tmps.getD 11 undef = .pointer (some ⟨q, 0, none⟩) ∧ w5.heap.size ≤ q ∧ cs.size = 2 ∧ Blk w q 29 cs
            | 8 => ∃ (q : Nat) (l' : List HeaderD) (y' : Int) (A7 : Option Addr) (c7 : Nat), b.tmps.getD 11 undef = .pointer (some ⟨q, 0, none⟩) ∧ w5.heap.size ≤ q ∧ Blk w q 29 #[.slice A7 l'.length c7, .int .i64 y'] ∧ OwnL headC 6 34 w w5.heap.size w.heap.size A7 l'.length c7 l' ∧ okH l'
            | _ => True) (by kernel_rfl) (by kernel_rfl) (⟨(Chg.refl _ _ _).drew, N5.out.cur.drew⟩) ?_ ?_ ?_
          · intro b wa wb i j oj v hi hj hij hoj hdep hE h
            simp only [List.mem_cons, List.not_mem_nil, or_false] at hi hj
            rcases hj with rfl | rfl | rfl | rfl | rfl | rfl | rfl | rfl | rfl
            all_goals obtain rfl := Option.some.inj hoj
            · rcases hi with rfl | rfl | rfl | rfl | rfl | rfl | rfl | rfl | rfl
              all_goals first | exact absurd rfl hij | exact trivial | (simp only at hE h ⊢; (first | exact trivial | exact getkH h (by decide) | (obtain ⟨p, e, h⟩ := h; exact ⟨p, getkH e (by decide), h⟩) | (obtain ⟨x, e⟩ := h; exact ⟨x, getkH e (by decide)⟩) | (obtain ⟨l', y', A7, c7, kk, e, h, hl⟩ := h; exact ⟨l', y', A7, c7, kk, getkH e (by decide), (h.below hE (Nat.le_refl _)).wide (Nat.le_refl _) hE.size, hl⟩) | (obtain ⟨l', y', A7, c7, e, h, hl⟩ := h; exact ⟨l', y', A7, c7, getkH e (by decide), (h.below hE (Nat.le_refl _)).wide (Nat.le_refl _) hE.size, hl⟩) | (obtain ⟨q, cs, e, h1, h2, h3⟩ := h; exact ⟨q, cs, getkH e (by decide), h1, h2, h3.below hE h3.lt⟩) | (obtain ⟨q, l', y', A7, c7, e, h1, h3, h, hl⟩ := h; exact ⟨q, l', y', A7, c7, getkH e (by decide), h1, h3.below hE h3.lt, (h.below hE (Nat.le_refl _)).wide (Nat.le_refl _) hE.size, hl⟩))) | exact absurd rfl (hdep _ rfl ⟨0, .data⟩ (by simp) rfl)
            · rcases hi with rfl | rfl | rfl | rfl | rfl | rfl | rfl | rfl | rfl
              all_goals first | exact absurd rfl hij | exact trivial | (simp only at hE h ⊢; (first | exact trivial | exact getkH h (by decide) | (obtain ⟨p, e, h⟩ := h; exact ⟨p, getkH e (by decide), h⟩) | (obtain ⟨x, e⟩ := h; exact ⟨x, getkH e (by decide)⟩) | (obtain ⟨l', y', A7, c7, kk, e, h, hl⟩ := h; exact ⟨l', y', A7, c7, kk, getkH e (by decide), (h.below hE (Nat.le_refl _)).wide (Nat.le_refl _) hE.size, hl⟩) | (obtain ⟨l', y', A7, c7, e, h, hl⟩ := h; exact ⟨l', y', A7, c7, getkH e (by decide), (h.below hE (Nat.le_refl _)).wide (Nat.le_refl _) hE.size, hl⟩) | (obtain ⟨q, cs, e, h1, h2, h3⟩ := h; exact ⟨q, cs, getkH e (by decide), h1, h2, h3.below hE h3.lt⟩) | (obtain ⟨q, l', y', A7, c7, e, h1, h3, h, hl⟩ := h; exact ⟨q, l', y', A7, c7, getkH e (by decide), h1, h3.below hE h3.lt, (h.below hE (Nat.le_refl _)).wide (Nat.le_refl _) hE.size, hl⟩))) | exact absurd rfl (hdep _ rfl ⟨1, .data⟩ (by simp) rfl)
            · rcases hi with rfl | rfl | rfl | rfl | rfl | rfl | rfl | rfl | rfl
              all_goals first | exact absurd rfl hij | exact trivial | (simp only at hE h ⊢; (first | exact trivial | exact getkH h (by decide) | (obtain ⟨p, e, h⟩ := h; exact ⟨p, getkH e (by decide), h⟩) | (obtain ⟨x, e⟩ := h; exact ⟨x, getkH e (by decide)⟩) | (obtain ⟨l', y', A7, c7, kk, e, h, hl⟩ := h; exact ⟨l', y', A7, c7, kk, getkH e (by decide), (h.chg hE (.inr (by omega))).wide (Nat.le_refl _) hE.size, hl⟩) | (obtain ⟨l', y', A7, c7, e, h, hl⟩ := h; exact ⟨l', y', A7, c7, getkH e (by decide), (h.chg hE (.inr (by omega))).wide (Nat.le_refl _) hE.size, hl⟩) | (obtain ⟨q, cs, e, h1, h2, h3⟩ := h; exact ⟨q, cs, getkH e (by decide), h1, h2, (hE.block q h3.lt (.inr (by omega))).trans h3⟩) | (obtain ⟨q, l', y', A7, c7, e, h1, h3, h, hl⟩ := h; exact ⟨q, l', y', A7, c7, getkH e (by decide), h1, (hE.block q h3.lt (.inr (by omega))).trans h3, (h.chg hE (.inr (by omega))).wide (Nat.le_refl _) hE.size, hl⟩))) | exact absurd rfl (hdep _ rfl ⟨2, .data⟩ (by simp) rfl)
            · rcases hi with rfl | rfl | rfl | rfl | rfl | rfl | rfl | rfl | rfl
              all_goals first | exact absurd rfl hij | exact trivial | (simp only at hE h ⊢; (first | exact trivial | exact getkH h (by decide) | (obtain ⟨p, e, h⟩ := h; exact ⟨p, getkH e (by decide), h⟩) | (obtain ⟨x, e⟩ := h; exact ⟨x, getkH e (by decide)⟩) | (obtain ⟨l', y', A7, c7, kk, e, h, hl⟩ := h; exact ⟨l', y', A7, c7, kk, getkH e (by decide), (h.below hE (Nat.le_refl _)).wide (Nat.le_refl _) hE.size, hl⟩) | (obtain ⟨l', y', A7, c7, e, h, hl⟩ := h; exact ⟨l', y', A7, c7, getkH e (by decide), (h.below hE (Nat.le_refl _)).wide (Nat.le_refl _) hE.size, hl⟩) | (obtain ⟨q, cs, e, h1, h2, h3⟩ := h; exact ⟨q, cs, getkH e (by decide), h1, h2, h3.below hE h3.lt⟩) | (obtain ⟨q, l', y', A7, c7, e, h1, h3, h, hl⟩ := h; exact ⟨q, l', y', A7, c7, getkH e (by decide), h1, h3.below hE h3.lt, (h.below hE (Nat.le_refl _)).wide (Nat.le_refl _) hE.size, hl⟩))) | exact absurd rfl (hdep _ rfl ⟨3, .data⟩ (by simp) rfl)
            · rcases hi with rfl | rfl | rfl | rfl | rfl | rfl | rfl | rfl | rfl
              all_goals first | exact absurd rfl hij | exact trivial | (simp only at hE h ⊢; (first | exact trivial | exact getkH h (by decide) | (obtain ⟨p, e, h⟩ := h; exact ⟨p, getkH e (by decide), h⟩) | (obtain ⟨x, e⟩ := h; exact ⟨x, getkH e (by decide)⟩) | (obtain ⟨l', y', A7, c7, kk, e, h, hl⟩ := h; exact ⟨l', y', A7, c7, kk, getkH e (by decide), (h.below hE (Nat.le_refl _)).wide (Nat.le_refl _) hE.size, hl⟩) | (obtain ⟨l', y', A7, c7, e, h, hl⟩ := h; exact ⟨l', y', A7, c7, getkH e (by decide), (h.below hE (Nat.le_refl _)).wide (Nat.le_refl _) hE.size, hl⟩) | (obtain ⟨q, cs, e, h1, h2, h3⟩ := h; exact ⟨q, cs, getkH e (by decide), h1, h2, h3.below hE h3.lt⟩) | (obtain ⟨q, l', y', A7, c7, e, h1, h3, h, hl⟩ := h; exact ⟨q, l', y', A7, c7, getkH e (by decide), h1, h3.below hE h3.lt, (h.below hE (Nat.le_refl _)).wide (Nat.le_refl _) hE.size, hl⟩))) | exact absurd rfl (hdep _ rfl ⟨4, .data⟩ (by simp) rfl)
            · rcases hi with rfl | rfl | rfl | rfl | rfl | rfl | rfl | rfl | rfl
              all_goals first | exact absurd rfl hij | exact trivial | (simp only at hE h ⊢; (first | exact trivial | exact getkH h (by decide) | (obtain ⟨p, e, h⟩ := h; exact ⟨p, getkH e (by decide), h⟩) | (obtain ⟨x, e⟩ := h; exact ⟨x, getkH e (by decide)⟩) | (obtain ⟨l', y', A7, c7, kk, e, h, hl⟩ := h; exact ⟨l', y', A7, c7, kk, getkH e (by decide), (h.below hE (Nat.le_refl _)).wide (Nat.le_refl _) hE.size, hl⟩) | (obtain ⟨l', y', A7, c7, e, h, hl⟩ := h; exact ⟨l', y', A7, c7, getkH e (by decide), (h.below hE (Nat.le_refl _)).wide (Nat.le_refl _) hE.size, hl⟩) | (obtain ⟨q, cs, e, h1, h2, h3⟩ := h; exact ⟨q, cs, getkH e (by decide), h1, h2, h3.below hE h3.lt⟩) | (obtain ⟨q, l', y', A7, c7, e, h1, h3, h, hl⟩ := h; exact ⟨q, l', y', A7, c7, getkH e (by decide), h1, h3.below hE h3.lt, (h.below hE (Nat.le_refl _)).wide (Nat.le_refl _) hE.size, hl⟩))) | exact absurd rfl (hdep _ rfl ⟨5, .data⟩ (by simp) rfl)
            · rcases hi with rfl | rfl | rfl | rfl | rfl | rfl | rfl | rfl | rfl
              all_goals first | exact absurd rfl hij | exact trivial | (simp only at hE h ⊢; (first | exact trivial | exact getkH h (by decide) | (obtain ⟨p, e, h⟩ := h; exact ⟨p, getkH e (by decide), h⟩) | (obtain ⟨x, e⟩ := h; exact ⟨x, getkH e (by decide)⟩) | (obtain ⟨l', y', A7, c7, kk, e, h, hl⟩ := h; exact ⟨l', y', A7, c7, kk, getkH e (by decide), (h.below hE (Nat.le_refl _)).wide (Nat.le_refl _) hE.size, hl⟩) | (obtain ⟨l', y', A7, c7, e, h, hl⟩ := h; exact ⟨l', y', A7, c7, getkH e (by decide), (h.below hE (Nat.le_refl _)).wide (Nat.le_refl _) hE.size, hl⟩) | (obtain ⟨q, cs, e, h1, h2, h3⟩ := h; exact ⟨q, cs, getkH e (by decide), h1, h2, h3.below hE h3.lt⟩) | (obtain ⟨q, l', y', A7, c7, e, h1, h3, h, hl⟩ := h; exact ⟨q, l', y', A7, c7, getkH e (by decide), h1, h3.below hE h3.lt, (h.below hE (Nat.le_refl _)).wide (Nat.le_refl _) hE.size, hl⟩))) | exact absurd rfl (hdep _ rfl ⟨6, .data⟩ (by simp) rfl)
            · rcases hi with rfl | rfl | rfl | rfl | rfl | rfl | rfl | rfl | rfl
              all_goals first | exact absurd rfl hij | exact trivial | (simp only at hE h ⊢; (first | exact trivial | exact getkH h (by decide) | (obtain ⟨p, e, h⟩ := h; exact ⟨p, getkH e (by decide), h⟩) | (obtain ⟨x, e⟩ := h; exact ⟨x, getkH e (by decide)⟩) | (obtain ⟨l', y', A7, c7, kk, e, h, hl⟩ := h; exact ⟨l', y', A7, c7, kk, getkH e (by decide), (h.below hE (Nat.le_refl _)).wide (Nat.le_refl _) hE.size, hl⟩) | (obtain ⟨l', y', A7, c7, e, h, hl⟩ := h; exact ⟨l', y', A7, c7, getkH e (by decide), (h.below hE (Nat.le_refl _)).wide (Nat.le_refl _) hE.size, hl⟩) | (obtain ⟨q, cs, e, h1, h2, h3⟩ := h; exact ⟨q, cs, getkH e (by decide), h1, h2, h3.below hE h3.lt⟩) | (obtain ⟨q, l', y', A7, c7, e, h1, h3, h, hl⟩ := h; exact ⟨q, l', y', A7, c7, getkH e (by decide), h1, h3.below hE h3.lt, (h.below hE (Nat.le_refl _)).wide (Nat.le_refl _) hE.size, hl⟩))) | exact absurd rfl (hdep _ rfl ⟨7, .data⟩ (by simp) rfl)
            · rcases hi with rfl | rfl | rfl | rfl | rfl | rfl | rfl | rfl | rfl
              all_goals first | exact absurd rfl hij | exact trivial | (simp only at hE h ⊢; (first | exact trivial | exact getkH h (by decide) | (obtain ⟨p, e, h⟩ := h; exact ⟨p, getkH e (by decide), h⟩) | (obtain ⟨x, e⟩ := h; exact ⟨x, getkH e (by decide)⟩) | (obtain ⟨l', y', A7, c7, kk, e, h, hl⟩ := h; exact ⟨l', y', A7, c7, kk, getkH e (by decide), hE.row (by decide) h, hl⟩) | (obtain ⟨l', y', A7, c7, e, h, hl⟩ := h; exact ⟨l', y', A7, c7, getkH e (by decide), hE.row (by decide) h, hl⟩) | (obtain ⟨q, cs, e, h1, h2, h3⟩ := h; (obtain ⟨cs', g1, g2⟩ := hE.box h3; exact ⟨q, cs', getkH e (by decide), h1, g1.trans h2, g2⟩)) | (obtain ⟨q, l', y', A7, c7, e, h1, h3, h, hl⟩ := h; exact ⟨q, l', y', A7, c7, getkH e (by decide), h1, h3, hE.row (by decide) h, hl⟩))) | exact absurd rfl (hdep _ rfl ⟨8, .data⟩ (by simp) rfl)
          · intro j o hj ho a' w' hC hsame hdep
            have hz : w5.heap.size ≤ w'.heap.size := hC.1.size
            simp only [List.mem_cons, List.not_mem_nil, or_false] at hj
            rcases hj with rfl | rfl | rfl | rfl | rfl | rfl | rfl | rfl | rfl
            all_goals obtain rfl := Option.some.inj ho
            · have hs : a'.tmps.getD 5 undef = .pointer (some ⟨w.heap.size + 1, 0, none⟩) := hsame 5 (by rfl)
              have zz : ∀ o, w'.cell? ⟨w.heap.size + 1, o, none⟩ = _ := fun o => (hC.1.cell (k := w.heap.size + 1) h5 (.inr (by omega))).trans (tg o)
              refine wp_val (w2 := w') (.agg #[.slice B l.length d, .int .i64 y]) (fun K hK => ?_) ⟨_, rfl, hC, Below.refl _ _, fun b hb hb2 => hb 55 rfl⟩
              clear hsame hdep
              unfold Oper.wp
              simp [execOp, Act.eval, go_sem, hs, zz]
              exact hK
            · have hs : a'.tmps.getD 0 undef = .pointer (some ⟨cb, 0, none⟩) := hsame 0 (by rfl)
              refine wp_val (w2 := w') (.pointer (some ⟨cb, 0, none⟩)) (fun K hK => ?_) ⟨_, rfl, hC, Below.refl _ _, fun b hb hb2 => hb 56 rfl⟩
              clear hsame hdep
              unfold Oper.wp
              simp [execOp, Act.eval, go_sem, hs]
              exact hK
            · have e1 : a'.tmps.getD 56 undef = .pointer (some ⟨cb, 0, none⟩) := hdep ⟨1, .data⟩ (by simp) rfl
              refine wp_call (fun u wq => (∃ x : Int, u = .int .i64 x) ∧ Chg cb (cb + 1) w' wq ∧ Cur wq cb A n c) (fun K hK => ?_) ?_
              · clear hsame hdep
                unfold Oper.wp
                simp [Act.eval, e1, go_sem]
                refine (l1Below_any cb A n c 3 _ hC.2 (by omega)).mono ?_
                rintro e w3 ⟨v, rfl, ⟨x, rfl, _, _⟩, hg, hu⟩
                exact hK _ _ ⟨⟨x, rfl⟩, hg, hu⟩
              · rintro u w3 ⟨⟨x, rfl⟩, hg, hu⟩
                exact ⟨_, rfl, ⟨hC.1.trans hg, hu⟩, hg, fun b hb _ => ⟨x, hb 57 rfl⟩⟩
            · have e1 : a'.tmps.getD 55 undef = .agg #[.slice B l.length d, .int .i64 y] := hdep ⟨0, .data⟩ (by simp) rfl
              obtain ⟨x, e2⟩ := hdep ⟨2, .data⟩ (by simp) rfl
              have ho : OwnL headC 6 34 w' (w.heap.size + 1 + 1) w'.heap.size B l.length d l := (N5.out.own.chg hC.1 (.inr (by omega))).wide (Nat.le_refl _) hz
              have hr : RdL headC 6 w' w'.heap.size B l.length d l := ho.rd headC_len
              refine wp_call (fun u wq => ∃ (l' : List HeaderD) (y' : Int) (A7 : Option Addr) (c7 : Nat) (kk : Bool), u = .tuple #[.agg #[.slice A7 l'.length c7, .int .i64 y'], .bool kk] ∧ (OwnL headC 6 34 wq w5.heap.size wq.heap.size A7 l'.length c7 l' ∧ okH l') ∧ Below w'.heap.size w' wq) (fun K hK => ?_) ?_
              · clear hsame hdep ho
                unfold Oper.wp
                simp [Act.eval, e1, e2, go_sem]
                refine (sStoreFall_any y B d l x _ hr).mono ?_
                rintro e w3 ⟨A7, c7, rfl, ho, hb3⟩
                exact hK _ _ ⟨_, _, A7, c7, _, rfl, ⟨ho.wide hz (Nat.le_refl _), fallL_ok N5.out.sm⟩, hb3⟩
              · rintro u w3 ⟨l', y', A7, c7, kk, rfl, hrr, hb3⟩
                exact ⟨_, rfl, ⟨hC.1.below_trans hb3, hC.2.below hb3 hC.2.lt (Nat.le_refl _)⟩, hb3, fun b hb _ => ⟨l', y', A7, c7, kk, hb 58 rfl, hrr⟩⟩
            · obtain ⟨l', y', A7, c7, kk, e1, hrr⟩ := hdep ⟨3, .data⟩ (by simp) rfl
              refine wp_val (w2 := w') (.tuple #[.agg #[.slice A7 l'.length c7, .int .i64 y'], .bool kk]) (fun K hK => ?_) ⟨_, rfl, hC, Below.refl _ _, fun b hb hb2 => ⟨l', y', A7, c7, kk, hb 54 rfl, hrr⟩⟩
              clear hsame hdep
              unfold Oper.wp
              simp [execOp, Act.eval, go_sem, e1]
              exact hK
            · obtain ⟨l', y', A7, c7, kk, e1, hrr⟩ := hdep ⟨4, .data⟩ (by simp) rfl
              refine wp_val (w2 := w') (.agg #[.slice A7 l'.length c7, .int .i64 y']) (fun K hK => ?_) ⟨_, rfl, hC, Below.refl _ _, fun b hb hb2 => ⟨l', y', A7, c7, hb 59 rfl, hrr⟩⟩
              clear hsame hdep
              unfold Oper.wp
              simp [execOp, Act.eval, go_sem, e1]
              exact hK
            · obtain ⟨l', y', A7, c7, kk, e1, hrr⟩ := hdep ⟨4, .data⟩ (by simp) rfl
              refine wp_val (w2 := w') (.bool kk) (fun K hK => ?_) ⟨_, rfl, hC, Below.refl _ _, fun b hb hb2 => trivial⟩
              clear hsame hdep
              unfold Oper.wp
              simp [execOp, Act.eval, go_sem, e1]
              exact hK
            · refine wp_val (w2 := w'.alloc (.cells #[.slice none 0 0, .int .i64 0] 29)) (.pointer (some ⟨w'.heap.size, 0, none⟩)) (fun K hK => ?_) ⟨_, rfl, ⟨hC.1.alloc _, hC.2.alloc _⟩, (Below.refl _ _).alloc (Nat.le_refl _) _, fun b hb hb2 => ⟨w'.heap.size, _, hb 11 rfl, hz, rfl, heap_alloc_new w' _⟩⟩
              clear hsame hdep
              unfold Oper.wp
              simp [execOp, go_sem]
              exact hK
            · obtain ⟨q0, cs0, e1, hq0, hsz, hblk⟩ := hdep ⟨7, .data⟩ (by simp) rfl
              obtain ⟨l', y', A7, c7, e2, hro, hl⟩ := hdep ⟨5, .data⟩ (by simp) rfl
              obtain ⟨lc⟩ := cs0
              obtain ⟨k0, k1, rfl⟩ := listH2 (l := lc) (by simpa using hsz)
              have f0 : w'.cell? ⟨q0, 0, none⟩ = some k0 := by rw [hblk.cell]; rfl
              have f1 : w'.cell? ⟨q0, 1, none⟩ = some k1 := by rw [hblk.cell]; rfl
              have ff := hblk.frozen
              obtain ⟨w9, hw9⟩ : ∃ z, z = ((w'.setCell ⟨q0, 0, none⟩ (.slice A7 l'.length c7)).setCell ⟨q0, 1, none⟩ (.int .i64 y')) := ⟨_, rfl⟩
              have hchg : Chg q0 (q0 + 1) w' w9 := by rw [hw9]; (repeat (first | with_reducible refine Chg.setCell ?_ (by first | exact Nat.le_refl _ | (simp; done) | (simp; omega)) (by first | (simp; done) | (simp; omega)) _ | with_reducible refine Chg.alloc ?_ _ | with_reducible refine Chg.drew ?_)); (with_reducible exact Chg.refl _ _ _)
              have hblk2 : Blk w9 q0 29 #[.slice A7 l'.length c7, .int .i64 y'] := by
                rw [hw9]
                have hb := (hblk.set_ 0 (.slice A7 l'.length c7)).set_ 1 (.int .i64 y')
                simp only [List.setIfInBounds_toArray, List.set_cons_zero, List.set_cons_succ] at hb
                exact hb
              have hturn := BoxTurn.of_blk hblk hblk2 rfl hchg
              have hown := hturn.row (by decide) hro
              have hcls : Chg cb (cb + 1) w5 w9 ∧ Cur w9 cb A n c := ⟨hC.1.trans_topT (D := q0) hq0 hchg, hC.2.chg hchg (by omega)⟩
              refine wp_val (w2 := w9) undef (fun K hK => ?_) ⟨_, rfl, hcls, hturn, fun b _ hb => ⟨q0, l', y', A7, c7, (hb 11 (by intro d h; cases h)).trans e1, hq0, hblk2, hown, hl⟩⟩
              rw [hw9] at hK
              clear hsame hdep hchg hblk2 hturn hcls hown hw9
              unfold Oper.wp
              simp [execOp, Act.eval, e1, e2, go_sem, f0, f1, ff]
              exact hK
          · intro a' w' hC ha hP
            obtain ⟨q0, l', y', A7, c7, e1, hq0, hblk, ho, hl⟩ := hP 8 (by simp)
            clear hP
            simp only [coreOps, List.filterMap_cons, List.filterMap_nil, List.getElem?_cons_zero, List.getElem?_cons_succ, fillA, slotOf, Act.put, e1] at ha
            generalize a'.tmps.getD 55 undef = u55 at ha
            generalize a'.tmps.getD 56 undef = u56 at ha
            generalize a'.tmps.getD 57 undef = u57 at ha
            generalize a'.tmps.getD 58 undef = u58 at ha
            generalize a'.tmps.getD 54 undef = u54 at ha
            generalize a'.tmps.getD 59 undef = u59 at ha
            generalize a'.tmps.getD 60 undef = u60 at ha
            subst ha
            clear e1
            show wpAny _ _ _ _ 1 _ _ _
            refine wpAny_ready (rs := [9]) (by kernel_rfl) (by simp) ?_
            refine AllReady.cons rfl (fun K hK => ?_) AllReady.nil
            go_simp
            refine hK _ _ ?_
            clear hK K
            refine wpAny_done (by kernel_rfl) ?_ _
            go_wp2_with fail
            go_meet
            exact ⟨q0, l', y', A7, c7, rfl, hq0, hblk, ho, hl, hC.1, hC.2⟩
        case rest =>
        obtain ⟨q, l', y', A7, c7, rfl, hq, hblk, ho, hk', hg, hu⟩ := hcut
        obtain ⟨w9, hwc⟩ : ∃ z, z = wc := ⟨_, rfl⟩
        subst hwc
        have N9 := Lib.hid (N5.out.call hg hu hlt hcT)
        have hO := Lib.hid (ho.wide (lo' := w.heap.size + 1 + 1) (hi' := w9.heap.size) (by omega) (Nat.le_refl _))
        have qg := hblk.cell
        clear tg tf ho hg hu N5 hblk
        have h9 := N9.out.box.lt
        have tg := N9.out.box.cell
        have tf := N9.out.box.frozen
        go_wp2_with fail
        go_roundw
        case rel => exact ⟨k - 1, y', l', A7, c7, by omega, by go_num, N9.out.fill hRT hcT h0T y' hO.out hk', hk'.1⟩
        case measure => simp [intOf]; omega
      · have hcT' : cb < w.heap.size + 1 + 1 := by omega
        have hx0 : (x == 0) = false := beq_eq_false_iff_ne.2 (by omega)
        have hx1 : (x == 1) = false := beq_eq_false_iff_ne.2 (by omega)
        have hx2' : (x == 2) = false := beq_eq_false_iff_ne.2 (by omega)
        go_upto_region 6 with fail
        go_cut [13, 14] (fun sp _ wx => ∃ (q : Nat) (l' : List HeaderD) (y' : Int) (A7 : Option Addr) (c7 : Nat), sp = .pointer (some ⟨q, 0, none⟩) ∧ w5.heap.size ≤ q ∧ Blk wx q 29 #[.slice A7 l'.length c7, .int .i64 y'] ∧ OwnL headC 6 34 wx w5.heap.size wx.heap.size A7 l'.length c7 l' ∧ okH l' ∧ Chg cb (cb + 1) w5 wx ∧ Cur wx cb A n c)
        case first =>
          refine wp_region_core2 [0, 1, 2, 3, 4, 5, 6, 7, 8, 9] (fun w => Chg cb (cb + 1) w5 w ∧ Cur w cb A n c) (fun j wa wb => match j with | 3 => Chg cb (cb + 1) wa wb | 9 => BoxTurn 29 wa wb | _ => Below wa.heap.size wa wb) (fun i b w => match i with
            | 0 => b.tmps.getD 26 undef = .agg #[.slice B l.length d, .int .i64 y]
            | 1 => b.tmps.getD 27 undef = .pointer (some ⟨cb, 0, none⟩)
            | 2 => b.tmps.getD 28 undef = .agg #[.slice B l.length d, .int .i64 y]
            | 3 => ∃ p : HeaderD, b.tmps.getD 29 undef = .agg #[.int .i64 p.h, .int .i64 p.t, .string p.last, .string p.vals, .string p.next, .string p.data] ∧ smallH p
            | 4 => ∃ (l' : List HeaderD) (y' : Int) (A7 : Option Addr) (c7 : Nat) (kk : Bool), b.tmps.getD 30 undef = .tuple #[.agg #[.slice A7 l'.length c7, .int .i64 y'], .bool kk] ∧ OwnL headC 6 34 w w5.heap.size w.heap.size A7 l'.length c7 l' ∧ okH l'
            | 5 => ∃ (l' : List HeaderD) (y' : Int) (A7 : Option Addr) (c7 : Nat) (kk : Bool), b.tmps.getD 25 undef = .tuple #[.agg #[.slice A7 l'.length c7, .int .i64 y'], .bool kk] ∧ OwnL headC 6 34 w w5.heap.size w.heap.size A7 l'.length c7 l' ∧ okH l'
            | 6 => ∃ (l' : List HeaderD) (y' : Int) (A7 : Option Addr) (c7 : Nat), b.tmps.getD 31 undef = .agg #[.slice A7 l'.length c7, .int .i64 y'] ∧ OwnL headC 6 34 w w5.heap.size w.heap.size A7 l'.length c7 l' ∧ okH l'
            | 7 => True
            | 8 => ∃ (q : Nat) (cs : Array Value), b.tmps.getD 13 undef = .pointer (some ⟨q, 0, none⟩) ∧ w5.heap.size ≤ q ∧ cs.size = 2 ∧ Blk w q 29 cs
            | 9 => ∃ (q : Nat) (l' : List HeaderD) (y' : Int) (A7 : Option Addr) (c7 : Nat), b.tmps.getD 13 undef = .pointer (some ⟨q, 0, none⟩) ∧ w5.heap.size ≤ q ∧ Blk w q 29 #[.slice A7 l'.length c7, .int .i64 y'] ∧ OwnL headC 6 34 w w5.heap.size w.heap.size A7 l'.length c7 l' ∧ okH l'
            | _ => True) (by kernel_rfl) (by kernel_rfl) (⟨(Chg.refl _ _ _).drew, N5.out.cur.drew⟩) ?_ ?_ ?_
          · intro b wa wb i j oj v hi hj hij hoj hdep hE h
            simp only [List.mem_cons, List.not_mem_nil, or_false] at hi hj
            rcases hj with rfl | rfl | rfl | rfl | rfl | rfl | rfl | rfl | rfl | rfl
            all_goals obtain rfl := Option.some.inj hoj
            · rcases hi with rfl | rfl | rfl | rfl | rfl | rfl | rfl | rfl | rfl | rfl
              all_goals first | exact absurd rfl hij | exact trivial | (simp only at hE h ⊢; (first | exact trivial | exact getkH h (by decide) | (obtain ⟨p, e, h⟩ := h; exact ⟨p, getkH e (by decide), h⟩) | (obtain ⟨x, e⟩ := h; exact ⟨x, getkH e (by decide)⟩) | (obtain ⟨l', y', A7, c7, kk, e, h, hl⟩ := h; exact ⟨l', y', A7, c7, kk, getkH e (by decide), (h.below hE (Nat.le_refl _)).wide (Nat.le_refl _) hE.size, hl⟩) | (obtain ⟨l', y', A7, c7, e, h, hl⟩ := h; exact ⟨l', y', A7, c7, getkH e (by decide), (h.below hE (Nat.le_refl _)).wide (Nat.le_refl _) hE.size, hl⟩) | (obtain ⟨q, cs, e, h1, h2, h3⟩ := h; exact ⟨q, cs, getkH e (by decide), h1, h2, h3.below hE h3.lt⟩) | (obtain ⟨q, l', y', A7, c7, e, h1, h3, h, hl⟩ := h; exact ⟨q, l', y', A7, c7, getkH e (by decide), h1, h3.below hE h3.lt, (h.below hE (Nat.le_refl _)).wide (Nat.le_refl _) hE.size, hl⟩))) | exact absurd rfl (hdep _ rfl ⟨0, .data⟩ (by simp) rfl)
            · rcases hi with rfl | rfl | rfl | rfl | rfl | rfl | rfl | rfl | rfl | rfl
              all_goals first | exact absurd rfl hij | exact trivial | (simp only at hE h ⊢; (first | exact trivial | exact getkH h (by decide) | (obtain ⟨p, e, h⟩ := h; exact ⟨p, getkH e (by decide), h⟩) | (obtain ⟨x, e⟩ := h; exact ⟨x, getkH e (by decide)⟩) | (obtain ⟨l', y', A7, c7, kk, e, h, hl⟩ := h; exact ⟨l', y', A7, c7, kk, getkH e (by decide), (h.below hE (Nat.le_refl _)).wide (Nat.le_refl _) hE.size, hl⟩) | (obtain ⟨l', y', A7, c7, e, h, hl⟩ := h; exact ⟨l', y', A7, c7, getkH e (by decide), (h.below hE (Nat.le_refl _)).wide (Nat.le_refl _) hE.size, hl⟩) | (obtain ⟨q, cs, e, h1, h2, h3⟩ := h; exact ⟨q, cs, getkH e (by decide), h1, h2, h3.below hE h3.lt⟩) | (obtain ⟨q, l', y', A7, c7, e, h1, h3, h, hl⟩ := h; exact ⟨q, l', y', A7, c7, getkH e (by decide), h1, h3.below hE h3.lt, (h.below hE (Nat.le_refl _)).wide (Nat.le_refl _) hE.size, hl⟩))) | exact absurd rfl (hdep _ rfl ⟨1, .data⟩ (by simp) rfl)
            · rcases hi with rfl | rfl | rfl | rfl | rfl | rfl | rfl | rfl | rfl | rfl
              all_goals first | exact absurd rfl hij | exact trivial | (simp only at hE h ⊢; (first | exact trivial | exact getkH h (by decide) | (obtain ⟨p, e, h⟩ := h; exact ⟨p, getkH e (by decide), h⟩) | (obtain ⟨x, e⟩ := h; exact ⟨x, getkH e (by decide)⟩) | (obtain ⟨l', y', A7, c7, kk, e, h, hl⟩ := h; exact ⟨l', y', A7, c7, kk, getkH e (by decide), (h.below hE (Nat.le_refl _)).wide (Nat.le_refl _) hE.size, hl⟩) | (obtain ⟨l', y', A7, c7, e, h, hl⟩ := h; exact ⟨l', y', A7, c7, getkH e (by decide), (h.below hE (Nat.le_refl _)).wide (Nat.le_refl _) hE.size, hl⟩) | (obtain ⟨q, cs, e, h1, h2, h3⟩ := h; exact ⟨q, cs, getkH e (by decide), h1, h2, h3.below hE h3.lt⟩) | (obtain ⟨q, l', y', A7, c7, e, h1, h3, h, hl⟩ := h; exact ⟨q, l', y', A7, c7, getkH e (by decide), h1, h3.below hE h3.lt, (h.below hE (Nat.le_refl _)).wide (Nat.le_refl _) hE.size, hl⟩))) | exact absurd rfl (hdep _ rfl ⟨2, .data⟩ (by simp) rfl)
            · rcases hi with rfl | rfl | rfl | rfl | rfl | rfl | rfl | rfl | rfl | rfl
              all_goals first | exact absurd rfl hij | exact trivial | (simp only at hE h ⊢; (first | exact trivial | exact getkH h (by decide) | (obtain ⟨p, e, h⟩ := h; exact ⟨p, getkH e (by decide), h⟩) | (obtain ⟨x, e⟩ := h; exact ⟨x, getkH e (by decide)⟩) | (obtain ⟨l', y', A7, c7, kk, e, h, hl⟩ := h; exact ⟨l', y', A7, c7, kk, getkH e (by decide), (h.chg hE (.inr (by omega))).wide (Nat.le_refl _) hE.size, hl⟩) | (obtain ⟨l', y', A7, c7, e, h, hl⟩ := h; exact ⟨l', y', A7, c7, getkH e (by decide), (h.chg hE (.inr (by omega))).wide (Nat.le_refl _) hE.size, hl⟩) | (obtain ⟨q, cs, e, h1, h2, h3⟩ := h; exact ⟨q, cs, getkH e (by decide), h1, h2, (hE.block q h3.lt (.inr (by omega))).trans h3⟩) | (obtain ⟨q, l', y', A7, c7, e, h1, h3, h, hl⟩ := h; exact ⟨q, l', y', A7, c7, getkH e (by decide), h1, (hE.block q h3.lt (.inr (by omega))).trans h3, (h.chg hE (.inr (by omega))).wide (Nat.le_refl _) hE.size, hl⟩))) | exact absurd rfl (hdep _ rfl ⟨3, .data⟩ (by simp) rfl)
            · rcases hi with rfl | rfl | rfl | rfl | rfl | rfl | rfl | rfl | rfl | rfl
              all_goals first | exact absurd rfl hij | exact trivial | (simp only at hE h ⊢; (first | exact trivial | exact getkH h (by decide) | (obtain ⟨p, e, h⟩ := h; exact ⟨p, getkH e (by decide), h⟩) | (obtain ⟨x, e⟩ := h; exact ⟨x, getkH e (by decide)⟩) | (obtain ⟨l', y', A7, c7, kk, e, h, hl⟩ := h; exact ⟨l', y', A7, c7, kk, getkH e (by decide), (h.below hE (Nat.le_refl _)).wide (Nat.le_refl _) hE.size, hl⟩) | (obtain ⟨l', y', A7, c7, e, h, hl⟩ := h; exact ⟨l', y', A7, c7, getkH e (by decide), (h.below hE (Nat.le_refl _)).wide (Nat.le_refl _) hE.size, hl⟩) | (obtain ⟨q, cs, e, h1, h2, h3⟩ := h; exact ⟨q, cs, getkH e (by decide), h1, h2, h3.below hE h3.lt⟩) | (obtain ⟨q, l', y', A7, c7, e, h1, h3, h, hl⟩ := h; exact ⟨q, l', y', A7, c7, getkH e (by decide), h1, h3.below hE h3.lt, (h.below hE (Nat.le_refl _)).wide (Nat.le_refl _) hE.size, hl⟩))) | exact absurd rfl (hdep _ rfl ⟨4, .data⟩ (by simp) rfl)
            · rcases hi with rfl | rfl | rfl | rfl | rfl | rfl | rfl | rfl | rfl | rfl
              all_goals first | exact absurd rfl hij | exact trivial | (simp only at hE h ⊢; (first | exact trivial | exact getkH h (by decide) | (obtain ⟨p, e, h⟩ := h; exact ⟨p, getkH e (by decide), h⟩) | (obtain ⟨x, e⟩ := h; exact ⟨x, getkH e (by decide)⟩) | (obtain ⟨l', y', A7, c7, kk, e, h, hl⟩ := h; exact ⟨l', y', A7, c7, kk, getkH e (by decide), (h.below hE (Nat.le_refl _)).wide (Nat.le_refl _) hE.size, hl⟩) | (obtain ⟨l', y', A7, c7, e, h, hl⟩ := h; exact ⟨l', y', A7, c7, getkH e (by decide), (h.below hE (Nat.le_refl _)).wide (Nat.le_refl _) hE.size, hl⟩) | (obtain ⟨q, cs, e, h1, h2, h3⟩ := h; exact ⟨q, cs, getkH e (by decide), h1, h2, h3.below hE h3.lt⟩) | (obtain ⟨q, l', y', A7, c7, e, h1, h3, h, hl⟩ := h; exact ⟨q, l', y', A7, c7, getkH e (by decide), h1, h3.below hE h3.lt, (h.below hE (Nat.le_refl _)).wide (Nat.le_refl _) hE.size, hl⟩))) | exact absurd rfl (hdep _ rfl ⟨5, .data⟩ (by simp) rfl)
            · rcases hi with rfl | rfl | rfl | rfl | rfl | rfl | rfl | rfl | rfl | rfl
              all_goals first | exact absurd rfl hij | exact trivial | (simp only at hE h ⊢; (first | exact trivial | exact getkH h (by decide) | (obtain ⟨p, e, h⟩ := h; exact ⟨p, getkH e (by decide), h⟩) | (obtain ⟨x, e⟩ := h; exact ⟨x, getkH e (by decide)⟩) | (obtain ⟨l', y', A7, c7, kk, e, h, hl⟩ := h; exact ⟨l', y', A7, c7, kk, getkH e (by decide), (h.below hE (Nat.le_refl _)).wide (Nat.le_refl _) hE.size, hl⟩) | (obtain ⟨l', y', A7, c7, e, h, hl⟩ := h; exact ⟨l', y', A7, c7, getkH e (by decide), (h.below hE (Nat.le_refl _)).wide (Nat.le_refl _) hE.size, hl⟩) | (obtain ⟨q, cs, e, h1, h2, h3⟩ := h; exact ⟨q, cs, getkH e (by decide), h1, h2, h3.below hE h3.lt⟩) | (obtain ⟨q, l', y', A7, c7, e, h1, h3, h, hl⟩ := h; exact ⟨q, l', y', A7, c7, getkH e (by decide), h1, h3.below hE h3.lt, (h.below hE (Nat.le_refl _)).wide (Nat.le_refl _) hE.size, hl⟩))) | exact absurd rfl (hdep _ rfl ⟨6, .data⟩ (by simp) rfl)
            · rcases hi with rfl | rfl | rfl | rfl | rfl | rfl | rfl | rfl | rfl | rfl
              all_goals first | exact absurd rfl hij | exact trivial | (simp only at hE h ⊢; (first | exact trivial | exact getkH h (by decide) | (obtain ⟨p, e, h⟩ := h; exact ⟨p, getkH e (by decide), h⟩) | (obtain ⟨x, e⟩ := h; exact ⟨x, getkH e (by decide)⟩) | (obtain ⟨l', y', A7, c7, kk, e, h, hl⟩ := h; exact ⟨l', y', A7, c7, kk, getkH e (by decide), (h.below hE (Nat.le_refl _)).wide (Nat.le_refl _) hE.size, hl⟩) | (obtain ⟨l', y', A7, c7, e, h, hl⟩ := h; exact ⟨l', y', A7, c7, getkH e (by decide), (h.below hE (Nat.le_refl _)).wide (Nat.le_refl _) hE.size, hl⟩) | (obtain ⟨q, cs, e, h1, h2, h3⟩ := h; exact ⟨q, cs, getkH e (by decide), h1, h2, h3.below hE h3.lt⟩) | (obtain ⟨q, l', y', A7, c7, e, h1, h3, h, hl⟩ := h; exact ⟨q, l', y', A7, c7, getkH e (by decide), h1, h3.below hE h3.lt, (h.below hE (Nat.le_refl _)).wide (Nat.le_refl _) hE.size, hl⟩))) | exact absurd rfl (hdep _ rfl ⟨7, .data⟩ (by simp) rfl)
            · rcases hi with rfl | rfl | rfl | rfl | rfl | rfl | rfl | rfl | rfl | rfl
              all_goals first | exact absurd rfl hij | exact trivial | (simp only at hE h ⊢; (first | exact trivial | exact getkH h (by decide) | (obtain ⟨p, e, h⟩ := h; exact ⟨p, getkH e (by decide), h⟩) | (obtain ⟨x, e⟩ := h; exact ⟨x, getkH e (by decide)⟩) | (obtain ⟨l', y', A7, c7, kk, e, h, hl⟩ := h; exact ⟨l', y', A7, c7, kk, getkH e (by decide), (h.below hE (Nat.le_refl _)).wide (Nat.le_refl _) hE.size, hl⟩) | (obtain ⟨l', y', A7, c7, e, h, hl⟩ := h; exact ⟨l', y', A7, c7, getkH e (by decide), (h.below hE (Nat.le_refl _)).wide (Nat.le_refl _) hE.size, hl⟩) | (obtain ⟨q, cs, e, h1, h2, h3⟩ := h; exact ⟨q, cs, getkH e (by decide), h1, h2, h3.below hE h3.lt⟩) | (obtain ⟨q, l', y', A7, c7, e, h1, h3, h, hl⟩ := h; exact ⟨q, l', y', A7, c7, getkH e (by decide), h1, h3.below hE h3.lt, (h.below hE (Nat.le_refl _)).wide (Nat.le_refl _) hE.size, hl⟩))) | exact absurd rfl (hdep _ rfl ⟨8, .data⟩ (by simp) rfl)
            · rcases hi with rfl | rfl | rfl | rfl | rfl | rfl | rfl | rfl | rfl | rfl
              all_goals first | exact absurd rfl hij | exact trivial | (simp only at hE h ⊢; (first | exact trivial | exact getkH h (by decide) | (obtain ⟨p, e, h⟩ := h; exact ⟨p, getkH e (by decide), h⟩) | (obtain ⟨x, e⟩ := h; exact ⟨x, getkH e (by decide)⟩) | (obtain ⟨l', y', A7, c7, kk, e, h, hl⟩ := h; exact ⟨l', y', A7, c7, kk, getkH e (by decide), hE.row (by decide) h, hl⟩) | (obtain ⟨l', y', A7, c7, e, h, hl⟩ := h; exact ⟨l', y', A7, c7, getkH e (by decide), hE.row (by decide) h, hl⟩) | (obtain ⟨q, cs, e, h1, h2, h3⟩ := h; (obtain ⟨cs', g1, g2⟩ := hE.box h3; exact ⟨q, cs', getkH e (by decide), h1, g1.trans h2, g2⟩)) | (obtain ⟨q, l', y', A7, c7, e, h1, h3, h, hl⟩ := h; exact ⟨q, l', y', A7, c7, getkH e (by decide), h1, h3, hE.row (by decide) h, hl⟩))) | exact absurd rfl (hdep _ rfl ⟨9, .data⟩ (by simp) rfl)
          · intro j o hj ho a' w' hC hsame hdep
            have hz : w5.heap.size ≤ w'.heap.size := hC.1.size
            simp only [List.mem_cons, List.not_mem_nil, or_false] at hj
            rcases hj with rfl | rfl | rfl | rfl | rfl | rfl | rfl | rfl | rfl | rfl
            all_goals obtain rfl := Option.some.inj ho
            · have hs : a'.tmps.getD 5 undef = .pointer (some ⟨w.heap.size + 1, 0, none⟩) := hsame 5 (by rfl)
              have zz : ∀ o, w'.cell? ⟨w.heap.size + 1, o, none⟩ = _ := fun o => (hC.1.cell (k := w.heap.size + 1) h5 (.inr (by omega))).trans (tg o)
              refine wp_val (w2 := w') (.agg #[.slice B l.length d, .int .i64 y]) (fun K hK => ?_) ⟨_, rfl, hC, Below.refl _ _, fun b hb hb2 => hb 26 rfl⟩
              clear hsame hdep
              unfold Oper.wp
              simp [execOp, Act.eval, go_sem, hs, zz]
              exact hK
            · have hs : a'.tmps.getD 0 undef = .pointer (some ⟨cb, 0, none⟩) := hsame 0 (by rfl)
              refine wp_val (w2 := w') (.pointer (some ⟨cb, 0, none⟩)) (fun K hK => ?_) ⟨_, rfl, hC, Below.refl _ _, fun b hb hb2 => hb 27 rfl⟩
              clear hsame hdep
              unfold Oper.wp
              simp [execOp, Act.eval, go_sem, hs]
              exact hK
            · have hs : a'.tmps.getD 5 undef = .pointer (some ⟨w.heap.size + 1, 0, none⟩) := hsame 5 (by rfl)
              have zz : ∀ o, w'.cell? ⟨w.heap.size + 1, o, none⟩ = _ := fun o => (hC.1.cell (k := w.heap.size + 1) h5 (.inr (by omega))).trans (tg o)
              refine wp_val (w2 := w') (.agg #[.slice B l.length d, .int .i64 y]) (fun K hK => ?_) ⟨_, rfl, hC, Below.refl _ _, fun b hb hb2 => hb 28 rfl⟩
              clear hsame hdep
              unfold Oper.wp
              simp [execOp, Act.eval, go_sem, hs, zz]
              exact hK
            · have e1 : a'.tmps.getD 27 undef = .pointer (some ⟨cb, 0, none⟩) := hdep ⟨1, .data⟩ (by simp) rfl
              have e2 : a'.tmps.getD 28 undef = .agg #[.slice B l.length d, .int .i64 y] := hdep ⟨2, .data⟩ (by simp) rfl
              have ho : OwnL headC 6 34 w' (w.heap.size + 1 + 1) w'.heap.size B l.length d l := (N5.out.own.chg hC.1 (.inr (by omega))).wide (Nat.le_refl _) hz
              refine wp_call (fun u wq => (∃ p : HeaderD, u = .agg #[.int .i64 p.h, .int .i64 p.t, .string p.last, .string p.vals, .string p.next, .string p.data] ∧ smallH p) ∧ Chg cb (cb + 1) w' wq ∧ Cur wq cb A n c) (fun K hK => ?_) ?_
              · clear hsame hdep
                unfold Oper.wp
                simp [Act.eval, e1, e2, go_sem]
                refine (l15Behind_any cb A n c y B d l _ _ hC.2 ho hcT' N5.out.sm (by omega)).mono ?_
                rintro e w3 ⟨v, rfl, ⟨p, rfl, hp⟩, hg, hu⟩
                exact hK _ _ ⟨⟨p, rfl, hp⟩, hg, hu⟩
              · rintro u w3 ⟨⟨p, rfl, hp⟩, hg, hu⟩
                exact ⟨_, rfl, ⟨hC.1.trans hg, hu⟩, hg, fun b hb _ => ⟨p, hb 29 rfl, hp⟩⟩
            · have e1 : a'.tmps.getD 26 undef = .agg #[.slice B l.length d, .int .i64 y] := hdep ⟨0, .data⟩ (by simp) rfl
              obtain ⟨p, e2, hp⟩ := hdep ⟨3, .data⟩ (by simp) rfl
              have ho : OwnL headC 6 34 w' (w.heap.size + 1 + 1) w'.heap.size B l.length d l := (N5.out.own.chg hC.1 (.inr (by omega))).wide (Nat.le_refl _) hz
              have hr : RdL headC 6 w' w'.heap.size B l.length d l := ho.rd headC_len
              refine wp_call (fun u wq => ∃ (l' : List HeaderD) (y' : Int) (A7 : Option Addr) (c7 : Nat) (kk : Bool), u = .tuple #[.agg #[.slice A7 l'.length c7, .int .i64 y'], .bool kk] ∧ (OwnL headC 6 34 wq w5.heap.size wq.heap.size A7 l'.length c7 l' ∧ okH l') ∧ Below w'.heap.size w' wq) (fun K hK => ?_) ?_
              · clear hsame hdep ho
                unfold Oper.wp
                simp [Act.eval, e1, e2, go_sem]
                refine (sStoreAdd_any y B d l p _ hr).mono ?_
                rintro e w3 ⟨A7, c7, rfl, ho, hb3⟩
                exact hK _ _ ⟨_, _, A7, c7, _, rfl, ⟨ho.wide hz (Nat.le_refl _), addL_ok N5.out.sm hp⟩, hb3⟩
              · rintro u w3 ⟨l', y', A7, c7, kk, rfl, hrr, hb3⟩
                exact ⟨_, rfl, ⟨hC.1.below_trans hb3, hC.2.below hb3 hC.2.lt (Nat.le_refl _)⟩, hb3, fun b hb _ => ⟨l', y', A7, c7, kk, hb 30 rfl, hrr⟩⟩
            · obtain ⟨l', y', A7, c7, kk, e1, hrr⟩ := hdep ⟨4, .data⟩ (by simp) rfl
              refine wp_val (w2 := w') (.tuple #[.agg #[.slice A7 l'.length c7, .int .i64 y'], .bool kk]) (fun K hK => ?_) ⟨_, rfl, hC, Below.refl _ _, fun b hb hb2 => ⟨l', y', A7, c7, kk, hb 25 rfl, hrr⟩⟩
              clear hsame hdep
              unfold Oper.wp
              simp [execOp, Act.eval, go_sem, e1]
              exact hK
            · obtain ⟨l', y', A7, c7, kk, e1, hrr⟩ := hdep ⟨5, .data⟩ (by simp) rfl
              refine wp_val (w2 := w') (.agg #[.slice A7 l'.length c7, .int .i64 y']) (fun K hK => ?_) ⟨_, rfl, hC, Below.refl _ _, fun b hb hb2 => ⟨l', y', A7, c7, hb 31 rfl, hrr⟩⟩
              clear hsame hdep
              unfold Oper.wp
              simp [execOp, Act.eval, go_sem, e1]
              exact hK
            · obtain ⟨l', y', A7, c7, kk, e1, hrr⟩ := hdep ⟨5, .data⟩ (by simp) rfl
              refine wp_val (w2 := w') (.bool kk) (fun K hK => ?_) ⟨_, rfl, hC, Below.refl _ _, fun b hb hb2 => trivial⟩
              clear hsame hdep
              unfold Oper.wp
              simp [execOp, Act.eval, go_sem, e1]
              exact hK
            · refine wp_val (w2 := w'.alloc (.cells #[.slice none 0 0, .int .i64 0] 29)) (.pointer (some ⟨w'.heap.size, 0, none⟩)) (fun K hK => ?_) ⟨_, rfl, ⟨hC.1.alloc _, hC.2.alloc _⟩, (Below.refl _ _).alloc (Nat.le_refl _) _, fun b hb hb2 => ⟨w'.heap.size, _, hb 13 rfl, hz, rfl, heap_alloc_new w' _⟩⟩
              clear hsame hdep
              unfold Oper.wp
              simp [execOp, go_sem]
              exact hK
            · obtain ⟨q0, cs0, e1, hq0, hsz, hblk⟩ := hdep ⟨8, .data⟩ (by simp) rfl
              obtain ⟨l', y', A7, c7, e2, hro, hl⟩ := hdep ⟨6, .data⟩ (by simp) rfl
              obtain ⟨lc⟩ := cs0
              obtain ⟨k0, k1, rfl⟩ := listH2 (l := lc) (by simpa using hsz)
              have f0 : w'.cell? ⟨q0, 0, none⟩ = some k0 := by rw [hblk.cell]; rfl
              have f1 : w'.cell? ⟨q0, 1, none⟩ = some k1 := by rw [hblk.cell]; rfl
              have ff := hblk.frozen
              obtain ⟨w9, hw9⟩ : ∃ z, z = ((w'.setCell ⟨q0, 0, none⟩ (.slice A7 l'.length c7)).setCell ⟨q0, 1, none⟩ (.int .i64 y')) := ⟨_, rfl⟩
              have hchg : Chg q0 (q0 + 1) w' w9 := by rw [hw9]; (repeat (first | with_reducible refine Chg.setCell ?_ (by first | exact Nat.le_refl _ | (simp; done) | (simp; omega)) (by first | (simp; done) | (simp; omega)) _ | with_reducible refine Chg.alloc ?_ _ | with_reducible refine Chg.drew ?_)); (with_reducible exact Chg.refl _ _ _)
              have hblk2 : Blk w9 q0 29 #[.slice A7 l'.length c7, .int .i64 y'] := by
                rw [hw9]
                have hb := (hblk.set_ 0 (.slice A7 l'.length c7)).set_ 1 (.int .i64 y')
                simp only [List.setIfInBounds_toArray, List.set_cons_zero, List.set_cons_succ] at hb
                exact hb
              have hturn := BoxTurn.of_blk hblk hblk2 rfl hchg
              have hown := hturn.row (by decide) hro
              have hcls : Chg cb (cb + 1) w5 w9 ∧ Cur w9 cb A n c := ⟨hC.1.trans_topT (D := q0) hq0 hchg, hC.2.chg hchg (by omega)⟩
              refine wp_val (w2 := w9) undef (fun K hK => ?_) ⟨_, rfl, hcls, hturn, fun b _ hb => ⟨q0, l', y', A7, c7, (hb 13 (by intro d h; cases h)).trans e1, hq0, hblk2, hown, hl⟩⟩
              rw [hw9] at hK
              clear hsame hdep hchg hblk2 hturn hcls hown hw9
              unfold Oper.wp
              simp [execOp, Act.eval, e1, e2, go_sem, f0, f1, ff]
              exact hK
          · intro a' w' hC ha hP
            obtain ⟨q0, l', y', A7, c7, e1, hq0, hblk, ho, hl⟩ := hP 9 (by simp)
            clear hP
            simp only [coreOps, List.filterMap_cons, List.filterMap_nil, List.getElem?_cons_zero, List.getElem?_cons_succ, fillA, slotOf, Act.put, e1] at ha
            generalize a'.tmps.getD 26 undef = u26 at ha
            generalize a'.tmps.getD 27 undef = u27 at ha
            generalize a'.tmps.getD 28 undef = u28 at ha
            generalize a'.tmps.getD 29 undef = u29 at ha
            generalize a'.tmps.getD 30 undef = u30 at ha
            generalize a'.tmps.getD 25 undef = u25 at ha
            generalize a'.tmps.getD 31 undef = u31 at ha
            generalize a'.tmps.getD 32 undef = u32 at ha
            subst ha
            clear e1
            show wpAny _ _ _ _ 1 _ _ _
            refine wpAny_ready (rs := [10]) (by kernel_rfl) (by simp) ?_
            refine AllReady.cons rfl (fun K hK => ?_) AllReady.nil
            go_simp
            refine hK _ _ ?_
            clear hK K
            refine wpAny_done (by kernel_rfl) ?_ _
            go_wp2_with fail
            go_meet
            exact ⟨q0, l', y', A7, c7, rfl, hq0, hblk, ho, hl, hC.1, hC.2⟩
        case rest =>
        obtain ⟨q, l', y', A7, c7, rfl, hq, hblk, ho, hk', hg, hu⟩ := hcut
        obtain ⟨w9, hwc⟩ : ∃ z, z = wc := ⟨_, rfl⟩
        subst hwc
        have N9 := Lib.hid (N5.out.call hg hu hlt hcT)
        have hO := Lib.hid (ho.wide (lo' := w.heap.size + 1 + 1) (hi' := w9.heap.size) (by omega) (Nat.le_refl _))
        have qg := hblk.cell
        clear tg tf ho hg hu N5 hblk
        have h9 := N9.out.box.lt
        have tg := N9.out.box.cell
        have tf := N9.out.box.frozen
        go_wp2_with fail
        go_roundw
        case rel => exact ⟨k - 1, y', l', A7, c7, by omega, by go_num, N9.out.fill hRT hcT h0T y' hO.out hk', hk'.1⟩
        case measure => simp [intOf]; omega
    · go_wp2_with fail
      refine (l1Once_any cb A n c 10 _ NK.out.cur (by omega)).mono ?_
      rintro e w9 ⟨v, rfl, ⟨b, rfl⟩, hg, hu⟩
      have N9 := Lib.hid (NK.out.call hg hu hlt hcT)
      clear hg hu NK
      go_upto_if 63 with fail
      go_cut [] (fun wx => ∃ y l B d, StoreIn w cb A n c w.heap.size (w.heap.size + 1) wx y l B d)
      case first =>
        cases b
        · go_wp2_with fail
          go_meet
          exact ⟨y, l, B, d, N9.out⟩
        go_wp2_with fail
        refine (l1Below_any cb A n c 3 _ N9.out.cur (by omega)).mono ?_
        rintro e w10 ⟨v, rfl, ⟨x, rfl, y0, y1⟩, hg, hu⟩
        simp at y1
        have N10 := Lib.hid (N9.out.call hg hu hlt hcT)
        clear hg hu N9
        rcases (by omega : x = 0 ∨ x = 1 ∨ x = 2) with rfl | rfl | rfl
        · go_wp2_with fail
          refine (l1Below_any cb A n c 9 _ N10.out.cur (by omega)).mono ?_
          rintro e w11 ⟨v, rfl, ⟨z, rfl, _, _⟩, hg, hu⟩
          have N11 := Lib.hid (N10.out.call hg hu hlt hcT)
          clear hg hu N10
          have tg := N11.out.box.cell
          have tf := N11.out.box.frozen
          have ht7 := N11.out.box.lt
          go_wp2_with fail
          go_meet
          exact ⟨_, l, B, d, N11.out.setY hRT hcT h0T _⟩
        · obtain ⟨i0, hi, hz0, hz1, hz2⟩ := info_parts infoHeader
          have tg := N10.out.box.cell
          have tf := N10.out.box.frozen
          have ht7 := N10.out.box.lt
          go_upto_region 24 with fail
          go_region_law (first
            | ((refine step_app_rd _ rfl _ _ _ rfl (w.heap.size + 1 + 1) 34 i0 _ 6 80 Tryd.underlying27 hi hz0 hz1 hz2 rfl (by decide) (.slice B l.length d) l.length (l.flatMap headC) rfl (by exact (N11.out.alloc _).own.owns headC_len) _ _ 1 1 _ rfl (by exact Rd.oneH w11 p _ (by first | rfl | simp)) (headC_oneS _) (by unfold maxLen; omega) (by omega) (by first | (simp; done) | (simp; omega)) ?_)
               intro v2 w12 hown hg hat
               obtain ⟨B2, d2, rfl, tg12, tf12, ht12, hN12⟩ := (N11.out.alloc _).app (m := p) (by omega) hp hcT (by omega) h0T hown hg
               have N12 := Lib.hid hN12
               clear hown hg hat hN12)
            | (go_simp; refine (l7Head_any cb A n c _ (by exact N10.out.cur.drew)).mono ?_; rintro e w11 ⟨v, rfl, ⟨p, rfl, hp⟩, hg, hu⟩; have N11 := Lib.hid (N10.out.drew.call hg hu hlt hcT); clear hg hu; have tg11 := N11.out.box.cell; have tf11 := N11.out.box.frozen; have ht11 := N11.out.box.lt))
          all_goals
            go_wp2_with fail
            go_meet
            exact ⟨y, _, B2, d2, N12.out⟩
        · have tg := N10.out.box.cell
          have tf := N10.out.box.frozen
          have ht7 := N10.out.box.lt
          by_cases hz : l.length = 0
          · have hzi : ¬ (0 : Int) < l.length := by omega
            go_wp2_with fail
            go_meet
            exact ⟨y, l, B, d, N10.out⟩
          · have hzi : (0 : Int) < l.length := by omega
            have hzn : 0 < l.length := by omega
            obtain ⟨g, cur, rfl, hg1, hg2, hgb, s0, hgs⟩ := N10.out.row hz
            go_upto_region 20 with fail
            go_region_law (go_simp; refine (l1Text_any cb A n c 22 _ (by exact N10.out.cur.drew) (by decide)).mono ?_; rintro e w11 ⟨v, rfl, ⟨s, rfl, hs⟩, hg, hu⟩; have N11 := Lib.hid (N10.out.drew.call hg hu hlt hcT); have tg11 := N11.out.box.cell; have tf11 := N11.out.box.frozen; have ht11 := N11.out.box.lt; have gs11 := (hg.cell (k := g) (o := 5) (by exact hg2) (.inr (by omega))).trans hgs; have gf11 := (Blk.frozen (show Blk w11 g _ _ from (hg.block g (by exact hg2) (.inr (by omega))).trans hgb)); clear hg hu)
            all_goals
              go_wp2_with fail
              go_meet
              obtain ⟨l2, hl2, hN2⟩ := N11.out.set0 hz hg1 (by omega) hcT h0T s (by omega)
              exact ⟨y, l2, _, d, hN2⟩
      case rest =>
      obtain ⟨y', l', B', d', hN⟩ := hcut
      have N12 := Lib.hid hN
      have tg := hN.box.cell
      have tf := hN.box.frozen
      have ht7 := hN.box.lt
      have rg := hN.res.cell
      have rf := hN.res.frozen
      clear hN N9
      go_wp2_with fail
      refine bodyPost_ret (v := .agg #[.slice B' l'.length d', .int .i64 y']) (by simp [results, Tryd.results50, go_sem, rg]) rfl ⟨y', l', B', d', rfl, ?_, N12.out.len, N12.out.sm, ?_, ?_⟩
      · refine OwnL.wide (N12.out.own.chg (lo' := w.heap.size) (hi' := w.heap.size + 1) ?_ (.inr (by omega))) (by omega) ?_
        · (repeat (first | with_reducible refine Chg.setCell ?_ (by first | exact Nat.le_refl _ | (simp; done) | (simp; omega)) (by first | (simp; done) | (simp; omega)) _ | with_reducible refine Chg.alloc ?_ _ | with_reducible refine Chg.drew ?_)); (with_reducible exact Chg.refl _ _ _)
        · simp only [World.size_setCell]; exact Nat.le_refl _
      · exact N12.out.chg.trans_topT (D := w.heap.size) (hi := w.heap.size + 1) (Nat.le_refl _) (by (repeat (first | with_reducible refine Chg.setCell ?_ (by first | exact Nat.le_refl _ | (simp; done) | (simp; omega)) (by first | (simp; done) | (simp; omega)) _ | with_reducible refine Chg.alloc ?_ _ | with_reducible refine Chg.drew ?_)); (with_reducible exact Chg.refl _ _ _))
      · refine N12.out.cur.chg (lo := w.heap.size) (hi := w.heap.size + 1) ?_ hlt
        (repeat (first | with_reducible refine Chg.setCell ?_ (by first | exact Nat.le_refl _ | (simp; done) | (simp; omega)) (by first | (simp; done) | (simp; omega)) _ | with_reducible refine Chg.alloc ?_ _ | with_reducible refine Chg.drew ?_)); (with_reducible exact Chg.refl _ _ _)
end Go.Proofs.YtjdknaipmboekaaDoor
