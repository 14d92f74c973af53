/- Draws of anchors. (written by wip/drawanc.py) -/
import Derived.Test.YtelnnegfkdfpiaaGreatDoorSha7
import Derived.Test.YtelnnegfkdfpiaaGreatDoorDrawText
import Derived.WalkKit
import Derived.WalkSpells
import Derived.WalkLawsBesides
import Derived.Lib.Hide
import Derived.Test.YtelnnegfkdfpiaaGreatDoorFamVal
import Derived.Test.YtelnnegfkdfpiaaGreatDoorApp
import Derived.Test.YtelnnegfkdfpiaaGreatDoorVerPure
import Derived.Test.YtelnnegfkdfpiaaGreatDoorRegU
import Derived.Deep.CutBlock
namespace Go.Proofs.YtelnnegfkdfpiaaGreatDoor
open Go.RowKit

theorem sShort_text (s : ByteArray) (w : World) (hs : s.size ≤ 2097152) :
    Calls Tryz.prog 48 #[.string s] w fun e w' => ∃ v, e = .returned v ∧ IsText 8 v ∧ Below w.heap.size w w' := by
  have HS : Hid (Calls Tryz.prog 78 #[.string s] w fun e w' => e = .returned (.string ⟨(shaL s.data.toList).toArray⟩) ∧ Below w.heap.size w w') := sSha_any s w hs
  have h8 : 8 ≤ (shaL s.data.toList).length := by rw [shaL_len]; decide
  have HC : Hid ((((⟨(shaL s.data.toList).toArray⟩ : ByteArray).extract 0 8)).size ≤ 8) := Lib.hid (by rw [ByteArray.size_extract]; omega)
  generalize shaL s.data.toList = L at *
  go_enter Tryz.func48, Tryz.ntmps48
  go_wp2_with (go_at_call 78; (with_reducible refine HS.out.mono ?_); rintro e w1 ⟨rfl, hb⟩)
  go_ret
  exact ⟨_, rfl, ⟨_, rfl, HC.out⟩, hb⟩
end Go.Proofs.YtelnnegfkdfpiaaGreatDoor

namespace Go.Proofs.YtelnnegfkdfpiaaGreatDoor
open Go.RowKit

theorem Rd.oneVal (w : World) (x y : Int) (g : Nat) (hg : g = w.heap.size) : Rd (w.alloc (.cells #[.int .i64 x, .int .i64 y] 84)) (w.heap.size + 1) (some ⟨g, 0, none⟩) 1 1 2 (valC ⟨x, y⟩) := by
  subst hg
  refine ⟨rfl, Nat.le_refl _, by unfold maxLen; omega, fun _ => ⟨w.heap.size, 0, rfl, by omega, fun j hj => ?_⟩⟩
  have hb : Blk (w.alloc (.cells #[.int .i64 x, .int .i64 y] 84)) w.heap.size 84 #[.int .i64 x, .int .i64 y] := heap_alloc_new w _
  rw [hb.cell, Nat.zero_add]; simp [valC]
theorem valC_one1 (x y : Int) : ∀ u ∈ valC ⟨x, y⟩, u.oneCell' = true := by
  intro u hu
  simp only [valC, List.mem_cons, List.not_mem_nil, or_false] at hu
  rcases hu with rfl | rfl <;> rfl
theorem OwnL.nilVal (w : World) : ∃ B d, (.slice (some ⟨w.heap.size, 0, none⟩) 0 0 : Value) = .slice B ([] : List ValD).length d ∧ OwnL valC 2 84 (w.alloc (.cells #[] 84)) w.heap.size (w.alloc (.cells #[] 84)).heap.size B ([] : List ValD).length d [] := by
  have hrow : (w.alloc (.cells #[] 84)).ownsRow w.heap.size 84 2 (.slice (some ⟨w.heap.size, 0, none⟩) 0 0) ([] : List ValD).length (([] : List ValD).flatMap valC) := World.ownsRow_lit w #[] 0 (Nat.le_refl _) (by decide) rfl
  obtain ⟨A3, c3, e3, hro3⟩ := OwnL.of_own (f := valC) (l := []) rfl hrow
  exact ⟨A3, c3, e3, hro3⟩
/-- one field of one element turned -/
theorem OwnL.setVal {t : TypeId} {w : World} {lo hi n d : Nat} {B : Option Addr} {l : List ValD} (h : OwnL valC 2 t w lo hi B n d l) {k : Nat} (hk : k < n) (j : Nat) (hj : j = 0 ∨ j = 1) (x : Int) :
    ∃ g l', B = some ⟨g, 0, none⟩ ∧ lo ≤ g ∧ g < hi ∧ l'.length = l.length ∧ (∀ i, w.frozen? ⟨g, i, none⟩ = false) ∧ (∃ v, w.cell? ⟨g, k * 2 + j, none⟩ = some v) ∧ Chg g (g + 1) w (w.setCell ⟨g, k * 2 + j, none⟩ (.int .i64 x)) ∧ OwnL valC 2 t (w.setCell ⟨g, k * 2 + j, none⟩ (.int .i64 x)) lo hi B n d l' := by
  obtain ⟨hl, h0 | ⟨g, cur, rfl, h1, h2, h3, h4, h5, h6, h7⟩⟩ := h
  · omega
  obtain ⟨p, hp⟩ : ∃ p, l[k]? = some p := ⟨l[k], List.getElem?_eq_getElem (by omega)⟩
  let p' : ValD := if j = 0 then ⟨x, p.pw⟩ else ⟨p.id, x⟩
  have hlt : k * 2 + j < cur.size := by rw [h6]; have := Nat.mul_le_mul_right 2 (show k + 1 ≤ d by omega); omega
  refine ⟨g, l.set k p', rfl, h1, h2, by simp, h3.frozen, ⟨_, h3.has _ hlt⟩, (show Chg g (g + 1) w _ from (Chg.refl g (g + 1) w).setCell (p := ⟨g, k * 2 + j, none⟩) (Nat.le_refl g) (Nat.lt_succ_self g) _), by simpa using hl, .inr ⟨g, cur.setIfInBounds (k * 2 + j) (.int .i64 x), rfl, h1, h2, h3.set_ _ _, h4, h5, by simpa using h6, fun i hi' => ?_⟩⟩
  obtain ⟨a, b, hb, rfl⟩ : ∃ a b, b < 2 ∧ i = a * 2 + b := ⟨i / 2, i % 2, by omega, by omega⟩
  have ha : a < l.length := by omega
  rw [Array.getElem?_setIfInBounds]
  by_cases hak : a = k
  · subst hak
    have e : ((l.set a p').flatMap valC)[a * 2 + b]? = (valC p')[b]? := flat_at valC 2 _ (fun x _ => rfl) a b p' (by simp [ha]) hb
    have e' : (l.flatMap valC)[a * 2 + b]? = (valC p)[b]? := flat_at valC 2 _ (fun x _ => rfl) a b p hp hb
    rw [e]
    by_cases hbj : b = j
    · subst hbj
      rw [if_pos rfl, if_pos hlt]
      rcases hj with rfl | rfl <;> simp [p', valC]
    · rw [if_neg (by omega), h7 _ hi', e']
      rcases hj with rfl | rfl
      · obtain rfl : b = 1 := by omega
        simp [p', valC]
      · obtain rfl : b = 0 := by omega
        simp [p', valC]
  · have e : ((l.set k p').flatMap valC)[a * 2 + b]? = (valC l[a])[b]? := flat_at valC 2 _ (fun x _ => rfl) a b l[a] (by rw [List.getElem?_set_ne (by omega)]; exact List.getElem?_eq_getElem ha) hb
    have e' : (l.flatMap valC)[a * 2 + b]? = (valC l[a])[b]? := flat_at valC 2 _ (fun x _ => rfl) a b l[a] (List.getElem?_eq_getElem ha) hb
    rw [if_neg (by omega), h7 _ hi', e, e']
/-- validators drawn: a row of one's own -/
def DrewVals (lo m : Nat) (cb : Nat) (A : Option Addr) (n c : Nat) (w : World) (e : Ending) (w' : World) : Prop :=
  ∃ (l : List ValD) (B : Option Addr) (d : Nat), e = .returned (.slice B l.length d) ∧ OwnL valC 2 84 w' w.heap.size w'.heap.size B l.length d l ∧ lo ≤ l.length ∧ l.length ≤ m ∧ Chg cb (cb + 1) w w' ∧ Cur w' cb A n c

set_option maxRecDepth 100000 in
set_option maxHeartbeats 4000000 in
theorem l6Some_any (cb : Nat) (A : Option Addr) (n c : Nat) (w : World) (hc : Cur w cb A n c) :
    Calls Tryz.prog 63 #[.pointer (some ⟨cb, 0, none⟩)] w (DrewVals 1 4 cb A n c w) := by
  obtain ⟨i0, hi, hz0, hz1, hz2⟩ := info_parts infoVal
  have HC := Lib.hid hc
  have hlt := hc.lt
  clear hc
  go_enter Tryz.func63, Tryz.ntmps63
  go_wp2_with fail
  obtain ⟨A3, c3, e3, hro3⟩ := OwnL.nilVal w
  have HE3 := Lib.hid e3
  have HRO := Lib.hid hro3
  clear hro3 e3
  refine (l1Below_any cb A n c 4 _ (HC.out.alloc _) (by omega)).mono ?_
  rintro e w1 ⟨v, rfl, ⟨x, rfl, x0, x1⟩, hg, hu⟩
  simp at x1
  have HU1 := Lib.hid hu
  have HC1 := Lib.hid (((Chg.refl cb (cb + 1) w).alloc _).trans hg)
  have HRO1 := Lib.hid ((HRO.out.chg hg (.inr (by omega))).wide (hi' := w1.heap.size) (Nat.le_refl _) hg.size)
  have hs1 : w.heap.size ≤ w1.heap.size := by have := hg.size; simp at this; omega
  clear hg hu HC HRO
  go_wp2_with fail
  go_loopw [3, 4, 5] (fun o id nv wr => ∃ (l : List ValD) (B : Option Addr) (d : Nat) (y z : Int), o = .slice B l.length d ∧ id = .int .i64 y ∧ nv = .int .i64 z ∧ 0 ≤ z ∧ 1 ≤ (l.length : Int) + z ∧ (l.length : Int) + z ≤ 4 ∧ 1 ≤ y ∧ y ≤ 1 + 2 * (l.length : Int) ∧ OwnL valC 2 84 wr w.heap.size wr.heap.size B l.length d l ∧ Cur wr cb A n c ∧ Chg cb (cb + 1) w wr ∧ w.heap.size ≤ wr.heap.size) (fun _ _ nv _ => (intOf nv).toNat)
  case atStart => exact ⟨[], A3, c3, 1, 1 + x, HE3.out, rfl, rfl, by omega, by simp; omega, by simp; omega, by omega, by simp, HRO1.out, HU1.out, HC1.out, hs1⟩
  case round =>
    obtain ⟨l, B, d, y, z, rfl, rfl, rfl, z0, z1, z2, y0, y1, hro, hu, hcg, hsz⟩ := hrel
    have HRO2 := Lib.hid hro; have HU2 := Lib.hid hu; have HC2 := Lib.hid hcg
    clear hro hu hcg HRO1 HU1 HC1
    by_cases hz : 0 < z
    · go_wp2_with fail
      refine (l1Below_any cb A n c 5 _ HU2.out (by omega)).mono ?_
      rintro e w3 ⟨v, rfl, ⟨p, rfl, p0, p1⟩, hg, hu⟩
      simp at p1
      have HRO3 := Lib.hid ((HRO2.out.chg hg (.inr (by omega))).wide (hi' := w3.heap.size) (Nat.le_refl _) hg.size)
      have HU3 := Lib.hid hu
      have HC3 := Lib.hid (HC2.out.trans hg)
      have hs3 : w.heap.size ≤ w3.heap.size := by have := hg.size; omega
      have hll : l.length ≤ 4 := by omega
      clear hg hu HRO2 HU2 HC2
      go_wp2_with (at_builtin; refine wpList_app_rd _ rfl _ _ _ rfl w.heap.size 84 i0 _ 2 16 Tryz.underlying28 hi hz0 hz1 hz2 rfl (by decide) (.slice B l.length d) l.length (l.flatMap valC) rfl (by exact (HRO3.out.owns valC_len).alloc _) _ _ 1 1 _ rfl (by exact Rd.oneVal w3 y (1 + p) _ (by first | rfl | simp)) (valC_one1 _ _) (by unfold maxLen; omega) (by omega) (by first | (simp; done) | (simp; omega)) ?_)
      intro vq w5 hown hg hat
      have hroA := (HRO3.out.below ((Below.refl _ _).alloc (Nat.le_refl _) (.cells #[.int .i64 y, .int .i64 (1 + p)] 84)) (Nat.le_refl _)).wide (lo' := w.heap.size) (hi' := (w3.alloc (.cells #[.int .i64 y, .int .i64 (1 + p)] 84)).heap.size) (Nat.le_refl _) (by simp)
      have e5 : l.flatMap valC ++ valC ⟨y, (1 + p)⟩ = (l ++ [(⟨y, (1 + p)⟩ : ValD)]).flatMap valC := by rw [List.flatMap_append]; simp
      rw [e5] at hown
      obtain ⟨A5, c5, rfl, ho5⟩ := OwnL.of_own (f := valC) (n := l.length + 1) (l := l ++ [(⟨y, (1 + p)⟩ : ValD)]) (by simp) hown
      have hgc : Chg w.heap.size (w3.alloc (.cells #[.int .i64 y, .int .i64 (1 + p)] 84)).heap.size (w3.alloc (.cells #[.int .i64 y, .int .i64 (1 + p)] 84)) w5 := grown_chg hg fun g e => hroA.block g e
      have HU5 := Lib.hid ((HU3.out.alloc (.cells #[.int .i64 y, .int .i64 (1 + p)] 84)).chg hgc hlt)
      have HC5 := Lib.hid ((HC3.out.alloc (.cells #[.int .i64 y, .int .i64 (1 + p)] 84)).trans_topT (Nat.le_refl _) hgc)
      have HO5 : Hid (OwnL valC 2 84 w5 w.heap.size w5.heap.size A5 (l ++ [(⟨y, (1 + p)⟩ : ValD)]).length c5 (l ++ [(⟨y, (1 + p)⟩ : ValD)])) := Lib.hid (by simpa using ho5)
      have hs5 : w.heap.size ≤ w5.heap.size := by have := hgc.size; simp at this; omega
      have ho6 : OwnL valC 2 84 w5 w.heap.size w5.heap.size A5 (l.length + 1) c5 (l ++ [(⟨y, (1 + p)⟩ : ValD)]) := by have h := HO5.out; simpa using h
      clear hown hg hat hroA e5 ho5 hgc
      have HO6 := Lib.hid ho6
      clear ho6 HRO3 HU3 HC3 HO5
      go_wp2_with fail
      refine (l1Below_any cb A n c 2 _ HU5.out (by omega)).mono ?_
      rintro e w6 ⟨v, rfl, ⟨p2, rfl, p20, p21⟩, hg, hu⟩
      simp at p21
      have HRO6 := Lib.hid ((HO6.out.chg hg (.inr (by omega))).wide (hi' := w6.heap.size) (Nat.le_refl _) hg.size)
      have HU6 := Lib.hid hu
      have HC6 := Lib.hid (HC5.out.trans hg)
      have hs6 : w.heap.size ≤ w6.heap.size := by have := hg.size; omega
      clear hg hu HO6 HU5 HC5
      go_wp2_with fail
      go_roundw
      case rel => exact ⟨l ++ [⟨y, 1 + p⟩], A5, c5, y + 1 + p2, z - 1, by simp, by go_num, by go_num, by omega, by simp; omega, by simp; omega, by omega, by simp; omega, by have h := HRO6.out; simpa using h, HU6.out, HC6.out, hs6⟩
      case measure => simp [intOf]; omega
    · go_wp2_with fail
      go_ret
      exact ⟨l, B, d, rfl, HRO2.out, by omega, by omega, HC2.out, HU2.out⟩

set_option maxRecDepth 100000 in
set_option maxHeartbeats 8000000 in
theorem l6Any_any (cb : Nat) (A : Option Addr) (n c : Nat) (w : World) (hc : Cur w cb A n c) :
    Calls Tryz.prog 37 #[.pointer (some ⟨cb, 0, none⟩)] w (DrewVals 0 8 cb A n c w) := by
  obtain ⟨i0, hi, hz0, hz1, hz2⟩ := info_parts infoVal
  have HC := Lib.hid hc
  have hlt := hc.lt
  clear hc
  go_enter Tryz.func37, Tryz.ntmps37
  go_wp2_with fail
  refine (l6Some_any cb A n c _ HC.out).mono ?_
  rintro e w1 ⟨l, B, d, rfl, ho, l0, l1, hg, hu⟩
  have HO1 := Lib.hid ho; have HU1 := Lib.hid hu; have HC1 := Lib.hid hg
  have hs1 := hg.size
  clear ho hg hu HC
  go_wp2_with fail
  refine (l1Once_any cb A n c 8 _ HU1.out (by omega)).mono ?_
  rintro e w2 ⟨v, rfl, ⟨b, rfl⟩, hg, hu⟩
  have HO2 := Lib.hid ((HO1.out.chg hg (.inr (by omega))).wide (hi' := w2.heap.size) (Nat.le_refl _) hg.size); have HU2 := Lib.hid hu; have HC2 := Lib.hid (HC1.out.trans hg)
  have hs2 : w.heap.size ≤ w2.heap.size := by have := hg.size; omega
  clear hg hu HO1 HU1 HC1
  cases b
  · go_wp2_with fail
    go_ret
    exact ⟨l, B, d, rfl, HO2.out, by omega, by omega, HC2.out, HU2.out⟩
  · go_wp2_with fail
    refine (l1Below_any cb A n c l.length _ HU2.out (by omega)).mono ?_
    rintro e w3 ⟨v, rfl, ⟨k, rfl, k0, k1⟩, hg, hu⟩
    have HO3 := Lib.hid ((HO2.out.chg hg (.inr (by omega))).wide (hi' := w3.heap.size) (Nat.le_refl _) hg.size); have HU3 := Lib.hid hu; have HC3 := Lib.hid (HC2.out.trans hg)
    have hs3 : w.heap.size ≤ w3.heap.size := by have := hg.size; omega
    have hk2 : k < l.length := by omega
    obtain ⟨k, rfl⟩ := Int.eq_ofNat_of_zero_le k0
    have hk3 : k < l.length := by omega
    clear hg hu HO2 HU2 HC2 k1
    go_wp2_with fail
    refine (l1Below_any cb A n c 4 _ HU3.out (by omega)).mono ?_
    rintro e w4 ⟨v, rfl, ⟨x, rfl, x0, x1⟩, hg, hu⟩
    simp at x1
    have HO4 := Lib.hid ((HO3.out.chg hg (.inr (by omega))).wide (hi' := w4.heap.size) (Nat.le_refl _) hg.size); have HU4 := Lib.hid hu; have HC4 := Lib.hid (HC3.out.trans hg)
    have hs4 : w.heap.size ≤ w4.heap.size := by have := hg.size; omega
    clear hg hu HO3 HU3 HC3
    rcases (by omega : x = 0 ∨ x = 1 ∨ x = 2 ∨ x = 3) with rfl | rfl | rfl | rfl
    · go_wp2_with fail
      refine (l1PickInt_any cb A n c w4.heap.size 4 (-100) 1000010 _ (HU4.out.alloc _) (by decide) (by decide) HU4.out.lt (by simp) ?_).mono ?_
      · intro j hj
        rcases (by omega : j = 0 ∨ j = 1 ∨ j = 2 ∨ j = 3) with rfl | rfl | rfl | rfl
        · exact ⟨0, by simp, by decide, by decide⟩
        · exact ⟨1, by simp, by decide, by decide⟩
        · exact ⟨99, by simp, by decide, by decide⟩
        · exact ⟨100, by simp, by decide, by decide⟩
      rintro e w5 ⟨v, rfl, ⟨y, rfl, _, _⟩, hg, hu⟩
      have HO5 := Lib.hid (((HO4.out.below ((Below.refl _ _).alloc (Nat.le_refl _) _) (Nat.le_refl _)).chg hg (.inr (by omega))).wide (hi' := w5.heap.size) (Nat.le_refl _) (by have := hg.size; simp at this; omega)); have HU5 := Lib.hid hu; have HC5 := Lib.hid ((HC4.out.alloc _).trans hg)
      have hs5 : w.heap.size ≤ w5.heap.size := by have := hg.size; simp at this; omega
      clear hg hu HO4 HU4 HC4
      obtain ⟨g, l', rfl, hg1, hg2, hl', hfz, ⟨vv, hvv⟩, hch, ho⟩ := HO5.out.setVal hk3 0 (.inl rfl) y
      have HO6 := Lib.hid ho
      have HCH := Lib.hid hch
      clear ho hch
      have kk0 : (0 : Int) ≤ k := by omega
      have kk1 : (k : Int) < l.length := by omega
      (try rw [Nat.add_zero] at hvv HO6 HCH)
      go_wp2_with fail
      go_ret
      exact ⟨l', _, d, by rw [hl']; rfl, by have h := HO6.out; rw [hl']; simpa using h, by omega, by omega, HC5.out.trans_topT hg1 HCH.out, HU5.out.chg HCH.out (by omega)⟩
    · go_wp2_with fail
      refine (l1PickInt_any cb A n c w4.heap.size 4 (-100) 1000010 _ (HU4.out.alloc _) (by decide) (by decide) HU4.out.lt (by simp) ?_).mono ?_
      · intro j hj
        rcases (by omega : j = 0 ∨ j = 1 ∨ j = 2 ∨ j = 3) with rfl | rfl | rfl | rfl
        · exact ⟨0, by simp, by decide, by decide⟩
        · exact ⟨1000, by simp, by decide, by decide⟩
        · exact ⟨1001, by simp, by decide, by decide⟩
        · exact ⟨-1, by simp, by decide, by decide⟩
      rintro e w5 ⟨v, rfl, ⟨y, rfl, _, _⟩, hg, hu⟩
      have HO5 := Lib.hid (((HO4.out.below ((Below.refl _ _).alloc (Nat.le_refl _) _) (Nat.le_refl _)).chg hg (.inr (by omega))).wide (hi' := w5.heap.size) (Nat.le_refl _) (by have := hg.size; simp at this; omega)); have HU5 := Lib.hid hu; have HC5 := Lib.hid ((HC4.out.alloc _).trans hg)
      have hs5 : w.heap.size ≤ w5.heap.size := by have := hg.size; simp at this; omega
      clear hg hu HO4 HU4 HC4
      obtain ⟨g, l', rfl, hg1, hg2, hl', hfz, ⟨vv, hvv⟩, hch, ho⟩ := HO5.out.setVal hk3 1 (.inr rfl) y
      have HO6 := Lib.hid ho
      have HCH := Lib.hid hch
      clear ho hch
      have kk0 : (0 : Int) ≤ k := by omega
      have kk1 : (k : Int) < l.length := by omega
      (try rw [Nat.add_zero] at hvv HO6 HCH)
      go_wp2_with fail
      go_ret
      exact ⟨l', _, d, by rw [hl']; rfl, by have h := HO6.out; rw [hl']; simpa using h, by omega, by omega, HC5.out.trans_topT hg1 HCH.out, HU5.out.chg HCH.out (by omega)⟩
    · obtain ⟨A3, c3, e3, hro3⟩ := OwnL.nilVal w4
      simp only [Value.slice.injEq, List.length_nil, true_and] at e3
      obtain ⟨rfl, rfl⟩ := e3
      have HRO := Lib.hid hro3
      clear hro3
      go_wp2_with fail
      go_ret
      exact ⟨[], _, 0, rfl, HRO.out.wide hs4 (Nat.le_refl _), by simp, by simp, HC4.out.alloc _, HU4.out.alloc _⟩
    · go_wp2_with fail
      go_loopw [3, 5] (fun o iv wr => ∃ (l : List ValD) (B : Option Addr) (d : Nat) (y : Int), o = .slice B l.length d ∧ iv = .int .i64 y ∧ 20 ≤ y ∧ y ≤ 20 + (l.length : Int) ∧ l.length ≤ 8 ∧ OwnL valC 2 84 wr w.heap.size wr.heap.size B l.length d l ∧ Cur wr cb A n c ∧ Chg cb (cb + 1) w wr ∧ w.heap.size ≤ wr.heap.size) (fun _ iv _ => 30 - (intOf iv).toNat)
      case atStart => exact ⟨l, B, d, 20, rfl, rfl, by omega, by omega, by omega, HO4.out, HU4.out, HC4.out, hs4⟩
      case round =>
        clear l0 l1 hk2 hk3 x0 x1
        obtain ⟨l, B, d, y, rfl, rfl, y0, y1, hl8, hro, hu, hcg, hsz⟩ := hrel
        have HRO5 := Lib.hid hro; have HU5 := Lib.hid hu; have HC5 := Lib.hid hcg
        clear hro hu hcg HO4 HU4 HC4
        go_wp2_with fail
        refine (l1Below_any cb A n c 2 _ HU5.out (by omega)).mono ?_
        rintro e w6 ⟨v, rfl, ⟨z, rfl, z0, z1⟩, hg, hu⟩
        simp at z1
        have HRO6 := Lib.hid ((HRO5.out.chg hg (.inr (by omega))).wide (hi' := w6.heap.size) (Nat.le_refl _) hg.size)
        have HU6 := Lib.hid hu
        have HC6 := Lib.hid (HC5.out.trans hg)
        have hs6 : w.heap.size ≤ w6.heap.size := by have := hg.size; omega
        clear hg hu HRO5 HU5 HC5
        by_cases hlz : (l.length : Int) < 7 + z
        · go_wp2_with (at_builtin; refine wpList_app_rd _ rfl _ _ _ rfl w.heap.size 84 i0 _ 2 16 Tryz.underlying28 hi hz0 hz1 hz2 rfl (by decide) (.slice B l.length d) l.length (l.flatMap valC) rfl (by exact (HRO6.out.owns valC_len).alloc _) _ _ 1 1 _ rfl (by exact Rd.oneVal w6 y 1 _ (by first | rfl | simp)) (valC_one1 _ _) (by unfold maxLen; omega) (by omega) (by first | (simp; done) | (simp; omega)) ?_)
          intro vq w7 hown hg hat
          have hroA := (HRO6.out.below ((Below.refl _ _).alloc (Nat.le_refl _) (.cells #[.int .i64 y, .int .i64 1] 84)) (Nat.le_refl _)).wide (lo' := w.heap.size) (hi' := (w6.alloc (.cells #[.int .i64 y, .int .i64 1] 84)).heap.size) (Nat.le_refl _) (by simp)
          have e5 : l.flatMap valC ++ valC ⟨y, 1⟩ = (l ++ [(⟨y, 1⟩ : ValD)]).flatMap valC := by rw [List.flatMap_append]; simp
          rw [e5] at hown
          obtain ⟨A5, c5, rfl, ho5⟩ := OwnL.of_own (f := valC) (n := l.length + 1) (l := l ++ [(⟨y, 1⟩ : ValD)]) (by simp) hown
          have hgc : Chg w.heap.size (w6.alloc (.cells #[.int .i64 y, .int .i64 1] 84)).heap.size (w6.alloc (.cells #[.int .i64 y, .int .i64 1] 84)) w7 := grown_chg hg fun g e => hroA.block g e
          have HU7 := Lib.hid ((HU6.out.alloc (.cells #[.int .i64 y, .int .i64 1] 84)).chg hgc hlt)
          have HC7 := Lib.hid ((HC6.out.alloc (.cells #[.int .i64 y, .int .i64 1] 84)).trans_topT (Nat.le_refl _) hgc)
          have HO7 : Hid (OwnL valC 2 84 w7 w.heap.size w7.heap.size A5 (l ++ [(⟨y, 1⟩ : ValD)]).length c5 (l ++ [(⟨y, 1⟩ : ValD)])) := Lib.hid (by simpa using ho5)
          have hs7 : w.heap.size ≤ w7.heap.size := by have := hgc.size; simp at this; omega
          have ho6 : OwnL valC 2 84 w7 w.heap.size w7.heap.size A5 (l.length + 1) c5 (l ++ [(⟨y, 1⟩ : ValD)]) := by have h := HO7.out; simpa using h
          clear hown hg hat hroA e5 ho5 hgc
          have HO8 := Lib.hid ho6
          clear ho6 HRO6 HU6 HC6 HO7
          go_wp2_with fail
          go_roundw
          case rel => exact ⟨l ++ [⟨y, 1⟩], A5, c5, y + 1, by simp, by go_num, by omega, by simp; omega, by simp; omega, by have h := HO8.out; simpa using h, HU7.out, HC7.out, hs7⟩
          case measure => simp [intOf]; omega
        · go_wp2_with fail
          go_ret
          exact ⟨l, B, d, rfl, HRO6.out, by omega, by omega, HC6.out, HU6.out⟩
end Go.Proofs.YtelnnegfkdfpiaaGreatDoor

namespace Go.Proofs.YtelnnegfkdfpiaaGreatDoor
open Go.RowKit

theorem valsHashB_size (l : List ValD) : (valsHashB l).size ≤ 8 := by
  unfold valsHashB
  split
  · show (shortL (showVL l)).toArray.size ≤ 8
    have := shortL_len (showVL l)
    simp; omega
  · exact Nat.zero_le _
/-- an anchor drawn -/
def DrewAnc (cb : Nat) (A : Option Addr) (n c : Nat) (w : World) (e : Ending) (w' : World) : Prop :=
  ∃ (s : HeaderD) (l : List ValD) (B : Option Addr) (d : Nat), e = .returned (.agg #[.int .i64 s.h, .int .i64 s.t, .string s.last, .string s.vals, .string s.next, .string s.data, .slice B l.length d]) ∧ OwnL valC 2 84 w' w.heap.size w'.heap.size B l.length d l ∧ l.length ≤ 8 ∧ Chg cb (cb + 1) w w' ∧ Cur w' cb A n c

set_option maxRecDepth 100000 in
set_option maxHeartbeats 8000000 in
theorem l11Anchor_any (cb : Nat) (A : Option Addr) (n c : Nat) (w : World) (hc : Cur w cb A n c) :
    Calls Tryz.prog 32 #[.pointer (some ⟨cb, 0, none⟩)] w (DrewAnc cb A n c w) := by
  have HC := Lib.hid hc
  have hlt := hc.lt
  clear hc
  go_enter Tryz.func32, Tryz.ntmps32
  go_upto_region 1 with fail
  obtain ⟨v1, hwb⟩ : ∃ zq, zq = w.alloc (.cells #[.int .i64 0, .int .i64 0, .string ⟨#[]⟩, .string ⟨#[]⟩, .string ⟨#[]⟩, .string ⟨#[]⟩, .slice none 0 0] 30) := ⟨_, rfl⟩
  rw [← hwb]
  have hxXR : Blk v1 w.heap.size 30 #[.int .i64 0, .int .i64 0, .string ⟨#[]⟩, .string ⟨#[]⟩, .string ⟨#[]⟩, .string ⟨#[]⟩, .slice none 0 0] := by rw [hwb]; have h := heap_alloc_new w (.cells #[.int .i64 0, .int .i64 0, .string ⟨#[]⟩, .string ⟨#[]⟩, .string ⟨#[]⟩, .string ⟨#[]⟩, .slice none 0 0] 30); (try simp only [World.size_alloc] at h); exact h
  have hg : Chg cb (cb + 1) w v1 := by rw [hwb]; exact ((Chg.refl cb (cb + 1) w).alloc _)
  have hu : Cur v1 cb A n c := by rw [hwb]; exact (HC.out.alloc _)
  have hb0 : Below w.heap.size w v1 := by rw [hwb]; exact (Below.alloc (Below.refl _ _) (by first | exact Nat.le_refl _ | (simp; done) | (simp; omega)) _)
  clear hwb
  have hs1 := hg.size
  have XR1 := Lib.hid hxXR
  have ltXR := hxXR.lt
  clear hxXR
  have CH1 := Lib.hid hg
  have U1 := Lib.hid hu
  have BW1 := Lib.hid hb0
  clear hg hu hb0
  go_wp2_with fail
  refine (l6Some_any cb A n c _ U1.out).mono ?_
  rintro e v2 ⟨l, B, d, rfl, ho, l0, l1, hg, hu⟩
  have HO := Lib.hid ho
  clear ho
  have hs2 := hg.size
  have XR2 := Lib.hid (show Blk _ _ _ _ from (hg.block _ XR1.out.lt (by omega)).trans XR1.out)
  have CH2 := Lib.hid (CH1.out.trans hg)
  have U2 := Lib.hid (hu)
  clear hg hu XR1 CH1 U1
  have OL2 := HO
  clear HO
  go_wp2_with fail
  refine (l1Below_any cb A n c 3 _ U2.out (by omega)).mono ?_
  rintro e v3 ⟨v, rfl, ⟨x, rfl, x0, x1⟩, hg, hu⟩
  simp at x1
  have hs3 := hg.size
  have XR3 := Lib.hid (show Blk _ _ _ _ from (hg.block _ XR2.out.lt (by omega)).trans XR2.out)
  have CH3 := Lib.hid (CH2.out.trans hg)
  have U3 := Lib.hid (hu)
  have OL3 := Lib.hid (OL2.out.chg hg (by omega))
  clear hg hu XR2 CH2 U2 OL2
  go_wp2_with fail
  refine (l1Below_any cb A n c 60 _ U3.out (by omega)).mono ?_
  rintro e v4 ⟨v, rfl, ⟨y, rfl, y0, y1⟩, hg, hu⟩
  simp at y1
  have hs4 := hg.size
  have XR4 := Lib.hid (show Blk _ _ _ _ from (hg.block _ XR3.out.lt (by omega)).trans XR3.out)
  have CH4 := Lib.hid (CH3.out.trans hg)
  have U4 := Lib.hid (hu)
  have OL4 := Lib.hid (OL3.out.chg hg (by omega))
  clear hg hu XR3 CH3 U3 OL3
  go_wp2_with fail
  refine (l6Some_any cb A n c _ U4.out).mono ?_
  rintro e v5 ⟨l2, B2, d2, rfl, ho, l20, l21, hg, hu⟩
  have HO := Lib.hid ho
  clear ho
  have hs5 := hg.size
  have XR5 := Lib.hid (show Blk _ _ _ _ from (hg.block _ XR4.out.lt (by omega)).trans XR4.out)
  have CH5 := Lib.hid (CH4.out.trans hg)
  have U5 := Lib.hid (hu)
  have OL5 := Lib.hid (OL4.out.chg hg (by omega))
  clear hg hu XR4 CH4 U4 OL4
  have OM5 := HO
  clear HO
  go_wp2_with fail
  refine (sValsHash_any B2 _ d2 l2 _ ((OM5.out.rd valC_len).more (by omega))).mono ?_
  rintro e v6 ⟨rfl, hb⟩
  have hs6 := hb.size
  have XR6 := Lib.hid (XR5.out.below hb XR5.out.lt)
  have CH6 := Lib.hid (CH5.out.below_trans hb)
  have U6 := Lib.hid (U5.out.below hb U5.out.lt (Nat.le_refl _))
  have OL6 := Lib.hid (OL5.out.below hb (by omega))
  have OM6 := Lib.hid (OM5.out.below hb (by omega))
  clear hb XR5 CH5 U5 OL5 OM5
  clear OM6
  have hz2 := valsHashB_size l2
  generalize valsHashB l2 = vh2 at *
  go_wp2_with fail
  refine (sValsHash_any B _ d l _ ((OL6.out.rd valC_len).more (by omega))).mono ?_
  rintro e v7 ⟨rfl, hb⟩
  have hs7 := hb.size
  have XR7 := Lib.hid (XR6.out.below hb XR6.out.lt)
  have CH7 := Lib.hid (CH6.out.below_trans hb)
  have U7 := Lib.hid (U6.out.below hb U6.out.lt (Nat.le_refl _))
  have OL7 := Lib.hid (OL6.out.below hb (by omega))
  clear hb XR6 CH6 U6 OL6
  generalize valsHashB l = vh at *
  go_wp2_with fail
  refine (l1Text_any cb A n c 3 _ U7.out (by decide)).mono ?_
  rintro e v8 ⟨v, rfl, ⟨s, rfl, hs⟩, hg, hu⟩
  have hs8 := hg.size
  have XR8 := Lib.hid (show Blk _ _ _ _ from (hg.block _ XR7.out.lt (by omega)).trans XR7.out)
  have CH8 := Lib.hid (CH7.out.trans hg)
  have U8 := Lib.hid (hu)
  have OL8 := Lib.hid (OL7.out.chg hg (by omega))
  clear hg hu XR7 CH7 U7 OL7
  go_upto_region 3 with fail
  obtain ⟨v9, hnw⟩ : ∃ zq, zq = v8.alloc (.cells #[.int .i64 (1 + x), .int .i64 y, .string ⟨#[]⟩, .string vh2, .string vh, .string s] 27) := ⟨_, rfl⟩
  rw [← hnw]
  have hb : Below v8.heap.size v8 v9 := by rw [hnw]; exact (Below.refl _ _).alloc (Nat.le_refl _) _
  have hxx : Blk v9 v8.heap.size 27 #[.int .i64 (1 + x), .int .i64 y, .string ⟨#[]⟩, .string vh2, .string vh, .string s] := by rw [hnw]; exact heap_alloc_new v8 _
  clear hnw
  have hs9 := hb.size
  have XR9 := Lib.hid (XR8.out.below hb XR8.out.lt)
  have CH9 := Lib.hid (CH8.out.below_trans hb)
  have U9 := Lib.hid (U8.out.below hb U8.out.lt (Nat.le_refl _))
  have OL9 := Lib.hid (OL8.out.below hb (by omega))
  clear hb XR8 CH8 U8 OL8
  have XH9 := Lib.hid hxx
  have ltXH := hxx.lt
  clear hxx
  have hxn : v8.heap.size ≠ w.heap.size := by omega
  have ceXH := XH9.out.cell
  have lbXH := XH9.out.lt
  go_upto_if 22 with fail
  go_cut [] (fun wx => ∃ t : ByteArray, Blk wx v8.heap.size 27 #[.int .i64 (1 + x), .int .i64 y, .string t, .string vh2, .string vh, .string s] ∧ Blk wx w.heap.size 30 #[.int .i64 0, .int .i64 0, .string ⟨#[]⟩, .string ⟨#[]⟩, .string ⟨#[]⟩, .string ⟨#[]⟩, .slice none 0 0] ∧ Chg cb (cb + 1) w wx ∧ Cur wx cb A n c ∧ OwnL valC 2 84 wx w.heap.size wx.heap.size B l.length d l)
  case first =>
    by_cases hx : (1 : Int) < 1 + x
    · skip
      clear ceXH lbXH
      have ceXH := XH9.out.cell
      have lbXH := XH9.out.lt
      go_wp2_with fail
      refine (sShort_text ⟨#[98]⟩ _ (by decide)).mono ?_
      rintro e v10 ⟨v, rfl, ⟨t, rfl, ht⟩, hb⟩
      clear ceXH lbXH
      have hs10 := hb.size
      have XR10 := Lib.hid (XR9.out.below hb XR9.out.lt)
      have CH10 := Lib.hid (CH9.out.below_trans hb)
      have U10 := Lib.hid (U9.out.below hb U9.out.lt (Nat.le_refl _))
      have OL10 := Lib.hid (OL9.out.below hb (by omega))
      have XH10 := Lib.hid (XH9.out.below hb XH9.out.lt)
      clear hb XR9 CH9 U9 OL9 XH9
      have ceXH := XH10.out.cell
      have lbXH := XH10.out.lt
      have fzXH := XH10.out.frozen
      go_wp2_with fail
      go_meet
      refine ⟨t, ?_, ?_, CH10.out.trans_topT (D := v8.heap.size) (hi := v8.heap.size + 1) (by omega) (by (repeat (first | with_reducible refine Chg.setCell ?_ (by first | exact Nat.le_refl _ | (simp; done) | (simp; omega)) (by first | (simp; done) | (simp; omega)) _ | with_reducible refine Chg.alloc ?_ _ | with_reducible refine Chg.drew ?_)); (with_reducible exact Chg.refl _ _ _)), U10.out.chg (lo := v8.heap.size) (hi := v8.heap.size + 1) (by (repeat (first | with_reducible refine Chg.setCell ?_ (by first | exact Nat.le_refl _ | (simp; done) | (simp; omega)) (by first | (simp; done) | (simp; omega)) _ | with_reducible refine Chg.alloc ?_ _ | with_reducible refine Chg.drew ?_)); (with_reducible exact Chg.refl _ _ _)) (by omega), ?_⟩
      · have h := XH10.out.set_ 2 (.string t)
        simp only [List.setIfInBounds_toArray, List.set_cons_zero, List.set_cons_succ] at h
        exact h
      · exact XR10.out.far (by show _ ≠ v8.heap.size; omega) _
      · refine (OwnL.chg (lo' := v8.heap.size) (hi' := v8.heap.size + 1) OL10.out (by (repeat (first | with_reducible refine Chg.setCell ?_ (by first | exact Nat.le_refl _ | (simp; done) | (simp; omega)) (by first | (simp; done) | (simp; omega)) _ | with_reducible refine Chg.alloc ?_ _ | with_reducible refine Chg.drew ?_)); (with_reducible exact Chg.refl _ _ _)) (by omega)).wide (by omega) (by simp; omega)
    · go_wp2_with fail
      go_meet
      exact ⟨_, XH9.out, XR9.out, CH9.out, U9.out, OL9.out.wide (by omega) (by omega)⟩
  case rest =>
  obtain ⟨t, hxx, hxr, hg, hu, ho⟩ := hcut
  obtain ⟨v10, hwv⟩ : ∃ z, z = wc := ⟨_, rfl⟩
  subst hwv
  clear ceXH lbXH
  clear XR9 CH9 U9 OL9 XH9
  have XH10 := Lib.hid hxx
  have XR10 := Lib.hid hxr
  have CH10 := Lib.hid hg
  have U10 := Lib.hid hu
  have OL10 := Lib.hid ho
  have ltR := hxr.lt
  have ltH := hxx.lt
  clear hxx hxr hg hu ho
  have ceXH := XH10.out.cell
  have lbXH := XH10.out.lt
  have ceXR := XR10.out.cell
  have lbXR := XR10.out.lt
  have fzXR := XR10.out.frozen
  go_wp2_with fail
  refine bodyPost_ret (v := .agg #[.int .i64 (1 + x), .int .i64 y, .string t, .string vh2, .string vh, .string s, .slice B l.length d]) (by simp [results, Tryz.results32, go_sem, ceXR]) rfl ⟨⟨1 + x, y, t, vh2, vh, s⟩, l, B, d, rfl, ?_, by omega, ?_, ?_⟩
  · obtain ⟨ga, gb, o3, b1, b2, b3, b4⟩ := OL10.out.apart XR10.out (by decide) (by omega)
    refine (OwnL.chg (lo' := w.heap.size) (hi' := w.heap.size + 1) o3 (by (repeat (first | with_reducible refine Chg.setCell ?_ (by first | exact Nat.le_refl _ | (simp; done) | (simp; omega)) (by first | (simp; done) | (simp; omega)) _ | with_reducible refine Chg.alloc ?_ _ | with_reducible refine Chg.drew ?_)); (with_reducible exact Chg.refl _ _ _)) (by omega)).wide (by omega) (by simp; omega)
  · exact CH10.out.trans_topT (D := w.heap.size) (hi := w.heap.size + 1) (by omega) (by (repeat (first | with_reducible refine Chg.setCell ?_ (by first | exact Nat.le_refl _ | (simp; done) | (simp; omega)) (by first | (simp; done) | (simp; omega)) _ | with_reducible refine Chg.alloc ?_ _ | with_reducible refine Chg.drew ?_)); (with_reducible exact Chg.refl _ _ _))
  · exact U10.out.chg (lo := w.heap.size) (hi := w.heap.size + 1) (by (repeat (first | with_reducible refine Chg.setCell ?_ (by first | exact Nat.le_refl _ | (simp; done) | (simp; omega)) (by first | (simp; done) | (simp; omega)) _ | with_reducible refine Chg.alloc ?_ _ | with_reducible refine Chg.drew ?_)); (with_reducible exact Chg.refl _ _ _)) (by omega)
end Go.Proofs.YtelnnegfkdfpiaaGreatDoor
