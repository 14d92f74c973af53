/- l1Text: a drawn string. -/
import Derived.Test.YtelnnegfkdfpiaaGreatDoorDraw
import Derived.Test.YtelnnegfkdfpiaaGreatDoorW
import Derived.Test.YtelnnegfkdfpiaaGreatDoorV
import Derived.Test.YtelnnegfkdfpiaaGreatDoorApp
import Derived.Laws.BytesString
import Derived.WalkKit
import Derived.WalkSpells
import Derived.WalkLawsBesides
import Derived.Lib.Hide
namespace Go.Proofs.YtelnnegfkdfpiaaGreatDoor
open Go.RowKit

theorem Chg.trans_topT {cb D hi : Nat} {w w1 w2 : World} (h : Chg cb (cb + 1) w w1) (hD : w.heap.size ≤ D) (k : Chg D hi w1 w2) : Chg cb (cb + 1) w w2 :=
  ⟨k.os.trans h.os, k.tape.trans h.tape, k.output.trans h.output, Nat.le_trans h.size k.size, fun q h1 h2 => (k.block q (by have := h.size; omega) (.inl (by omega))).trans (h.block q h1 h2)⟩
def IsText (m : Nat) (v : Value) : Prop := ∃ s : ByteArray, v = .string s ∧ s.size ≤ m
theorem own_chg {w w' : World} {base lo hi : Nat} {e : TypeId} {size n : Nat} {v : Value} {xs : List Value} (h : w.ownsRow base e size v n xs) (hc : Chg lo hi w w') (hb : hi ≤ base) : w'.ownsRow base e size v n xs := by
  obtain ⟨h1, h2⟩ := h
  refine ⟨h1, ?_⟩
  rcases h2 with h | ⟨g, cap, cur, a, b, d, e'⟩
  · exact .inl h
  · refine .inr ⟨g, cap, cur, a, b, ?_, e'⟩
    rw [hc.block g ?_ (.inr (by omega)), d]
    rcases Nat.lt_or_ge g w.heap.size with hlt | hge
    · exact hlt
    · rw [Array.getElem?_eq_none hge] at d; cases d
theorem conv_own0 {w : World} {base : Nat} {v : Value} (h : w.ownsRow base 5 1 v 0 []) :
    (convert 22 9 v).run Tryz.prog w = .ok (.string ⟨[].toArray⟩) w := by
  obtain ⟨_, ⟨rfl, _⟩ | ⟨g, cap, cur, rfl, _⟩⟩ := h
  · rw [run_convert_bytes_string w 22 9 5 none 0 0 Tryz.underlying22 Tryz.underlying5 Tryz.underlying9]
    rfl
  · exact run_convert_bytes_back (P := Tryz.prog) w 22 9 5 ⟨g, 0, none⟩ cap [] Tryz.underlying22 Tryz.underlying5 Tryz.underlying9 (fun j hj => absurd hj (by simp))
theorem conv_ownA {w : World} {base : Nat} {v : Value} {l : List UInt8} (h : w.ownsRow base 5 1 v l.length (l.map byteV)) :
    (convert 22 9 v).run Tryz.prog w = .ok (.string ⟨l.toArray⟩) w := by
  cases l with
  | nil => exact conv_own0 h
  | cons x l => exact conv_own h (by simp)

set_option maxRecDepth 100000 in
set_option maxHeartbeats 2000000 in
theorem l1Text_any (cb : Nat) (A : Option Addr) (n c : Nat) (m : Nat) (w : World) (hc : Cur w cb A n c) (hm : m ≤ 1000) :
    Calls Tryz.prog 64 #[.pointer (some ⟨cb, 0, none⟩), .int .i64 m] w (Drew cb A n c (IsText m) w) := by
  have HC := Lib.hid hc
  have hlt := hc.lt
  clear hc
  obtain ⟨i0, hi, hz0, hz1, hz2⟩ := info_parts infoU8
  go_enter Tryz.func64, Tryz.ntmps64
  go_wp2_with fail
  refine (l1Below_any cb A n c 4 _ (HC.out.alloc _) (by omega)).mono ?_
  rintro e w1 ⟨v, rfl, ⟨st, rfl, hst0, hst1⟩, hg, hu⟩
  simp at hst1
  have HU1 := Lib.hid hu
  have C1 := Lib.hid (((Chg.refl cb (cb + 1) w).alloc _).trans hg)
  have hs1 : w.heap.size < w1.heap.size := by have := hg.size; simp at this; omega
  have HO1 := Lib.hid (own_chg (World.ownsRow_lit w #[] 0 (Nat.le_refl _) (by decide) rfl : (w.alloc (.cells #[] 5)).ownsRow w.heap.size 5 1 _ 0 []) hg (by omega))
  clear hg hu
  go_wp2_with fail
  refine (l1Below_any cb A n c ((m : Int) + 1) _ HU1.out (by omega)).mono ?_
  rw [if_pos (by omega)]
  rintro e w2 ⟨v, rfl, ⟨k0, rfl, hk0, hk1⟩, hg, hu⟩
  have HU2 := Lib.hid hu
  have C2 := Lib.hid (C1.out.trans hg)
  have hs2 : w.heap.size < w2.heap.size := by have := hg.size; omega
  have HO2 := Lib.hid (own_chg HO1.out hg (by omega))
  clear hg hu HO1 HU1 C1
  obtain ⟨k0, rfl⟩ := Int.eq_ofNat_of_zero_le hk0
  go_wp2_with fail
  go_loopw [5, 7] (fun o i wr => ∃ (k : Nat) (pre : List UInt8), pre.length + k ≤ m ∧ i = .int .i64 k ∧ wr.ownsRow w.heap.size 5 1 o pre.length (pre.map byteV) ∧ Cur wr cb A n c ∧ Chg cb (cb + 1) w wr ∧ w.heap.size < wr.heap.size) (fun _ i _ => (intOf i).toNat)
  case atStart => exact ⟨k0, [], by simp; omega, rfl, HO2.out, HU2.out, C2.out, hs2⟩
  case round =>
    obtain ⟨k, pre, hkm, rfl, ho, hu, hc, hsz⟩ := hrel
    have HO := Lib.hid ho; have HU := Lib.hid hu; have HCG := Lib.hid hc
    clear ho hu hc HO2 HU2 C2 HC
    by_cases hk : 0 < k
    · go_wp2_with fail
      refine (l1Byte_any cb A n c _ HU.out).mono ?_
      rintro e w3 ⟨v, rfl, ⟨b, rfl, hb0, hb1⟩, hg, hu⟩
      have HU3 := Lib.hid hu
      have C3 := Lib.hid (HCG.out.trans hg)
      have hs3 : w.heap.size < w3.heap.size := by have := hg.size; omega
      have HO3 := Lib.hid (own_chg HO.out hg (by omega))
      clear hg hu HO HU HCG
      go_upto_if 23 with fail
      go_cut [8] (fun b' wx => ∃ b2 : Int, b' = .int .i64 b2 ∧ 0 ≤ b2 ∧ b2 ≤ 255 ∧ w3 = wx)
      case first =>
        by_cases h1 : st = 1
        · go_wp2_with fail
          go_meet
          exact ⟨_, rfl, by omega, by omega, rfl⟩
        · go_wp2_with fail
          go_meet
          exact ⟨_, rfl, by omega, by omega, rfl⟩
      case rest =>
      obtain ⟨b2, rfl, b20, b21, hw⟩ := hcut
      subst hw
      go_upto_if 27 with fail
      go_cut [8] (fun b' wx => ∃ b2 : Int, b' = .int .i64 b2 ∧ 0 ≤ b2 ∧ b2 ≤ 255 ∧ w3 = wx)
      case first =>
        by_cases h1 : st = 2
        · go_wp2_with fail
          go_meet
          exact ⟨_, rfl, by omega, by omega, rfl⟩
        · go_wp2_with fail
          go_meet
          exact ⟨_, rfl, by omega, by omega, rfl⟩
      case rest =>
      obtain ⟨b3, rfl, b30, b31, hw⟩ := hcut
      subst hw
      have HB8 := Lib.hid (byte_int b3 b30 (by omega))
      have hpm : pre.length ≤ 1000 := by omega
      go_wp2_with (at_builtin; refine wpList_append_own _ rfl _ _ 22 rfl w.heap.size 5 i0 (.int .u8 0) 1 1 Tryz.underlying22 hi hz0 hz1 hz2 rfl (by decide) _ _ _ rfl (HO3.out.alloc _) ⟨_, 0, none⟩ 1 1 [.int .u8 b3] rfl rfl (one_new _ _ _) (one_cell _ rfl) (by unfold maxLen; omega) (by omega) (by simp; omega) ?_)
      intro v' w4 hown hgrow _
      have e1 : List.map byteV pre ++ [Value.int .u8 b3] = (pre ++ [UInt8.ofNat b3.toNat]).map byteV := by rw [List.map_append]; simp only [List.map_cons, List.map_nil, byteV, HB8.out]
      rw [e1] at hown
      have hg4 : Chg w.heap.size (w3.heap.size + 1) w3 w4 := (((Chg.refl _ _ w3).alloc _).trans (grown_chg hgrow fun k hk => ⟨(HO3.out.lt k hk).1, by have := (HO3.out.lt k hk).2; simp; omega⟩))
      have HO4 := Lib.hid hown
      have HU4 := Lib.hid (HU3.out.chg hg4 hlt)
      have C4 := Lib.hid (C3.out.trans_topT (Nat.le_refl _) hg4)
      have hs4 : w.heap.size < w4.heap.size := by have := hg4.size; omega
      clear hown hgrow e1 hg4 HO3 HU3 C3
      go_wp2
      go_roundw
      case rel => exact ⟨k - 1, pre ++ [UInt8.ofNat b3.toNat], by simp; omega, by go_num, by simpa using HO4.out, HU4.out, C4.out, hs4⟩
      case measure => simp [intOf]; omega
    · obtain rfl : k = 0 := by omega
      have kc := conv_ownA HO.out
      go_wp2
      go_ret
      exact ⟨_, rfl, ⟨_, rfl, by show pre.length ≤ m; omega⟩, HCG.out, HU.out⟩
end Go.Proofs.YtelnnegfkdfpiaaGreatDoor
