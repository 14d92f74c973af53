/- Honest of the program and of the reference (written by wip/hon.py). -/
import Derived.WalkKit
import Derived.WalkSpells
import Derived.WalkLawsBesides
import Derived.Lib.Hide
import Derived.Test.YtjgaelnonacdkaaMNetOk
namespace Go.Proofs.Ytjgaelnonacdkaa
open Go.RowKit

def honC (a b : NMsgD) : Bool := decide (a.f ≤ 3) && (a.f == b.f) && (a.k == b.k) && (a.r == b.r)
def honAt (lp : List NMsgD) (i : Nat) (a : NMsgD) : Bool := noneTo (honC a) lp i
def honestB (ln : List NodeD) (lp : List NMsgD) : Bool := netB ln lp && allTo (honAt lp) lp lp.length
theorem netB_pool {ln : List NodeD} {lp : List NMsgD} (h : netB ln lp = true) : lp.length ≤ 150 := by
  simp only [netB, Bool.and_eq_true, decide_eq_true_eq] at h
  omega
theorem noneTo_no {α : Type} {f : α → Bool} {l : List α} {k j : Nat} {x : α} (hk : l[j]? = some x) (hj : j < k) (hx : f x = true) : noneTo f l k = false := by
  unfold noneTo
  rw [List.all_eq_false]
  exact ⟨x, List.mem_of_getElem? (i := j) (by rw [List.getElem?_take, if_pos hj]; exact hk), by simp [hx]⟩

set_option maxRecDepth 100000 in
set_option maxHeartbeats 4000000 in
theorem Honest_any (A : Option Addr) (n c : Nat) (P : Option Addr) (p d : Nat) (ln : List NodeD) (lp : List NMsgD) (w : World) (hl : NodesRd w w.heap.size A n c ln) (hp : RdL msgC 5 w w.heap.size P p d lp) :
    Calls Try.prog 30 #[.agg #[.slice A n c, .slice P p d]] w fun e w' => e = .returned (.bool (honestB ln lp)) ∧ Below w.heap.size w w' := by
  obtain rfl : lp.length = p := hp.1
  have hpn := hp.le
  have HL := Lib.hid hl
  have HP := Lib.hid hp
  clear hl hp
  cases hN : netB ln lp
  · have HE : Hid (honestB ln lp = false) := by show _ = _; simp [honestB, hN]
    have HN := Lib.hid hN
    clear hN
    go_enter Try.func30, Try.ntmps30
    go_wp2_with fail
    refine (NetOk_any A n c P lp.length d ln lp _ (by exact (HL.out.alloc (Nat.le_refl _) _).more (by simp)) (by exact (HP.out.alloc (Nat.le_refl _) _).more (by simp))).mono ?_
    rw [HN.out]
    rintro e w1 ⟨rfl, hb⟩
    have HW : Hid (Below w.heap.size w w1) := (by repeat (first | exact Below.refl _ _ | assumption | refine Below.drew ?_ | refine belN ?_ _ | refine Below.alloc ?_ (by first | exact Nat.le_refl _ | (simp; done) | (simp; omega) | omega) _ | refine Below.setCell ?_ (by first | exact Nat.le_refl _ | (simp; done) | (simp; omega) | omega) _ | refine Below.trans ?_ (Below.mono (by assumption) (by first | exact Nat.le_refl _ | (simp; done) | (simp; omega) | omega))))
    clear hb
    go_wp2_with fail
    go_ret
    exact ⟨by rw [HE.out]; rfl, HW.out⟩
  have HE : Hid (honestB ln lp = allTo (honAt lp) lp lp.length) := by show _ = _; simp [honestB, hN]
  have HN := Lib.hid hN
  clear hN
  go_enter Try.func30, Try.ntmps30
  go_wp2_with fail
  refine (NetOk_any A n c P lp.length d ln lp _ (by exact (HL.out.alloc (Nat.le_refl _) _).more (by simp)) (by exact (HP.out.alloc (Nat.le_refl _) _).more (by simp))).mono ?_
  rw [HN.out]
  rintro e w1 ⟨rfl, hb⟩
  obtain ⟨hc, hf, hz⟩ := bcell hb
  have hz0 : w.heap.size < w1.heap.size := by simp at hz; omega
  have HW : Hid (Below w.heap.size w w1) := (by repeat (first | exact Below.refl _ _ | assumption | refine Below.drew ?_ | refine belN ?_ _ | refine Below.alloc ?_ (by first | exact Nat.le_refl _ | (simp; done) | (simp; omega) | omega) _ | refine Below.setCell ?_ (by first | exact Nat.le_refl _ | (simp; done) | (simp; omega) | omega) _ | refine Below.trans ?_ (Below.mono (by assumption) (by first | exact Nat.le_refl _ | (simp; done) | (simp; omega) | omega))))
  have s1 : w1.cell? ⟨w.heap.size, 1, none⟩ = some (.slice P lp.length d) := by rw [hc _ _ (by simp)]; simp
  clear hc hf hz hb
  go_wp2_with fail
  go_loopw [13] (fun i wr => ∃ k : Nat, k ≤ lp.length ∧ i = .int .i64 k ∧ Below w1.heap.size w1 wr ∧ allTo (honAt lp) lp k = true) (fun i _ => lp.length - (intOf i).toNat)
  case atStart => exact ⟨0, by omega, rfl, Below.refl _ _, allTo_zero _ _⟩
  case round =>
    obtain ⟨k, hk, rfl, hb, hno⟩ := hrel
    obtain ⟨wo, rfl⟩ : ∃ wo : World, wo = wr := ⟨_, rfl⟩
    have HNO := Lib.hid hno; clear hno
    have hz : w1.heap.size ≤ wo.heap.size := hb.size
    have hz1 : w.heap.size < wo.heap.size := by omega
    have HBO := Lib.hid hb
    have HB : Hid (Below w.heap.size w wo) := HW.out.trans (hb.mono (by omega))
    have t1 : wo.cell? ⟨w.heap.size, 1, none⟩ = some (.slice P lp.length d) := (hb.cell (p := ⟨w.heap.size, 1, none⟩) hz0).trans s1
    clear hb
    by_cases hkn : k < lp.length
    · have HR := Lib.hid ((HP.out.below HB.out (Nat.le_refl _)).more HB.out.size)
      obtain ⟨b, off, p, rfl, hb1, hx, c0, c1, c2, c3, c4⟩ := msg_cells HR.out hkn
      have HX := Lib.hid hx
      clear hx
      have hkc : k ≤ d := Nat.le_trans hk HR.out.2.2.1
      have HT := Lib.hid (HR.out.take msgC_len hk)
      have hkl : k ≤ 9223372036854775807 := by omega
      go_wp2_with fail
      go_loopw [23] (fun i wr => ∃ j : Nat, j ≤ k ∧ i = .int .i64 j ∧ Below (wo.heap.size + 1) (wo.alloc (.cells #[.int .i64 p.k, .int .i64 p.r, .int .i64 p.v, .int .i64 p.p, .int .i64 p.f] 49)) wr ∧ noneTo (honC p) lp j = true) (fun i _ => k - (intOf i).toNat)
      case atStart => exact ⟨0, by omega, rfl, Below.refl _ _, noneTo_zero _ _⟩
      case round =>
        obtain ⟨j, hj, rfl, hb, hno⟩ := hrel
        have HN2 := Lib.hid hno; clear hno
        have hzr : wo.heap.size + 1 ≤ wr.heap.size := by have := hb.size; simpa using this
        have hwo : wo.heap.size < wr.heap.size := by omega
        have HBR := Lib.hid hb
        have HB3 : Hid (Below wo.heap.size wo wr) := ((Below.refl _ _).alloc (Nat.le_refl _) _).trans (hb.mono (by simp))
        have x0 : wr.cell? ⟨wo.heap.size, 0, none⟩ = some (.int .i64 p.k) := by rw [hb.cell (p := ⟨wo.heap.size, 0, none⟩) (by show wo.heap.size < _; omega)]; simp
        have x1 : wr.cell? ⟨wo.heap.size, 1, none⟩ = some (.int .i64 p.r) := by rw [hb.cell (p := ⟨wo.heap.size, 1, none⟩) (by show wo.heap.size < _; omega)]; simp
        have x4 : wr.cell? ⟨wo.heap.size, 4, none⟩ = some (.int .i64 p.f) := by rw [hb.cell (p := ⟨wo.heap.size, 4, none⟩) (by show wo.heap.size < _; omega)]; simp
        clear hb
        by_cases hjn : j < k
        · obtain ⟨b2, off2, q, he, hb2, hy, d0, d1, d2, d3, d4⟩ := msg_cells (HR.out.below HB3.out (Nat.le_refl _)) (show j < lp.length by omega)
          simp only [Option.some.injEq, Addr.mk.injEq, and_true] at he
          obtain ⟨rfl, rfl⟩ := he
          have HY := Lib.hid hy
          clear hy
          have hb2' : b < wr.heap.size := by omega
          by_cases t4 : p.f ≤ 3
          case neg =>
            have HF : Hid (honC p q = false) := by show _ = _; simp [honC, *]
            go_wp2_with fail
            go_roundw
            case rel => exact ⟨j + 1, by omega, by go_num, HBR.out.alloc (by omega) _, noneTo_succ HY.out HN2.out HF.out⟩
            case measure => simp [intOf]; omega
          cases t5 : (p.f == q.f)
          case false =>
            have HF : Hid (honC p q = false) := by show _ = _; simp [honC, *]
            go_wp2_with fail
            go_roundw
            case rel => exact ⟨j + 1, by omega, by go_num, HBR.out.alloc (by omega) _, noneTo_succ HY.out HN2.out HF.out⟩
            case measure => simp [intOf]; omega
          cases t6 : (p.k == q.k)
          case false =>
            have HF : Hid (honC p q = false) := by show _ = _; simp [honC, *]
            go_wp2_with fail
            go_roundw
            case rel => exact ⟨j + 1, by omega, by go_num, HBR.out.alloc (by omega) _, noneTo_succ HY.out HN2.out HF.out⟩
            case measure => simp [intOf]; omega
          cases t7 : (p.r == q.r)
          case false =>
            have HF : Hid (honC p q = false) := by show _ = _; simp [honC, *]
            go_wp2_with fail
            go_roundw
            case rel => exact ⟨j + 1, by omega, by go_num, HBR.out.alloc (by omega) _, noneTo_succ HY.out HN2.out HF.out⟩
            case measure => simp [intOf]; omega
          have HF : Hid (allTo (honAt lp) lp lp.length = false) := allTo_no HX.out (noneTo_no HY.out hjn (by simp [honC, *]))
          go_wp2_with fail
          go_ret
          exact ⟨by rw [HE.out, HF.out]; rfl, HB.out.trans ((HB3.out.alloc (by omega) _).mono HB.out.size)⟩
        · obtain rfl : j = k := by omega
          have HF : Hid (honAt lp j p = true) := HN2.out
          go_wp2_with fail
          go_roundw
          case rel => exact ⟨j + 1, by omega, by go_num, HBO.out.trans (HB3.out.mono (by omega)), by rw [allTo_succ HX.out, HNO.out, HF.out]; rfl⟩
          case measure => simp [intOf]; omega
    · obtain rfl : k = lp.length := by omega
      go_wp2
      go_ret
      exact ⟨by rw [HE.out, HNO.out]; rfl, HB.out⟩

set_option maxRecDepth 100000 in
set_option maxHeartbeats 4000000 in
theorem sHonest_any (A : Option Addr) (n c : Nat) (P : Option Addr) (p d : Nat) (ln : List NodeD) (lp : List NMsgD) (w : World) (hl : NodesRd w w.heap.size A n c ln) (hp : RdL msgC 5 w w.heap.size P p d lp) :
    Calls Try.prog 28 #[.agg #[.slice A n c, .slice P p d]] w fun e w' => e = .returned (.bool (honestB ln lp)) ∧ Below w.heap.size w w' := by
  obtain rfl : lp.length = p := hp.1
  have hpn := hp.le
  have HL := Lib.hid hl
  have HP := Lib.hid hp
  clear hl hp
  cases hN : netB ln lp
  · have HE : Hid (honestB ln lp = false) := by show _ = _; simp [honestB, hN]
    have HN := Lib.hid hN
    clear hN
    go_enter Try.func28, Try.ntmps28
    go_wp2_with fail
    refine (sNetOk_any A n c P lp.length d ln lp _ (by exact (HL.out.alloc (Nat.le_refl _) _).more (by simp)) (by exact (HP.out.alloc (Nat.le_refl _) _).more (by simp))).mono ?_
    rw [HN.out]
    rintro e w1 ⟨rfl, hb⟩
    have HW : Hid (Below w.heap.size w w1) := (by repeat (first | exact Below.refl _ _ | assumption | refine Below.drew ?_ | refine belN ?_ _ | refine Below.alloc ?_ (by first | exact Nat.le_refl _ | (simp; done) | (simp; omega) | omega) _ | refine Below.setCell ?_ (by first | exact Nat.le_refl _ | (simp; done) | (simp; omega) | omega) _ | refine Below.trans ?_ (Below.mono (by assumption) (by first | exact Nat.le_refl _ | (simp; done) | (simp; omega) | omega))))
    clear hb
    go_wp2_with fail
    go_ret
    exact ⟨by rw [HE.out]; rfl, HW.out⟩
  have HE : Hid (honestB ln lp = allTo (honAt lp) lp lp.length) := by show _ = _; simp [honestB, hN]
  have HN := Lib.hid hN
  clear hN
  go_enter Try.func28, Try.ntmps28
  go_wp2_with fail
  refine (sNetOk_any A n c P lp.length d ln lp _ (by exact (HL.out.alloc (Nat.le_refl _) _).more (by simp)) (by exact (HP.out.alloc (Nat.le_refl _) _).more (by simp))).mono ?_
  rw [HN.out]
  rintro e w1 ⟨rfl, hb⟩
  obtain ⟨hc, hf, hz⟩ := bcell hb
  have hz0 : w.heap.size < w1.heap.size := by simp at hz; omega
  have HW : Hid (Below w.heap.size w w1) := (by repeat (first | exact Below.refl _ _ | assumption | refine Below.drew ?_ | refine belN ?_ _ | refine Below.alloc ?_ (by first | exact Nat.le_refl _ | (simp; done) | (simp; omega) | omega) _ | refine Below.setCell ?_ (by first | exact Nat.le_refl _ | (simp; done) | (simp; omega) | omega) _ | refine Below.trans ?_ (Below.mono (by assumption) (by first | exact Nat.le_refl _ | (simp; done) | (simp; omega) | omega))))
  have s1 : w1.cell? ⟨w.heap.size, 1, none⟩ = some (.slice P lp.length d) := by rw [hc _ _ (by simp)]; simp
  clear hc hf hz hb
  go_wp2_with fail
  go_loopw [3] (fun i wr => ∃ k : Nat, k ≤ lp.length ∧ i = .int .i64 k ∧ Below w1.heap.size w1 wr ∧ allTo (honAt lp) lp k = true) (fun i _ => lp.length - (intOf i).toNat)
  case atStart => exact ⟨0, by omega, rfl, Below.refl _ _, allTo_zero _ _⟩
  case round =>
    obtain ⟨k, hk, rfl, hb, hno⟩ := hrel
    obtain ⟨wo, rfl⟩ : ∃ wo : World, wo = wr := ⟨_, rfl⟩
    have HNO := Lib.hid hno; clear hno
    have hz : w1.heap.size ≤ wo.heap.size := hb.size
    have hz1 : w.heap.size < wo.heap.size := by omega
    have HBO := Lib.hid hb
    have HB : Hid (Below w.heap.size w wo) := HW.out.trans (hb.mono (by omega))
    have t1 : wo.cell? ⟨w.heap.size, 1, none⟩ = some (.slice P lp.length d) := (hb.cell (p := ⟨w.heap.size, 1, none⟩) hz0).trans s1
    clear hb
    by_cases hkn : k < lp.length
    · have HR := Lib.hid ((HP.out.below HB.out (Nat.le_refl _)).more HB.out.size)
      obtain ⟨b, off, p, rfl, hb1, hx, c0, c1, c2, c3, c4⟩ := msg_cells HR.out hkn
      have HX := Lib.hid hx
      clear hx
      have hkc : k ≤ d := Nat.le_trans hk HR.out.2.2.1
      go_wp2_with fail
      go_loopw [4] (fun i wr => ∃ j : Nat, j ≤ k ∧ i = .int .i64 j ∧ Below wo.heap.size wo wr ∧ noneTo (honC p) lp j = true) (fun i _ => k - (intOf i).toNat)
      case atStart => exact ⟨0, by omega, rfl, Below.refl _ _, noneTo_zero _ _⟩
      case round =>
        obtain ⟨j, hj, rfl, hb, hno⟩ := hrel
        have HN2 := Lib.hid hno; clear hno
        have hzr : wo.heap.size ≤ wr.heap.size := hb.size
        have hwr : w.heap.size < wr.heap.size := by omega
        have HB3 := Lib.hid hb
        have x1 : wr.cell? ⟨w.heap.size, 1, none⟩ = some (.slice (some ⟨b, off, none⟩) lp.length d) := (hb.cell (p := ⟨w.heap.size, 1, none⟩) hz1).trans t1
        clear hb
        by_cases hjn : j < k
        · have hjl : j < lp.length := by omega
          obtain ⟨b2, off2, q, he, hb2, hy, d0, d1, d2, d3, d4⟩ := msg_cells (HR.out.below HB3.out (Nat.le_refl _)) hjl
          obtain ⟨b3, off3, q', he', hb3, hy', e0, e1, e2, e3, e4⟩ := msg_cells (HR.out.below HB3.out (Nat.le_refl _)) hkn
          simp only [Option.some.injEq, Addr.mk.injEq, and_true] at he he'
          obtain ⟨rfl, rfl⟩ := he
          obtain ⟨rfl, rfl⟩ := he'
          obtain rfl : p = q' := by have := HX.out; rw [hy'] at this; exact (Option.some.inj this).symm
          have HY := Lib.hid hy
          clear hy hy'
          have hb2' : b < wr.heap.size := by omega
          by_cases t4 : p.f ≤ 3
          case neg =>
            have HF : Hid (honC p q = false) := by show _ = _; simp [honC, *]
            go_wp2_with fail
            go_roundw
            case rel => exact ⟨j + 1, by omega, by go_num, (HB3.out.alloc hzr _).alloc (by simp; omega) _, noneTo_succ HY.out HN2.out HF.out⟩
            case measure => simp [intOf]; omega
          cases t5 : (p.f == q.f)
          case false =>
            have HF : Hid (honC p q = false) := by show _ = _; simp [honC, *]
            go_wp2_with fail
            go_roundw
            case rel => exact ⟨j + 1, by omega, by go_num, (HB3.out.alloc hzr _).alloc (by simp; omega) _, noneTo_succ HY.out HN2.out HF.out⟩
            case measure => simp [intOf]; omega
          cases t6 : (p.k == q.k)
          case false =>
            have HF : Hid (honC p q = false) := by show _ = _; simp [honC, *]
            go_wp2_with fail
            go_roundw
            case rel => exact ⟨j + 1, by omega, by go_num, (HB3.out.alloc hzr _).alloc (by simp; omega) _, noneTo_succ HY.out HN2.out HF.out⟩
            case measure => simp [intOf]; omega
          cases t7 : (p.r == q.r)
          case false =>
            have HF : Hid (honC p q = false) := by show _ = _; simp [honC, *]
            go_wp2_with fail
            go_roundw
            case rel => exact ⟨j + 1, by omega, by go_num, (HB3.out.alloc hzr _).alloc (by simp; omega) _, noneTo_succ HY.out HN2.out HF.out⟩
            case measure => simp [intOf]; omega
          have HF : Hid (allTo (honAt lp) lp lp.length = false) := allTo_no HX.out (noneTo_no HY.out hjn (by simp [honC, *]))
          go_wp2_with fail
          go_ret
          exact ⟨by rw [HE.out, HF.out]; rfl, HB.out.trans (((HB3.out.alloc hzr _).alloc (by simp; omega) _).mono HB.out.size)⟩
        · obtain rfl : j = k := by omega
          have HF : Hid (honAt lp j p = true) := HN2.out
          go_wp2_with fail
          go_roundw
          case rel => exact ⟨j + 1, by omega, by go_num, HBO.out.trans (HB3.out.mono (by omega)), by rw [allTo_succ HX.out, HNO.out, HF.out]; rfl⟩
          case measure => simp [intOf]; omega
    · obtain rfl : k = lp.length := by omega
      go_wp2
      go_ret
      exact ⟨by rw [HE.out, HNO.out]; rfl, HB.out⟩
end Go.Proofs.Ytjgaelnonacdkaa
