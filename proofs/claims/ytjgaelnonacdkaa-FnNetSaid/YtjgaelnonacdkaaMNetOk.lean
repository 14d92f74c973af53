/- NetOk of the program and of the reference. -/
import Derived.Deep.DeepMust
import Derived.WalkKit
import Derived.WalkSpells
import Derived.WalkLawsBesides
import Derived.Lib.Hide
import Derived.Test.YtjgaelnonacdkaaMNetFam
import Derived.Test.YtjgaelnonacdkaaG08
namespace Go.Proofs.Ytjgaelnonacdkaa
open Go.RowKit

def poolF (lp : List NMsgD) (_ : Nat) (m : NMsgD) : Bool := !(decide (m.f ≤ 3)) || hasB lp m
def nodeAt (lp : List NMsgD) (i : Nat) (x : NodeD) : Bool := nodeB x.s x.l && (x.s.me == (i : Int) + 1) && allTo (poolF lp) x.l x.l.length
def netB (ln : List NodeD) (lp : List NMsgD) : Bool := decide (ln.length = 3) && (msgsOk lp && decide ((lp.length : Int) ≤ 150)) && allTo (nodeAt lp) ln ln.length

set_option maxRecDepth 100000 in
set_option maxHeartbeats 4000000 in
theorem NetOk_any (A : Option Addr) (n c : Nat) (P : Option Addr) (p d : Nat) (ln : List NodeD) (lp : List NMsgD) (w : World) (hl : NodesRd w w.heap.size A n c ln) (hp : RdL msgC 5 w w.heap.size P p d lp) :
    Calls Try.prog 49 #[.agg #[.slice A n c, .slice P p d]] w fun e w' => e = .returned (.bool (netB ln lp)) ∧ Below w.heap.size w w' := by
  have hln : ln.length = n := by obtain ⟨_, _, h, _⟩ := hl; exact h
  subst hln
  have hn := hl.le
  have HL := Lib.hid hl
  have HP := Lib.hid hp
  clear hl hp
  by_cases h3 : ln.length = 3
  case neg =>
    have HE : Hid (netB ln lp = false) := by show _ = _; simp [netB, h3]
    have h3' : ((ln.length : Int) == 3) = false := by simp; omega
    have h3'' : ((ln.length : Int) != 3) = true := by simp; omega
    have H3 := Lib.hid h3
    clear h3
    go_enter Try.func49, Try.ntmps49
    go_wp2_with fail
    go_ret
    exact ⟨by rw [HE.out]; rfl, (by repeat (first | exact Below.refl _ _ | assumption | refine Below.drew ?_ | refine belN ?_ _ | refine Below.alloc ?_ (by first | exact Nat.le_refl _ | (simp; done) | (simp; omega) | omega) _ | refine Below.setCell ?_ (by first | exact Nat.le_refl _ | (simp; done) | (simp; omega) | omega) _ | refine Below.trans ?_ (Below.mono (by assumption) (by first | exact Nat.le_refl _ | (simp; done) | (simp; omega) | omega))))⟩
  have H3 := Lib.hid h3
  cases h4 : (msgsOk lp && decide ((lp.length : Int) ≤ 150))
  · have HE : Hid (netB ln lp = false) := by show _ = _; simp only [netB, h4]; simp
    have h3' : ((ln.length : Int) == 3) = true := by rw [h3]; rfl
    have h3'' : ((ln.length : Int) != 3) = false := by rw [h3]; rfl
    clear h3
    have H4 := Lib.hid h4
    clear h4
    go_enter Try.func49, Try.ntmps49
    go_wp2_with (go_at_call 84; go_must (refine (areMsgs_any P p d 150 lp _ (by exact (HP.out.alloc (Nat.le_refl _) _).more (by first | (simp; done) | (simp; omega)))).mono ?_); rw [H4.out]; rintro e w1 ⟨rfl, hb⟩)
    go_ret
    exact ⟨by rw [HE.out]; rfl, (by repeat (first | exact Below.refl _ _ | assumption | refine Below.drew ?_ | refine belN ?_ _ | refine Below.alloc ?_ (by first | exact Nat.le_refl _ | (simp; done) | (simp; omega) | omega) _ | refine Below.setCell ?_ (by first | exact Nat.le_refl _ | (simp; done) | (simp; omega) | omega) _ | refine Below.trans ?_ (Below.mono (by assumption) (by first | exact Nat.le_refl _ | (simp; done) | (simp; omega) | omega))))⟩
  have h3' : ((ln.length : Int) == 3) = true := by rw [h3]; rfl
  have h3'' : ((ln.length : Int) != 3) = false := by rw [h3]; rfl
  clear h3
  have H4 := Lib.hid h4
  clear h4
  have HE : Hid (netB ln lp = allTo (nodeAt lp) ln ln.length) := by show _ = _; simp only [netB, H4.out, H3.out]; simp
  go_enter Try.func49, Try.ntmps49
  go_wp2_with (go_at_call 84; go_must (refine (areMsgs_any P p d 150 lp _ (by exact (HP.out.alloc (Nat.le_refl _) _).more (by first | (simp; done) | (simp; omega)))).mono ?_); rw [H4.out]; rintro e w1 ⟨rfl, hb⟩; obtain ⟨hc, hf, hz⟩ := bcell hb; have hz0 : w.heap.size < w1.heap.size := (by simp at hz; omega))
  have HW : Hid (Below w.heap.size w w1) := (by repeat (first | exact Below.refl _ _ | assumption | refine Below.drew ?_ | refine belN ?_ _ | refine Below.alloc ?_ (by first | exact Nat.le_refl _ | (simp; done) | (simp; omega) | omega) _ | refine Below.setCell ?_ (by first | exact Nat.le_refl _ | (simp; done) | (simp; omega) | omega) _ | refine Below.trans ?_ (Below.mono (by assumption) (by first | exact Nat.le_refl _ | (simp; done) | (simp; omega) | omega))))
  have s1 : w1.cell? ⟨w.heap.size, 1, none⟩ = some (.slice P p d) := by rw [hc _ _ (by simp)]; simp
  clear hc hf hz hb
  go_loopw [20] (fun i wr => ∃ k : Nat, k ≤ ln.length ∧ i = .int .i64 k ∧ Below w1.heap.size w1 wr ∧ allTo (nodeAt lp) ln k = true) (fun i _ => ln.length - (intOf i).toNat)
  case atStart => exact ⟨0, by omega, rfl, Below.refl _ _, allTo_zero _ _⟩
  case round =>
    obtain ⟨k, hk, rfl, hb, hno⟩ := hrel
    obtain ⟨wo, rfl⟩ : ∃ wo : World, wo = wr := ⟨_, rfl⟩
    have HN := Lib.hid hno; clear hno
    have hz : w1.heap.size ≤ wo.heap.size := hb.size
    have hz1 : w.heap.size < wo.heap.size := by omega
    have HBO := Lib.hid hb
    have HB : Hid (Below w.heap.size w wo) := HW.out.trans (hb.mono (by omega))
    have t1 : wo.cell? ⟨w.heap.size, 1, none⟩ = some (.slice P p d) := (hb.cell (p := ⟨w.heap.size, 1, none⟩) hz0).trans s1
    clear hb
    by_cases hkn : k < ln.length
    · obtain ⟨b, off, s, A1, n1, c1, l, rfl, hb1, hx, hr, c0, c1', c2, c3, c4, c5, c6, c7, c8, c9⟩ := (HL.out.below HB.out (Nat.le_refl _)).at_ hkn
      obtain rfl : l.length = n1 := hr.1
      have HX := Lib.hid hx
      have HR := Lib.hid (hr.more HB.out.size)
      have hln1 := hr.le
      have hbo : b < wo.heap.size := by omega
      clear hx hr
      cases g1 : nodeB s l
      · have HF : Hid (allTo (nodeAt lp) ln ln.length = false) := allTo_no HX.out (by simp [nodeAt, g1])
        have G1 := Lib.hid g1
        clear g1
        go_wp2_with (go_at_call 85; go_must (refine (NodeOk_any s A1 l.length c1 l _ (by exact (HR.out.alloc (Nat.le_refl _) _).more (by first | (simp; done) | (simp; omega)))).mono ?_); rw [G1.out]; rintro e w2 ⟨rfl, hb⟩)
        go_ret
        exact ⟨by rw [HE.out, HF.out]; rfl, HB.out.trans ((Below.trans ((Below.refl _ _).alloc (Nat.le_refl _) _) (hb.mono (by simp))).mono HB.out.size)⟩
      have G1 := Lib.hid g1
      clear g1
      cases g2 : (s.me == (k : Int) + 1)
      · have HF : Hid (allTo (nodeAt lp) ln ln.length = false) := allTo_no HX.out (by simp [nodeAt, g2])
        have g3 : (s.me != (k : Int) + 1) = true := by simp only [bne, g2]; rfl
        go_wp2_with (go_at_call 85; go_must (refine (NodeOk_any s A1 l.length c1 l _ (by exact (HR.out.alloc (Nat.le_refl _) _).more (by first | (simp; done) | (simp; omega)))).mono ?_); rw [G1.out]; rintro e w2 ⟨rfl, hb⟩; obtain ⟨hc, hf, hz2⟩ := bcell hb; have hy : wo.heap.size < w2.heap.size := (by simp at hz2; omega))
        go_ret
        exact ⟨by rw [HE.out, HF.out]; rfl, HB.out.trans ((Below.trans ((Below.refl _ _).alloc (Nat.le_refl _) _) (hb.mono (by simp))).mono HB.out.size)⟩
      have g3 : (s.me != (k : Int) + 1) = false := by simp only [bne, g2]; rfl
      go_wp2_with (go_at_call 85; go_must (refine (NodeOk_any s A1 l.length c1 l _ (by exact (HR.out.alloc (Nat.le_refl _) _).more (by first | (simp; done) | (simp; omega)))).mono ?_); rw [G1.out]; rintro e w2 ⟨rfl, hb⟩; obtain ⟨hc, hf, hz2⟩ := bcell hb; have hy : wo.heap.size < w2.heap.size := (by simp at hz2; omega))
      have G2 := Lib.hid g2
      have HB2 : Hid (Below w.heap.size w w2) := HB.out.trans ((Below.trans ((Below.refl _ _).alloc (Nat.le_refl _) _) (hb.mono (by simp))).mono HB.out.size)
      have v1 : w2.cell? ⟨w.heap.size, 1, none⟩ = some (.slice P p d) := by rw [hc _ _ (by simp; omega), World.cell?_alloc_lt _ _ _ (by show w.heap.size < _; exact hz1)]; exact t1
      have v9 : w2.cell? ⟨wo.heap.size, 9, none⟩ = some (.slice A1 l.length c1) := by rw [hc _ _ (by simp)]; simp
      have HR2 := Lib.hid ((HR.out.alloc (Nat.le_refl _) (Obj.cells #[.int .i64 s.me, .int .i64 s.round, .int .i64 s.step, .int .i64 s.lv, .int .i64 s.lr, .int .i64 s.vv, .int .i64 s.vr, .int .i64 s.polka, .int .i64 s.dec, .slice A1 l.length c1] 79)).below hb (by simp))
      have HP2 := Lib.hid ((HP.out.below HB2.out (Nat.le_refl _)).more HB2.out.size)
      have BO : Hid (Below w1.heap.size w1 w2) := HBO.out.trans ((Below.trans ((Below.refl _ _).alloc (Nat.le_refl _) _) (hb.mono (by simp))).mono hz)
      clear hc hf hz2 hb g2 g3 c0 c1' c2 c3 c4 c5 c6 c7 c8 c9 t1
      go_loopw [38] (fun i wr => ∃ j : Nat, j ≤ l.length ∧ i = .int .i64 j ∧ Below w2.heap.size w2 wr ∧ allTo (poolF lp) l j = true) (fun i _ => l.length - (intOf i).toNat)
      case atStart => exact ⟨0, by omega, rfl, Below.refl _ _, allTo_zero _ _⟩
      case round =>
        obtain ⟨j, hj, rfl, hb, hno⟩ := hrel
        have HN2 := Lib.hid hno; clear hno
        have hzr := hb.size
        have hwr : w.heap.size < wr.heap.size := by omega
        have hwo : wo.heap.size < wr.heap.size := by omega
        have HBR := Lib.hid hb
        have x1 : wr.cell? ⟨w.heap.size, 1, none⟩ = some (.slice P p d) := (hb.cell (p := ⟨w.heap.size, 1, none⟩) (by show w.heap.size < w2.heap.size; omega)).trans v1
        have x9 : wr.cell? ⟨wo.heap.size, 9, none⟩ = some (.slice A1 l.length c1) := (hb.cell (p := ⟨wo.heap.size, 9, none⟩) hy).trans v9
        clear hb
        by_cases hjn : j < l.length
        · obtain ⟨b2, off2, m, rfl, hb2, hm, d0, d1, d2, d3, d4⟩ := msg_cells (HR2.out.below HBR.out (by omega)) hjn
          have HM := Lib.hid hm
          clear hm
          have hb2' : b2 < wr.heap.size := by omega
          have hpl : P = P := rfl
          clear hpl
          by_cases hf3 : m.f ≤ 3
          · cases g5 : hasB lp m
            · have HF : Hid (allTo (nodeAt lp) ln ln.length = false) := allTo_no HX.out (by simp only [nodeAt]; rw [allTo_no HM.out (by simp [poolF, hf3, g5])]; simp)
              have G5 := Lib.hid g5
              clear g5
              go_wp2_with (go_at_call 74; go_must (refine (ContainsMsg_any P p d lp m _ (by exact (((HP2.out.below HBR.out (Nat.le_refl _)).more HBR.out.size).alloc (Nat.le_refl _) _).more (by first | (simp; done) | (simp; omega)))).mono ?_); rw [G5.out]; rintro e w3 ⟨rfl, hb3⟩)
              go_ret
              exact ⟨by rw [HE.out, HF.out]; rfl, HB2.out.trans ((HBR.out.trans ((Below.trans ((Below.refl _ _).alloc (Nat.le_refl _) _) (hb3.mono (by simp))).mono HBR.out.size)).mono HB2.out.size)⟩
            · have HF : Hid (poolF lp j m = true) := by show _ = _; simp [poolF, g5]
              have G5 := Lib.hid g5
              clear g5
              go_wp2_with (go_at_call 74; go_must (refine (ContainsMsg_any P p d lp m _ (by exact (((HP2.out.below HBR.out (Nat.le_refl _)).more HBR.out.size).alloc (Nat.le_refl _) _).more (by first | (simp; done) | (simp; omega)))).mono ?_); rw [G5.out]; rintro e w3 ⟨rfl, hb3⟩)
              go_roundw
              case rel => exact ⟨j + 1, by omega, by go_num, HBR.out.trans ((Below.trans ((Below.refl _ _).alloc (Nat.le_refl _) _) (hb3.mono (by simp))).mono HBR.out.size), by rw [allTo_succ HM.out, HN2.out, HF.out]; rfl⟩
              case measure => simp [intOf]; omega
          · have HF : Hid (poolF lp j m = true) := by show _ = _; simp [poolF]; left; omega
            go_wp2_with fail
            go_roundw
            case rel => exact ⟨j + 1, by omega, by go_num, HBR.out.alloc HBR.out.size _, by rw [allTo_succ HM.out, HN2.out, HF.out]; rfl⟩
            case measure => simp [intOf]; omega
        · obtain rfl : j = l.length := by omega
          have HF : Hid (nodeAt lp k ⟨s, l⟩ = true) := by show _ = _; simp only [nodeAt, G1.out, G2.out, HN2.out]; rfl
          go_wp2_with fail
          go_roundw
          case rel => exact ⟨k + 1, by omega, by go_num, BO.out.trans (HBR.out.mono (by omega)), by rw [allTo_succ HX.out, HN.out, HF.out]; rfl⟩
          case measure => simp [intOf]; omega
    · obtain rfl : k = ln.length := by omega
      have HF : Hid (allTo (nodeAt lp) ln ln.length = true) := HN.out
      go_wp2
      go_ret
      exact ⟨by rw [HE.out, HF.out]; rfl, HB.out⟩

set_option maxRecDepth 100000 in
set_option maxHeartbeats 4000000 in
theorem sNetOk_any (A : Option Addr) (n c : Nat) (P : Option Addr) (p d : Nat) (ln : List NodeD) (lp : List NMsgD) (w : World) (hl : NodesRd w w.heap.size A n c ln) (hp : RdL msgC 5 w w.heap.size P p d lp) :
    Calls Try.prog 23 #[.agg #[.slice A n c, .slice P p d]] w fun e w' => e = .returned (.bool (netB ln lp)) ∧ Below w.heap.size w w' := by
  have hln : ln.length = n := by obtain ⟨_, _, h, _⟩ := hl; exact h
  subst hln
  have hn := hl.le
  have HL := Lib.hid hl
  have HP := Lib.hid hp
  clear hl hp
  by_cases h3 : ln.length = 3
  case neg =>
    have HE : Hid (netB ln lp = false) := by show _ = _; simp [netB, h3]
    have h3' : ((ln.length : Int) == 3) = false := by simp; omega
    have h3'' : ((ln.length : Int) != 3) = true := by simp; omega
    have H3 := Lib.hid h3
    clear h3
    go_enter Try.func23, Try.ntmps23
    go_wp2_with fail
    go_ret
    exact ⟨by rw [HE.out]; rfl, (by repeat (first | exact Below.refl _ _ | assumption | refine Below.drew ?_ | refine belN ?_ _ | refine Below.alloc ?_ (by first | exact Nat.le_refl _ | (simp; done) | (simp; omega) | omega) _ | refine Below.setCell ?_ (by first | exact Nat.le_refl _ | (simp; done) | (simp; omega) | omega) _ | refine Below.trans ?_ (Below.mono (by assumption) (by first | exact Nat.le_refl _ | (simp; done) | (simp; omega) | omega))))⟩
  have H3 := Lib.hid h3
  cases h4 : (msgsOk lp && decide ((lp.length : Int) ≤ 150))
  · have HE : Hid (netB ln lp = false) := by show _ = _; simp only [netB, h4]; simp
    have h3' : ((ln.length : Int) == 3) = true := by rw [h3]; rfl
    have h3'' : ((ln.length : Int) != 3) = false := by rw [h3]; rfl
    clear h3
    have H4 := Lib.hid h4
    clear h4
    go_enter Try.func23, Try.ntmps23
    go_wp2_with (go_at_call 54; go_must (refine (l16Msgs_any P p d 150 lp _ (by exact (HP.out.alloc (Nat.le_refl _) _).more (by first | (simp; done) | (simp; omega)))).mono ?_); rw [H4.out]; rintro e w1 ⟨rfl, hb⟩)
    go_ret
    exact ⟨by rw [HE.out]; rfl, (by repeat (first | exact Below.refl _ _ | assumption | refine Below.drew ?_ | refine belN ?_ _ | refine Below.alloc ?_ (by first | exact Nat.le_refl _ | (simp; done) | (simp; omega) | omega) _ | refine Below.setCell ?_ (by first | exact Nat.le_refl _ | (simp; done) | (simp; omega) | omega) _ | refine Below.trans ?_ (Below.mono (by assumption) (by first | exact Nat.le_refl _ | (simp; done) | (simp; omega) | omega))))⟩
  have h3' : ((ln.length : Int) == 3) = true := by rw [h3]; rfl
  have h3'' : ((ln.length : Int) != 3) = false := by rw [h3]; rfl
  clear h3
  have H4 := Lib.hid h4
  clear h4
  have HE : Hid (netB ln lp = allTo (nodeAt lp) ln ln.length) := by show _ = _; simp only [netB, H4.out, H3.out]; simp
  go_enter Try.func23, Try.ntmps23
  go_wp2_with (go_at_call 54; go_must (refine (l16Msgs_any P p d 150 lp _ (by exact (HP.out.alloc (Nat.le_refl _) _).more (by first | (simp; done) | (simp; omega)))).mono ?_); rw [H4.out]; rintro e w1 ⟨rfl, hb⟩; obtain ⟨hc, hf, hz⟩ := bcell hb; have hz0 : w.heap.size < w1.heap.size := (by simp at hz; omega))
  have HW : Hid (Below w.heap.size w w1) := (by repeat (first | exact Below.refl _ _ | assumption | refine Below.drew ?_ | refine belN ?_ _ | refine Below.alloc ?_ (by first | exact Nat.le_refl _ | (simp; done) | (simp; omega) | omega) _ | refine Below.setCell ?_ (by first | exact Nat.le_refl _ | (simp; done) | (simp; omega) | omega) _ | refine Below.trans ?_ (Below.mono (by assumption) (by first | exact Nat.le_refl _ | (simp; done) | (simp; omega) | omega))))
  have s0 : w1.cell? ⟨w.heap.size, 0, none⟩ = some (.slice A ln.length c) := by rw [hc _ _ (by simp)]; simp
  have s1 : w1.cell? ⟨w.heap.size, 1, none⟩ = some (.slice P p d) := by rw [hc _ _ (by simp)]; simp
  clear hc hf hz hb
  go_loopw [3] (fun i wr => ∃ k : Nat, k ≤ ln.length ∧ i = .int .i64 k ∧ Below w1.heap.size w1 wr ∧ allTo (nodeAt lp) ln k = true) (fun i _ => ln.length - (intOf i).toNat)
  case atStart => exact ⟨0, by omega, rfl, Below.refl _ _, allTo_zero _ _⟩
  case round =>
    obtain ⟨k, hk, rfl, hb, hno⟩ := hrel
    obtain ⟨wo, rfl⟩ : ∃ wo : World, wo = wr := ⟨_, rfl⟩
    have HN := Lib.hid hno; clear hno
    have hz : w1.heap.size ≤ wo.heap.size := hb.size
    have hz1 : w.heap.size < wo.heap.size := by omega
    have HBO := Lib.hid hb
    have HB : Hid (Below w.heap.size w wo) := HW.out.trans (hb.mono (by omega))
    have t0 : wo.cell? ⟨w.heap.size, 0, none⟩ = some (.slice A ln.length c) := (hb.cell (p := ⟨w.heap.size, 0, none⟩) hz0).trans s0
    have t1 : wo.cell? ⟨w.heap.size, 1, none⟩ = some (.slice P p d) := (hb.cell (p := ⟨w.heap.size, 1, none⟩) hz0).trans s1
    clear hb
    have hk3 : k ≤ 3 := by have := H3.out; omega
    by_cases hkn : k < ln.length
    · obtain ⟨b, off, s, A1, n1, c1, l, rfl, hb1, hx, hr, c0, c1', c2, c3, c4, c5, c6, c7, c8, c9⟩ := (HL.out.below HB.out (Nat.le_refl _)).at_ hkn
      obtain rfl : l.length = n1 := hr.1
      have HX := Lib.hid hx
      have HR := Lib.hid (hr.more HB.out.size)
      have hln1 := hr.le
      have hbo : b < wo.heap.size := by omega
      have hkn3 : k < 3 := by have := H3.out; omega
      clear hx hr
      cases g1 : nodeB s l
      · have HF : Hid (allTo (nodeAt lp) ln ln.length = false) := allTo_no HX.out (by simp [nodeAt, g1])
        have G1 := Lib.hid g1
        clear g1
        go_wp2_with (go_at_call 55; go_must (refine (sNodeOk_any s A1 l.length c1 l _ (by exact (HR.out.alloc (Nat.le_refl _) _).more (by first | (simp; done) | (simp; omega)))).mono ?_); rw [G1.out]; rintro e w2 ⟨rfl, hb⟩)
        go_ret
        exact ⟨by rw [HE.out, HF.out]; rfl, HB.out.trans ((Below.trans ((Below.refl _ _).alloc (Nat.le_refl _) _) (hb.mono (by simp))).mono HB.out.size)⟩
      have G1 := Lib.hid g1
      clear g1
      cases g2 : (s.me == (k : Int) + 1)
      · have HF : Hid (allTo (nodeAt lp) ln ln.length = false) := allTo_no HX.out (by simp [nodeAt, g2])
        have g3 : (s.me != (k : Int) + 1) = true := by simp only [bne, g2]; rfl
        go_wp2_with (go_at_call 55; go_must (refine (sNodeOk_any s A1 l.length c1 l _ (by exact (HR.out.alloc (Nat.le_refl _) _).more (by first | (simp; done) | (simp; omega)))).mono ?_); rw [G1.out]; rintro e w2 ⟨rfl, hb⟩; obtain ⟨hc, hf, hz2⟩ := bcell hb; have hy : wo.heap.size < w2.heap.size := (by simp at hz2; omega))
        go_ret
        exact ⟨by rw [HE.out, HF.out]; rfl, HB.out.trans ((Below.trans ((Below.refl _ _).alloc (Nat.le_refl _) _) (hb.mono (by simp))).mono HB.out.size)⟩
      have g3 : (s.me != (k : Int) + 1) = false := by simp only [bne, g2]; rfl
      go_wp2_with (go_at_call 55; go_must (refine (sNodeOk_any s A1 l.length c1 l _ (by exact (HR.out.alloc (Nat.le_refl _) _).more (by first | (simp; done) | (simp; omega)))).mono ?_); rw [G1.out]; rintro e w2 ⟨rfl, hb⟩; obtain ⟨hc, hf, hz2⟩ := bcell hb; have hy : wo.heap.size < w2.heap.size := (by simp at hz2; omega))
      have G2 := Lib.hid g2
      have HB2 : Hid (Below w.heap.size w w2) := HB.out.trans ((Below.trans ((Below.refl _ _).alloc (Nat.le_refl _) _) (hb.mono (by simp))).mono HB.out.size)
      have v1 : w2.cell? ⟨w.heap.size, 1, none⟩ = some (.slice P p d) := by rw [hc _ _ (by simp; omega), World.cell?_alloc_lt _ _ _ (by show w.heap.size < _; exact hz1)]; exact t1
      have v9 : w2.cell? ⟨wo.heap.size, 9, none⟩ = some (.slice A1 l.length c1) := by rw [hc _ _ (by simp)]; simp
      have HR2 := Lib.hid ((HR.out.alloc (Nat.le_refl _) (Obj.cells #[.int .i64 s.me, .int .i64 s.round, .int .i64 s.step, .int .i64 s.lv, .int .i64 s.lr, .int .i64 s.vv, .int .i64 s.vr, .int .i64 s.polka, .int .i64 s.dec, .slice A1 l.length c1] 79)).below hb (by simp))
      have HP2 := Lib.hid ((HP.out.below HB2.out (Nat.le_refl _)).more HB2.out.size)
      have BO : Hid (Below w1.heap.size w1 w2) := HBO.out.trans ((Below.trans ((Below.refl _ _).alloc (Nat.le_refl _) _) (hb.mono (by simp))).mono hz)
      clear hc hf hz2 hb g2 g3 c0 c1' c2 c3 c4 c5 c6 c7 c8 c9 t0 t1
      go_loopw [5] (fun i wr => ∃ j : Nat, j ≤ l.length ∧ i = .int .i64 j ∧ Below w2.heap.size w2 wr ∧ allTo (poolF lp) l j = true) (fun i _ => l.length - (intOf i).toNat)
      case atStart => exact ⟨0, by omega, rfl, Below.refl _ _, allTo_zero _ _⟩
      case round =>
        obtain ⟨j, hj, rfl, hb, hno⟩ := hrel
        have HN2 := Lib.hid hno; clear hno
        have hzr := hb.size
        have hwr : w.heap.size < wr.heap.size := by omega
        have hwo : wo.heap.size < wr.heap.size := by omega
        have HBR := Lib.hid hb
        have x1 : wr.cell? ⟨w.heap.size, 1, none⟩ = some (.slice P p d) := (hb.cell (p := ⟨w.heap.size, 1, none⟩) (by show w.heap.size < w2.heap.size; omega)).trans v1
        have x9 : wr.cell? ⟨wo.heap.size, 9, none⟩ = some (.slice A1 l.length c1) := (hb.cell (p := ⟨wo.heap.size, 9, none⟩) hy).trans v9
        clear hb
        by_cases hjn : j < l.length
        · obtain ⟨b2, off2, m, rfl, hbb, hm, d0, d1, d2, d3, d4⟩ := msg_cells (HR2.out.below HBR.out (by omega)) hjn
          have HM := Lib.hid hm
          clear hm
          have hb2' : b2 < wr.heap.size := by omega
          have hpl : P = P := rfl
          clear hpl
          have hf5 : decide (m.f ≤ 3) = true ∨ decide (m.f ≤ 3) = false := by cases decide (m.f ≤ 3) <;> simp
          rcases hf5 with hf3 | hf3
          · cases g5 : hasB lp m
            · have HF : Hid (allTo (nodeAt lp) ln ln.length = false) := allTo_no HX.out (by simp only [nodeAt]; rw [allTo_no HM.out (by simp only [poolF, hf3, g5]; rfl)]; simp)
              go_wp2_with fail
              refine wp_region_below (by kernel_rfl) (by kernel_rfl) ?_
              repeat (first | go_big_quiet_skip | (go_big_quiet_want; go_big_quiet_op; first | go_big_quiet_on | (apply Exists.intro; refine ⟨fun w1 hC => ?_, ?_⟩; (focus (first | rfl | (go_at_call 56; exact quiet_below hC (l16Has_any P p d lp m _ (by exact ((HP2.out.below HBR.out (Nat.le_refl _)).more HBR.out.size |>.below hC (Nat.le_refl _)).more hC.size))) | (simp [(bcell hC).1, hb2', hwr, hwo, x1, x9, d0, d1, d2, d3, d4]; done) | (simp [(bcell hC).1, hb2', hwr, hwo, x1, x9, d0, d1, d2, d3, d4]; rfl))); go_big_quiet_on)))
              refine wpQuiet_nil ?_
              intro w2 hb2
              obtain ⟨hc2, hf2, hz2⟩ := bcell hb2
              go_wp2
              go_ret
              exact ⟨by rw [HE.out, HF.out]; rfl, HB2.out.trans ((HBR.out.trans (hb2.mono HBR.out.size)).mono HB2.out.size)⟩
            · have HF : Hid (poolF lp j m = true) := by show _ = _; simp [poolF, g5]
              go_wp2_with fail
              refine wp_region_below (by kernel_rfl) (by kernel_rfl) ?_
              repeat (first | go_big_quiet_skip | (go_big_quiet_want; go_big_quiet_op; first | go_big_quiet_on | (apply Exists.intro; refine ⟨fun w1 hC => ?_, ?_⟩; (focus (first | rfl | (go_at_call 56; exact quiet_below hC (l16Has_any P p d lp m _ (by exact ((HP2.out.below HBR.out (Nat.le_refl _)).more HBR.out.size |>.below hC (Nat.le_refl _)).more hC.size))) | (simp [(bcell hC).1, hb2', hwr, hwo, x1, x9, d0, d1, d2, d3, d4]; done) | (simp [(bcell hC).1, hb2', hwr, hwo, x1, x9, d0, d1, d2, d3, d4]; rfl))); go_big_quiet_on)))
              refine wpQuiet_nil ?_
              intro w2 hb2
              obtain ⟨hc2, hf2, hz2⟩ := bcell hb2
              go_wp2
              go_roundw
              case rel => exact ⟨j + 1, by omega, by go_num, HBR.out.trans (hb2.mono HBR.out.size), by rw [allTo_succ HM.out, HN2.out, HF.out]; rfl⟩
              case measure => simp [intOf]; omega
          · have HF : Hid (poolF lp j m = true) := by show _ = _; simp only [poolF, hf3]; rfl
            go_wp2_with fail
            refine wp_region_below (by kernel_rfl) (by kernel_rfl) ?_
            repeat (first | go_big_quiet_skip | (go_big_quiet_want; go_big_quiet_op; first | go_big_quiet_on | (apply Exists.intro; refine ⟨fun w1 hC => ?_, ?_⟩; (focus (first | rfl | fail | (simp [(bcell hC).1, hb2', hwo, x9, d4]; done) | (simp [(bcell hC).1, hb2', hwo, x9, d4]; rfl))); go_big_quiet_on)))
            refine wpQuiet_nil ?_
            intro w2 hb2
            obtain ⟨hc2, hf2, hz2⟩ := bcell hb2
            go_wp2
            go_roundw
            case rel => exact ⟨j + 1, by omega, by go_num, HBR.out.trans (hb2.mono HBR.out.size), by rw [allTo_succ HM.out, HN2.out, HF.out]; rfl⟩
            case measure => simp [intOf]; omega
        · obtain rfl : j = l.length := by omega
          have HF : Hid (nodeAt lp k ⟨s, l⟩ = true) := by show _ = _; simp only [nodeAt, G1.out, G2.out, HN2.out]; rfl
          go_wp2_with fail
          go_roundw
          case rel => exact ⟨k + 1, by omega, by go_num, BO.out.trans (HBR.out.mono (by omega)), by rw [allTo_succ HX.out, HN.out, HF.out]; rfl⟩
          case measure => simp [intOf]; omega
    · obtain rfl : k = ln.length := by omega
      have hkn3 : ¬ ln.length < 3 := by have := H3.out; omega
      have HF : Hid (allTo (nodeAt lp) ln ln.length = true) := HN.out
      go_wp2
      go_ret
      exact ⟨by rw [HE.out, HF.out]; rfl, HB.out⟩
end Go.Proofs.Ytjgaelnonacdkaa
