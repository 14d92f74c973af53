/- count of the reference; Count of both. -/
import Derived.Test.YtmpppmeloieamaaCount
import Derived.Test.YtmpppmeloieamaaNodeOk2
import Derived.WalkKit
import Derived.WalkSpells
import Derived.WalkLawsBesides
import Derived.Lib.Hide
namespace Go.Proofs.Ytmpppmeloieamaa
open Go.RowKit

def froms4 (l : List NMsgD) : Prop := ∀ (j : Nat) (p : NMsgD), l[j]? = some p → 0 ≤ p.f ∧ p.f ≤ 4
theorem froms4_of {l : List NMsgD} (h : msgsOk l = true) : froms4 l := by
  intro j p hp
  cases hq : freshMsg l j p
  · rw [msgsOk_no hp hq] at h; cases h
  · simp only [freshMsg, okMsg, msgB, Bool.and_eq_true, inB_iff] at hq
    omega
theorem hasI_snoc (fs : List Int) (x y : Int) : hasI (fs ++ [x]) y = (hasI fs y || (y == x)) := by
  unfold hasI; rw [List.any_append]; simp

set_option maxRecDepth 100000 in
set_option maxHeartbeats 1000000 in
theorem l16Count_any (A : Option Addr) (n c : Nat) (l : List NMsgD) (k r v : Int) (w : World) (hl : RdL msgC 5 w w.heap.size A n c l) (hn : n ≤ 1048576) (h4 : froms4 l) :
    Calls Try.prog 57 #[.slice A n c, .int .i64 k, .int .i64 r, .int .i64 v] w fun e w' => e = .returned (.int .i64 (countN l k r v)) ∧ Below w.heap.size w w' := by
  have HL := Lib.hid hl
  have H0 := Lib.hid hl.1
  have H4 := Lib.hid h4
  clear hl h4
  have hmk : ∀ w, (Instr.makeSlice 95 (.int .i64 5) (.int .i64 5)).run Try.prog w = .ok (.slice (some ⟨w.heap.size, 0, none⟩) 5 5) (w.alloc (.cells #[.bool false, .bool false, .bool false, .bool false, .bool false] 4)) := fun _ => by kernel_rfl
  go_enter Try.func57, Try.ntmps57
  go_wp2_with fail
  go_loopw [9, 11] (fun o i wr => ∃ j : Nat, j ≤ n ∧ i = .int .i64 j ∧ o = .int .i64 (froms (l.take j) k r v).length ∧ Below w.heap.size w wr ∧ ∃ cur : Array Value, Blk wr w.heap.size 4 cur ∧ cur.size = 5 ∧ ∀ q : Nat, q < 5 → cur[q]? = some (.bool (hasI (froms (l.take j) k r v) q))) (fun _ i _ => n - (intOf i).toNat)
  case atStart =>
    refine ⟨0, by omega, rfl, rfl, (by repeat (first | exact Below.refl _ _ | assumption | refine Below.drew ?_ | refine belN ?_ _ | refine Below.alloc ?_ (by first | exact Nat.le_refl _ | (simp; done) | (simp; omega) | omega) _ | refine Below.setCell ?_ (by first | exact Nat.le_refl _ | (simp; done) | (simp; omega) | omega) _ | refine Below.trans ?_ (Below.mono (by assumption) (by first | exact Nat.le_refl _ | (simp; done) | (simp; omega) | omega)))), #[.bool false, .bool false, .bool false, .bool false, .bool false], by unfold Blk; exact heap_alloc_new w _, rfl, fun q hq => ?_⟩
    rcases (by omega : q = 0 ∨ q = 1 ∨ q = 2 ∨ q = 3 ∨ q = 4) with rfl | rfl | rfl | rfl | rfl <;> rfl
  case round =>
    obtain ⟨j, hj, rfl, rfl, hb, cur, d1, d2, d3⟩ := hrel
    have hz := hb.size
    have hzl : w.heap.size < wr.heap.size := d1.lt
    have HF := Lib.hid (froms_len (l.take j) k r v)
    by_cases hkn : j < n
    · obtain ⟨b, off, p, rfl, hb1, hp, c0, c1, c2, c3, c4⟩ := msg_cells (HL.out.below hb (Nat.le_refl _)) hkn
      have HT := Lib.hid (take_next hp)
      have HS := Lib.hid (froms_snoc (l.take j) k r v p)
      have hle : (froms (l.take j) k r v).length ≤ 1048576 := by have := HF.out; rw [List.length_take] at this; omega
      have h4p := H4.out j p hp
      clear hp
      generalize hfs : froms (l.take j) k r v = fs at *
      clear hfs
      obtain ⟨q, hq⟩ := Int.eq_ofNat_of_zero_le h4p.1
      have hq5 : q < 5 := by omega
      have D1 := Lib.hid d1; have D2 := Lib.hid d2; have D3 := Lib.hid d3
      have e0 : wr.cell? ⟨w.heap.size, q, none⟩ = some (.bool (hasI fs q)) := by rw [D1.out.cell]; exact D3.out q hq5
      have ef := D1.out.frozen
      obtain ⟨pk, pr, pv, pp, pf⟩ := p
      simp only at hq c0 c1 c2 c3 c4 HT HS
      subst hq
      clear d1 d2 d3 h4p
      cases g1 : (pk == k)
      · have HG := Lib.hid (step_no (k := k) (r := r) (v := v) (fs := fs) (m := ⟨pk, pr, pv, pp, q⟩) (by simp [*]))
        go_wp2
        go_roundw
        case rel => exact ⟨j + 1, by omega, by go_num, by rw [HT.out, HS.out, HG.out], hb.alloc hz _, cur, D1.out.alloc _, D2.out, by rw [HT.out, HS.out, HG.out]; exact D3.out⟩
        case measure => simp [intOf]; omega
      cases g2 : (pr == r)
      · have HG := Lib.hid (step_no (k := k) (r := r) (v := v) (fs := fs) (m := ⟨pk, pr, pv, pp, q⟩) (by simp [*]))
        go_wp2
        go_roundw
        case rel => exact ⟨j + 1, by omega, by go_num, by rw [HT.out, HS.out, HG.out], hb.alloc hz _, cur, D1.out.alloc _, D2.out, by rw [HT.out, HS.out, HG.out]; exact D3.out⟩
        case measure => simp [intOf]; omega
      cases g3 : (pv == v)
      · have HG := Lib.hid (step_no (k := k) (r := r) (v := v) (fs := fs) (m := ⟨pk, pr, pv, pp, q⟩) (by simp [*]))
        go_wp2
        go_roundw
        case rel => exact ⟨j + 1, by omega, by go_num, by rw [HT.out, HS.out, HG.out], hb.alloc hz _, cur, D1.out.alloc _, D2.out, by rw [HT.out, HS.out, HG.out]; exact D3.out⟩
        case measure => simp [intOf]; omega
      cases g4 : hasI fs q
      · have HG := Lib.hid (step_yes (k := k) (r := r) (v := v) (fs := fs) (m := ⟨pk, pr, pv, pp, q⟩) (by simp [*]))
        go_wp2
        go_roundw
        case rel =>
          refine ⟨j + 1, by omega, by go_num, by rw [HT.out, HS.out, HG.out]; simp, (by first | exact (hb.alloc hz _).setCell (Nat.le_refl _) _ | exact (hb.setCell (Nat.le_refl _) _).alloc (by simpa using hz) _), cur.setIfInBounds q (.bool true), (by first | exact (D1.out.alloc _).set_ _ _ | exact (D1.out.set_ _ _).alloc _), by simpa using D2.out, fun y hy => ?_⟩
          rw [HT.out, HS.out, HG.out, hasI_snoc, Array.getElem?_setIfInBounds]
          by_cases hyq : q = y
          · subst hyq; simp [D2.out, hq5]
          · rw [if_neg hyq, D3.out y hy]
            have : ((y : Int) == (q : Int)) = false := by rw [beq_eq_false_iff_ne]; omega
            rw [this, Bool.or_false]
        case measure => simp [intOf]; omega
      · have HG := Lib.hid (step_no (k := k) (r := r) (v := v) (fs := fs) (m := ⟨pk, pr, pv, pp, q⟩) (by simp [*]))
        go_wp2
        go_roundw
        case rel => exact ⟨j + 1, by omega, by go_num, by rw [HT.out, HS.out, HG.out], hb.alloc hz _, cur, D1.out.alloc _, D2.out, by rw [HT.out, HS.out, HG.out]; exact D3.out⟩
        case measure => simp [intOf]; omega
    · obtain rfl : j = n := by omega
      have HC : Hid (countN l k r v = (froms (l.take j) k r v).length) := by show _ = _; unfold countN; rw [List.take_of_length_le (by rw [H0.out]; exact Nat.le_refl _)]
      have hle : (froms (l.take j) k r v).length ≤ 1048576 := by have := HF.out; rw [List.length_take] at this; omega
      clear d1 d2 d3
      go_wp2
      go_ret
      exact ⟨by rw [HC.out]; rfl, hb⟩

def countF (s : NodeS) (l : List NMsgD) (k r v : Int) : Int := if nodeB s l = true then countN l k r v else 0
theorem countF_no {s : NodeS} {l : List NMsgD} (k r v : Int) (h : nodeB s l = false) : countF s l k r v = 0 := by unfold countF; rw [h]; rfl
theorem countF_yes {s : NodeS} {l : List NMsgD} (k r v : Int) (h : nodeB s l = true) : countF s l k r v = countN l k r v := by unfold countF; rw [h]; rfl
theorem Count_any (s : NodeS) (A : Option Addr) (n c : Nat) (k r v : Int) (l : List NMsgD) (w : World) (hl : RdL msgC 5 w w.heap.size A n c l) :
    Calls Try.prog 28 #[.agg #[.int .i64 s.me, .int .i64 s.round, .int .i64 s.step, .int .i64 s.lv, .int .i64 s.lr, .int .i64 s.vv, .int .i64 s.vr, .int .i64 s.polka, .int .i64 s.dec, .slice A n c], .int .i64 k, .int .i64 r, .int .i64 v] w fun e w' => e = .returned (.int .i64 (countF s l k r v)) ∧ Below w.heap.size w w' := by
  have HL := Lib.hid hl
  have H0 := Lib.hid hl.1
  clear hl
  cases hd : nodeB s l
  · have HE := Lib.hid (countF_no k r v hd)
    go_enter Try.func28, Try.ntmps28
    go_wp2_with (go_at_call 35; (refine (NodeOk_any s _ _ _ l _ (by exact (HL.out.alloc (Nat.le_refl _) _).more (by simp))).mono ?_); rintro e w1 ⟨rfl, hb⟩)
    go_ret
    exact ⟨by rw [HE.out]; rfl, (by repeat (first | exact Below.refl _ _ | assumption | refine Below.drew ?_ | refine belN ?_ _ | refine Below.alloc ?_ (by first | exact Nat.le_refl _ | (simp; done) | (simp; omega) | omega) _ | refine Below.setCell ?_ (by first | exact Nat.le_refl _ | (simp; done) | (simp; omega) | omega) _ | refine Below.trans ?_ (Below.mono (by assumption) (by first | exact Nat.le_refl _ | (simp; done) | (simp; omega) | omega))))⟩
  · have HE := Lib.hid (countF_yes k r v hd)
    have hn : n ≤ 1048576 := by
      have h := hd
      simp only [nodeB, Bool.and_eq_true, decide_eq_true_eq] at h
      rw [← H0.out]; omega
    go_enter Try.func28, Try.ntmps28
    go_wp2_with (first | (go_at_call 35; (refine (NodeOk_any s _ _ _ l _ (by exact (HL.out.alloc (Nat.le_refl _) _).more (by simp))).mono ?_); rintro e w1 ⟨rfl, hb⟩; have HB := Lib.hid hb; obtain ⟨hc, hf, hz⟩ := bcell hb; have hy := nlt (by simp at hz; omega : w.heap.size + 1 ≤ w1.heap.size)) | (go_at_call 56; (refine (count_any _ A n c l _ _ _ _ (by exact ((HL.out.alloc (Nat.le_refl _) _).below HB.out (by simp)).more (by have := HB.out.size; simp at this; omega)) hn (by rw [hc _ _ (by simp)]; simp) hy.1).mono ?_); rintro e w2 ⟨rfl, hb2⟩))
    go_ret
    exact ⟨by rw [HE.out]; rfl, (((Below.refl _ _).alloc (Nat.le_refl _) _).trans (HB.out.mono (by simp))).trans (hb2.mono (by omega))⟩

theorem sCount_any (s : NodeS) (A : Option Addr) (n c : Nat) (k r v : Int) (l : List NMsgD) (w : World) (hl : RdL msgC 5 w w.heap.size A n c l) :
    Calls Try.prog 29 #[.agg #[.int .i64 s.me, .int .i64 s.round, .int .i64 s.step, .int .i64 s.lv, .int .i64 s.lr, .int .i64 s.vv, .int .i64 s.vr, .int .i64 s.polka, .int .i64 s.dec, .slice A n c], .int .i64 k, .int .i64 r, .int .i64 v] w fun e w' => e = .returned (.int .i64 (countF s l k r v)) ∧ Below w.heap.size w w' := by
  have HL := Lib.hid hl
  have H0 := Lib.hid hl.1
  clear hl
  cases hd : nodeB s l
  · have HE := Lib.hid (countF_no k r v hd)
    go_enter Try.func29, Try.ntmps29
    go_wp2_with (go_at_call 25; (refine (sNodeOk_any s _ _ _ l _ (by exact (HL.out.alloc (Nat.le_refl _) _).more (by simp))).mono ?_); rintro e w1 ⟨rfl, hb⟩)
    go_ret
    exact ⟨by rw [HE.out]; rfl, (by repeat (first | exact Below.refl _ _ | assumption | refine Below.drew ?_ | refine belN ?_ _ | refine Below.alloc ?_ (by first | exact Nat.le_refl _ | (simp; done) | (simp; omega) | omega) _ | refine Below.setCell ?_ (by first | exact Nat.le_refl _ | (simp; done) | (simp; omega) | omega) _ | refine Below.trans ?_ (Below.mono (by assumption) (by first | exact Nat.le_refl _ | (simp; done) | (simp; omega) | omega))))⟩
  · have HE := Lib.hid (countF_yes k r v hd)
    have hq : msgsOk l = true ∧ n ≤ 1048576 := by
      have h := hd
      simp only [nodeB, Bool.and_eq_true, decide_eq_true_eq] at h
      exact ⟨h.2.1, by rw [← H0.out]; omega⟩
    have H4 := Lib.hid (froms4_of hq.1)
    have hn := hq.2
    clear hq
    go_enter Try.func29, Try.ntmps29
    go_wp2_with (first | (go_at_call 25; (refine (sNodeOk_any s _ _ _ l _ (by exact (HL.out.alloc (Nat.le_refl _) _).more (by simp))).mono ?_); rintro e w1 ⟨rfl, hb⟩; have HB := Lib.hid hb; obtain ⟨hc, hf, hz⟩ := bcell hb; have hy := nlt (by simp at hz; omega : w.heap.size + 1 ≤ w1.heap.size)) | (go_at_call 57; (refine (l16Count_any A n c l _ _ _ _ (by exact ((HL.out.alloc (Nat.le_refl _) _).below HB.out (by simp)).more (by have := HB.out.size; simp at this; omega)) hn H4.out).mono ?_); rintro e w2 ⟨rfl, hb2⟩))
    go_ret
    exact ⟨by rw [HE.out]; rfl, (((Below.refl _ _).alloc (Nat.le_refl _) _).trans (HB.out.mono (by simp))).trans (hb2.mono (by omega))⟩
end Go.Proofs.Ytmpppmeloieamaa
