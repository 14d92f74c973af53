/- Count, Count2: joined into one text. -/
import Derived.WalkKit
import Derived.WalkSpells
import Derived.WalkLawsBesides
import Derived.Lib.Hide
import Derived.Test.YtjgaelnonacdkaaG06
import Derived.Test.YtjgaelnonacdkaaIntHas
namespace Go.Proofs.Ytjgaelnonacdkaa
open Go.RowKit

def cntStep (k r v : Int) (fs : List Int) (m : NMsgD) : List Int := if (m.k == k && m.r == r && m.v == v && !(hasI fs m.f)) = true then fs ++ [m.f] else fs
def froms (l : List NMsgD) (k r v : Int) : List Int := l.foldl (cntStep k r v) []
def countN (l : List NMsgD) (k r v : Int) : Int := (froms l k r v).length
theorem froms_snoc (l : List NMsgD) (k r v : Int) (m : NMsgD) : froms (l ++ [m]) k r v = cntStep k r v (froms l k r v) m := by
  unfold froms; rw [List.foldl_append]; rfl
theorem froms_len (l : List NMsgD) (k r v : Int) : (froms l k r v).length ≤ l.length := by
  have : ∀ (l : List NMsgD) (fs : List Int), (l.foldl (cntStep k r v) fs).length ≤ fs.length + l.length := by
    intro l
    induction l with
    | nil => intro fs; simp
    | cons m l ih => intro fs; simp only [List.foldl_cons, List.length_cons]
                     have h1 := ih (cntStep k r v fs m)
                     have h2 : (cntStep k r v fs m).length ≤ fs.length + 1 := by unfold cntStep; split <;> simp
                     omega
  unfold froms; simpa using this l []
theorem take_next {α : Type} {l : List α} {k : Nat} {x : α} (h : l[k]? = some x) : l.take (k + 1) = l.take k ++ [x] := by
  rw [List.take_add_one, h]; rfl
theorem step_no {k r v : Int} {fs : List Int} {m : NMsgD} (h : (m.k == k && m.r == r && m.v == v && !(hasI fs m.f)) = false) : cntStep k r v fs m = fs := by unfold cntStep; rw [h]; rfl
theorem step_yes {k r v : Int} {fs : List Int} {m : NMsgD} (h : (m.k == k && m.r == r && m.v == v && !(hasI fs m.f)) = true) : cntStep k r v fs m = fs ++ [m.f] := by unfold cntStep; rw [h]; rfl

set_option maxRecDepth 100000 in
set_option maxHeartbeats 1000000 in
theorem count_any (b0 : Nat) (A : Option Addr) (n c : Nat) (l : List NMsgD) (k r v : Int) (w : World) (hl : RdL msgC 5 w w.heap.size A n c l) (hn : n ≤ 1048576)
    (hx : w.cell? ⟨b0, 9, none⟩ = some (.slice A n c)) (hlt : b0 < w.heap.size) :
    Calls Try.prog 63 #[.pointer (some ⟨b0, 0, none⟩), .int .i64 k, .int .i64 r, .int .i64 v] w fun e w' => e = .returned (.int .i64 (countN l k r v)) ∧ Below w.heap.size w w' := by
  have HL := Lib.hid hl
  have H0 := Lib.hid hl.1
  clear hl
  obtain ⟨i0, hi, hz0, hz1, hz2⟩ := info_parts infoInt
  go_enter Try.func63, Try.ntmps63
  go_wp2_with fail
  go_loopw [9, 18] (fun o i wr => ∃ j : Nat, j ≤ n ∧ i = .int .i64 j ∧ wr.ownsRow w.heap.size 3 1 o (froms (l.take j) k r v).length ((froms (l.take j) k r v).flatMap intC) ∧ Below w.heap.size w wr) (fun _ i _ => n - (intOf i).toNat)
  case atStart => exact ⟨0, by omega, rfl, World.ownsRow_lit w #[] 0 (Nat.le_refl _) (by decide) rfl, (by repeat (first | exact Below.refl _ _ | assumption | refine Below.drew ?_ | refine belN ?_ _ | refine Below.alloc ?_ (by first | exact Nat.le_refl _ | (simp; done) | (simp; omega) | omega) _ | refine Below.setCell ?_ (by first | exact Nat.le_refl _ | (simp; done) | (simp; omega) | omega) _ | refine Below.trans ?_ (Below.mono (by assumption) (by first | exact Nat.le_refl _ | (simp; done) | (simp; omega) | omega))))⟩
  case round =>
    obtain ⟨j, hj, rfl, hown, hb⟩ := hrel
    have HO := Lib.hid hown; clear hown
    have hz := hb.size
    have HX : Hid (wr.cell? ⟨b0, 9, none⟩ = some (.slice A n c)) := (hb.cell (p := ⟨b0, 9, none⟩) hlt).trans hx
    have HF := Lib.hid (froms_len (l.take j) k r v)
    by_cases hkn : j < n
    · obtain ⟨b, off, p, rfl, hb1, hp, c0, c1, c2, c3, c4⟩ := msg_cells (HL.out.below hb (Nat.le_refl _)) hkn
      have HT := Lib.hid (take_next hp)
      have HS := Lib.hid (froms_snoc (l.take j) k r v p)
      have hle : (froms (l.take j) k r v).length ≤ 1048576 := by have := HF.out; rw [List.length_take] at this; omega
      clear hp hx
      generalize hfs : froms (l.take j) k r v = fs at *
      clear hfs
      obtain ⟨A1, cc1, rfl, hr⟩ := Rd.of_own HO.out
      have HR : Hid (RdL intC 1 wr wr.heap.size A1 fs.length cc1 fs) := ⟨rfl, hr⟩
      clear hr
      cases g1 : (p.k == k)
      · have HG := Lib.hid (step_no (k := k) (r := r) (v := v) (fs := fs) (m := p) (by simp [*]))
        go_wp2
        go_roundw
        case rel => exact ⟨j + 1, by omega, by go_num, by rw [HT.out, HS.out, HG.out]; exact HO.out.alloc _, hb.alloc hz _⟩
        case measure => simp [intOf]; omega
      cases g2 : (p.r == r)
      · have HG := Lib.hid (step_no (k := k) (r := r) (v := v) (fs := fs) (m := p) (by simp [*]))
        go_wp2
        go_roundw
        case rel => exact ⟨j + 1, by omega, by go_num, by rw [HT.out, HS.out, HG.out]; exact HO.out.alloc _, hb.alloc hz _⟩
        case measure => simp [intOf]; omega
      cases g3 : (p.v == v)
      · have HG := Lib.hid (step_no (k := k) (r := r) (v := v) (fs := fs) (m := p) (by simp [*]))
        go_wp2
        go_roundw
        case rel => exact ⟨j + 1, by omega, by go_num, by rw [HT.out, HS.out, HG.out]; exact HO.out.alloc _, hb.alloc hz _⟩
        case measure => simp [intOf]; omega
      cases g4 : hasI fs p.f
      · have HG := Lib.hid (step_yes (k := k) (r := r) (v := v) (fs := fs) (m := p) (by simp [*]))
        go_wp2_with (first | (go_at_call 92; (refine (ContainsInt_any _ _ _ fs p.f _ (by exact (HR.out.alloc (Nat.le_refl _) _).more (by simp))).mono ?_); rintro e w1 ⟨rfl, hb2⟩; obtain ⟨hc, hf, hzz⟩ := bcell hb2; have hy : wr.heap.size < w1.heap.size := (by simp at hzz; omega); have HOW := Lib.hid (own_keep (HO.out.alloc _) hb2 (Nat.le_refl _))) | (at_builtin; refine wpList_append_own _ rfl _ _ 85 rfl w.heap.size 3 i0 (.int .i64 0) 1 8 Try.underlying85 hi hz0 hz1 hz2 rfl (by decide) _ _ _ rfl (HOW.out.alloc _) ⟨_, 0, none⟩ 1 1 [.int .i64 p.f] rfl rfl (one_new _ _ _) (one_cell _ rfl) (by unfold maxLen; omega) (by omega) (by simp; omega) ?_))
        intro v' w2 hown' hgrow _
        have hb3 : Below w.heap.size w w2 := (((hb.alloc hz _).trans (hb2.mono (by simp; omega))).alloc (by omega) _).grown hgrow (by simp; omega) (fun g hg => (HOW.out.lt g hg).1)
        have HB3 := Lib.hid hb3; have HO3 := Lib.hid hown'
        clear hown' hgrow hb3
        go_wp2
        go_roundw
        case rel => exact ⟨j + 1, by omega, by go_num, by rw [HT.out, HS.out, HG.out]; simpa [intC] using HO3.out, HB3.out⟩
        case measure => simp [intOf]; omega
      · have HG := Lib.hid (step_no (k := k) (r := r) (v := v) (fs := fs) (m := p) (by simp [*]))
        go_wp2_with (first | (go_at_call 92; (refine (ContainsInt_any _ _ _ fs p.f _ (by exact (HR.out.alloc (Nat.le_refl _) _).more (by simp))).mono ?_); rintro e w1 ⟨rfl, hb2⟩; obtain ⟨hc, hf, hzz⟩ := bcell hb2; have hy : wr.heap.size < w1.heap.size := (by simp at hzz; omega); have HOW := Lib.hid (own_keep (HO.out.alloc _) hb2 (Nat.le_refl _))))
        go_roundw
        case rel => exact ⟨j + 1, by omega, by go_num, by rw [HT.out, HS.out, HG.out]; exact own_keep (HO.out.alloc _) hb2 (Nat.le_refl _), (hb.alloc hz _).trans (hb2.mono (by simp; omega))⟩
        case measure => simp [intOf]; omega
    · obtain rfl : j = n := by omega
      have HC : Hid (countN l k r v = (froms (l.take j) k r v).length) := by show _ = _; unfold countN; rw [List.take_of_length_le (by rw [H0.out]; exact Nat.le_refl _)]
      obtain ⟨A1, cc1, rfl, hr⟩ := Rd.of_own HO.out
      have hle : (froms (l.take j) k r v).length ≤ 1048576 := by have := HF.out; rw [List.length_take] at this; omega
      clear hr
      go_wp2
      go_ret
      exact ⟨by rw [HC.out]; rfl, hb⟩
end Go.Proofs.Ytjgaelnonacdkaa
namespace Go.Proofs.Ytjgaelnonacdkaa
open Go.RowKit

def froms4 (l : List NMsgD) : Prop := ∀ (j : Nat) (p : NMsgD), l[j]? = some p → 0 ≤ p.f ∧ p.f ≤ 4
theorem froms4_of {l : List NMsgD} (h : msgsOk l = true) : froms4 l := by
  intro j p hp
  cases hq : freshMsg l j p
  · rw [msgsOk_no hp hq] at h; cases h
  · simp only [freshMsg, okMsg, msgB, Bool.and_eq_true, inB_iff] at hq
    omega
theorem hasI_snoc (fs : List Int) (x y : Int) : hasI (fs ++ [x]) y = (hasI fs y || (y == x)) := by
  unfold hasI; rw [List.any_append]; simp

set_option maxRecDepth 100000 in
set_option maxHeartbeats 1000000 in
theorem l16Count_any (A : Option Addr) (n c : Nat) (l : List NMsgD) (k r v : Int) (w : World) (hl : RdL msgC 5 w w.heap.size A n c l) (hn : n ≤ 1048576) (h4 : froms4 l) :
    Calls Try.prog 62 #[.slice A n c, .int .i64 k, .int .i64 r, .int .i64 v] w fun e w' => e = .returned (.int .i64 (countN l k r v)) ∧ Below w.heap.size w w' := by
  have HL := Lib.hid hl
  have H0 := Lib.hid hl.1
  have H4 := Lib.hid h4
  clear hl h4
  have hmk : ∀ w, (Instr.makeSlice 114 (.int .i64 5) (.int .i64 5)).run Try.prog w = .ok (.slice (some ⟨w.heap.size, 0, none⟩) 5 5) (w.alloc (.cells #[.bool false, .bool false, .bool false, .bool false, .bool false] 4)) := fun _ => by kernel_rfl
  go_enter Try.func62, Try.ntmps62
  go_wp2_with fail
  go_loopw [9, 11] (fun o i wr => ∃ j : Nat, j ≤ n ∧ i = .int .i64 j ∧ o = .int .i64 (froms (l.take j) k r v).length ∧ Below w.heap.size w wr ∧ ∃ cur : Array Value, Blk wr w.heap.size 4 cur ∧ cur.size = 5 ∧ ∀ q : Nat, q < 5 → cur[q]? = some (.bool (hasI (froms (l.take j) k r v) q))) (fun _ i _ => n - (intOf i).toNat)
  case atStart =>
    refine ⟨0, by omega, rfl, rfl, (by repeat (first | exact Below.refl _ _ | assumption | refine Below.drew ?_ | refine belN ?_ _ | refine Below.alloc ?_ (by first | exact Nat.le_refl _ | (simp; done) | (simp; omega) | omega) _ | refine Below.setCell ?_ (by first | exact Nat.le_refl _ | (simp; done) | (simp; omega) | omega) _ | refine Below.trans ?_ (Below.mono (by assumption) (by first | exact Nat.le_refl _ | (simp; done) | (simp; omega) | omega)))), #[.bool false, .bool false, .bool false, .bool false, .bool false], by unfold Blk; exact heap_alloc_new w _, rfl, fun q hq => ?_⟩
    rcases (by omega : q = 0 ∨ q = 1 ∨ q = 2 ∨ q = 3 ∨ q = 4) with rfl | rfl | rfl | rfl | rfl <;> rfl
  case round =>
    obtain ⟨j, hj, rfl, rfl, hb, cur, d1, d2, d3⟩ := hrel
    have hz := hb.size
    have hzl : w.heap.size < wr.heap.size := d1.lt
    have HF := Lib.hid (froms_len (l.take j) k r v)
    by_cases hkn : j < n
    · obtain ⟨b, off, p, rfl, hb1, hp, c0, c1, c2, c3, c4⟩ := msg_cells (HL.out.below hb (Nat.le_refl _)) hkn
      have HT := Lib.hid (take_next hp)
      have HS := Lib.hid (froms_snoc (l.take j) k r v p)
      have hle : (froms (l.take j) k r v).length ≤ 1048576 := by have := HF.out; rw [List.length_take] at this; omega
      have h4p := H4.out j p hp
      clear hp
      generalize hfs : froms (l.take j) k r v = fs at *
      clear hfs
      obtain ⟨q, hq⟩ := Int.eq_ofNat_of_zero_le h4p.1
      have hq5 : q < 5 := by omega
      have D1 := Lib.hid d1; have D2 := Lib.hid d2; have D3 := Lib.hid d3
      have e0 : wr.cell? ⟨w.heap.size, q, none⟩ = some (.bool (hasI fs q)) := by rw [D1.out.cell]; exact D3.out q hq5
      have ef := D1.out.frozen
      obtain ⟨pk, pr, pv, pp, pf⟩ := p
      simp only at hq c0 c1 c2 c3 c4 HT HS
      subst hq
      clear d1 d2 d3 h4p
      cases g1 : (pk == k)
      · have HG := Lib.hid (step_no (k := k) (r := r) (v := v) (fs := fs) (m := ⟨pk, pr, pv, pp, q⟩) (by simp [*]))
        go_wp2
        go_roundw
        case rel => exact ⟨j + 1, by omega, by go_num, by rw [HT.out, HS.out, HG.out], hb.alloc hz _, cur, D1.out.alloc _, D2.out, by rw [HT.out, HS.out, HG.out]; exact D3.out⟩
        case measure => simp [intOf]; omega
      cases g2 : (pr == r)
      · have HG := Lib.hid (step_no (k := k) (r := r) (v := v) (fs := fs) (m := ⟨pk, pr, pv, pp, q⟩) (by simp [*]))
        go_wp2
        go_roundw
        case rel => exact ⟨j + 1, by omega, by go_num, by rw [HT.out, HS.out, HG.out], hb.alloc hz _, cur, D1.out.alloc _, D2.out, by rw [HT.out, HS.out, HG.out]; exact D3.out⟩
        case measure => simp [intOf]; omega
      cases g3 : (pv == v)
      · have HG := Lib.hid (step_no (k := k) (r := r) (v := v) (fs := fs) (m := ⟨pk, pr, pv, pp, q⟩) (by simp [*]))
        go_wp2
        go_roundw
        case rel => exact ⟨j + 1, by omega, by go_num, by rw [HT.out, HS.out, HG.out], hb.alloc hz _, cur, D1.out.alloc _, D2.out, by rw [HT.out, HS.out, HG.out]; exact D3.out⟩
        case measure => simp [intOf]; omega
      cases g4 : hasI fs q
      · have HG := Lib.hid (step_yes (k := k) (r := r) (v := v) (fs := fs) (m := ⟨pk, pr, pv, pp, q⟩) (by simp [*]))
        go_wp2
        go_roundw
        case rel =>
          refine ⟨j + 1, by omega, by go_num, by rw [HT.out, HS.out, HG.out]; simp, (by first | exact (hb.alloc hz _).setCell (Nat.le_refl _) _ | exact (hb.setCell (Nat.le_refl _) _).alloc (by simpa using hz) _), cur.setIfInBounds q (.bool true), (by first | exact (D1.out.alloc _).set_ _ _ | exact (D1.out.set_ _ _).alloc _), by simpa using D2.out, fun y hy => ?_⟩
          rw [HT.out, HS.out, HG.out, hasI_snoc, Array.getElem?_setIfInBounds]
          by_cases hyq : q = y
          · subst hyq; simp [D2.out, hq5]
          · rw [if_neg hyq, D3.out y hy]
            have : ((y : Int) == (q : Int)) = false := by rw [beq_eq_false_iff_ne]; omega
            rw [this, Bool.or_false]
        case measure => simp [intOf]; omega
      · have HG := Lib.hid (step_no (k := k) (r := r) (v := v) (fs := fs) (m := ⟨pk, pr, pv, pp, q⟩) (by simp [*]))
        go_wp2
        go_roundw
        case rel => exact ⟨j + 1, by omega, by go_num, by rw [HT.out, HS.out, HG.out], hb.alloc hz _, cur, D1.out.alloc _, D2.out, by rw [HT.out, HS.out, HG.out]; exact D3.out⟩
        case measure => simp [intOf]; omega
    · obtain rfl : j = n := by omega
      have HC : Hid (countN l k r v = (froms (l.take j) k r v).length) := by show _ = _; unfold countN; rw [List.take_of_length_le (by rw [H0.out]; exact Nat.le_refl _)]
      have hle : (froms (l.take j) k r v).length ≤ 1048576 := by have := HF.out; rw [List.length_take] at this; omega
      clear d1 d2 d3
      go_wp2
      go_ret
      exact ⟨by rw [HC.out]; rfl, hb⟩

def countF (s : NodeS) (l : List NMsgD) (k r v : Int) : Int := if nodeB s l = true then countN l k r v else 0
theorem countF_no {s : NodeS} {l : List NMsgD} (k r v : Int) (h : nodeB s l = false) : countF s l k r v = 0 := by unfold countF; rw [h]; rfl
theorem countF_yes {s : NodeS} {l : List NMsgD} (k r v : Int) (h : nodeB s l = true) : countF s l k r v = countN l k r v := by unfold countF; rw [h]; rfl

end Go.Proofs.Ytjgaelnonacdkaa
