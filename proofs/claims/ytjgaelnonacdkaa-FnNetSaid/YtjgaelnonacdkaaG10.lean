/- Count, Count2, NodeRule: joined into one text. -/
import Derived.WalkKit
import Derived.WalkSpells
import Derived.WalkLawsBesides
import Derived.Lib.Hide
import Derived.Test.YtjgaelnonacdkaaG08
import Derived.Test.YtjgaelnonacdkaaIntHas
namespace Go.Proofs.Ytjgaelnonacdkaa
open Go.RowKit

def cntStep (k r v : Int) (fs : List Int) (m : NMsgD) : List Int := if (m.k == k && m.r == r && m.v == v && !(hasI fs m.f)) = true then fs ++ [m.f] else fs
def froms (l : List NMsgD) (k r v : Int) : List Int := l.foldl (cntStep k r v) []
def countN (l : List NMsgD) (k r v : Int) : Int := (froms l k r v).length
theorem froms_snoc (l : List NMsgD) (k r v : Int) (m : NMsgD) : froms (l ++ [m]) k r v = cntStep k r v (froms l k r v) m := by
  unfold froms; rw [List.foldl_append]; rfl
theorem froms_len (l : List NMsgD) (k r v : Int) : (froms l k r v).length ≤ l.length := by
  have : ∀ (l : List NMsgD) (fs : List Int), (l.foldl (cntStep k r v) fs).length ≤ fs.length + l.length := by
    intro l
    induction l with
    | nil => intro fs; simp
    | cons m l ih => intro fs; simp only [List.foldl_cons, List.length_cons]
                     have h1 := ih (cntStep k r v fs m)
                     have h2 : (cntStep k r v fs m).length ≤ fs.length + 1 := by unfold cntStep; split <;> simp
                     omega
  unfold froms; simpa using this l []
theorem take_next {α : Type} {l : List α} {k : Nat} {x : α} (h : l[k]? = some x) : l.take (k + 1) = l.take k ++ [x] := by
  rw [List.take_add_one, h]; rfl
theorem step_no {k r v : Int} {fs : List Int} {m : NMsgD} (h : (m.k == k && m.r == r && m.v == v && !(hasI fs m.f)) = false) : cntStep k r v fs m = fs := by unfold cntStep; rw [h]; rfl
theorem step_yes {k r v : Int} {fs : List Int} {m : NMsgD} (h : (m.k == k && m.r == r && m.v == v && !(hasI fs m.f)) = true) : cntStep k r v fs m = fs ++ [m.f] := by unfold cntStep; rw [h]; rfl

set_option maxRecDepth 100000 in
set_option maxHeartbeats 1000000 in
theorem count_any (b0 : Nat) (A : Option Addr) (n c : Nat) (l : List NMsgD) (k r v : Int) (w : World) (hl : RdL msgC 5 w w.heap.size A n c l) (hn : n ≤ 1048576)
    (hx : w.cell? ⟨b0, 9, none⟩ = some (.slice A n c)) (hlt : b0 < w.heap.size) :
    Calls Try.prog 63 #[.pointer (some ⟨b0, 0, none⟩), .int .i64 k, .int .i64 r, .int .i64 v] w fun e w' => e = .returned (.int .i64 (countN l k r v)) ∧ Below w.heap.size w w' := by
  have HL := Lib.hid hl
  have H0 := Lib.hid hl.1
  clear hl
  obtain ⟨i0, hi, hz0, hz1, hz2⟩ := info_parts infoInt
  go_enter Try.func63, Try.ntmps63
  go_wp2_with fail
  go_loopw [9, 18] (fun o i wr => ∃ j : Nat, j ≤ n ∧ i = .int .i64 j ∧ wr.ownsRow w.heap.size 3 1 o (froms (l.take j) k r v).length ((froms (l.take j) k r v).flatMap intC) ∧ Below w.heap.size w wr) (fun _ i _ => n - (intOf i).toNat)
  case atStart => exact ⟨0, by omega, rfl, World.ownsRow_lit w #[] 0 (Nat.le_refl _) (by decide) rfl, (by repeat (first | exact Below.refl _ _ | assumption | refine Below.drew ?_ | refine belN ?_ _ | refine Below.alloc ?_ (by first | exact Nat.le_refl _ | (simp; done) | (simp; omega) | omega) _ | refine Below.setCell ?_ (by first | exact Nat.le_refl _ | (simp; done) | (simp; omega) | omega) _ | refine Below.trans ?_ (Below.mono (by assumption) (by first | exact Nat.le_refl _ | (simp; done) | (simp; omega) | omega))))⟩
  case round =>
    obtain ⟨j, hj, rfl, hown, hb⟩ := hrel
    have HO := Lib.hid hown; clear hown
    have hz := hb.size
    have HX : Hid (wr.cell? ⟨b0, 9, none⟩ = some (.slice A n c)) := (hb.cell (p := ⟨b0, 9, none⟩) hlt).trans hx
    have HF := Lib.hid (froms_len (l.take j) k r v)
    by_cases hkn : j < n
    · obtain ⟨b, off, p, rfl, hb1, hp, c0, c1, c2, c3, c4⟩ := msg_cells (HL.out.below hb (Nat.le_refl _)) hkn
      have HT := Lib.hid (take_next hp)
      have HS := Lib.hid (froms_snoc (l.take j) k r v p)
      have hle : (froms (l.take j) k r v).length ≤ 1048576 := by have := HF.out; rw [List.length_take] at this; omega
      clear hp hx
      generalize hfs : froms (l.take j) k r v = fs at *
      clear hfs
      obtain ⟨A1, cc1, rfl, hr⟩ := Rd.of_own HO.out
      have HR : Hid (RdL intC 1 wr wr.heap.size A1 fs.length cc1 fs) := ⟨rfl, hr⟩
      clear hr
      cases g1 : (p.k == k)
      · have HG := Lib.hid (step_no (k := k) (r := r) (v := v) (fs := fs) (m := p) (by simp [*]))
        go_wp2
        go_roundw
        case rel => exact ⟨j + 1, by omega, by go_num, by rw [HT.out, HS.out, HG.out]; exact HO.out.alloc _, hb.alloc hz _⟩
        case measure => simp [intOf]; omega
      cases g2 : (p.r == r)
      · have HG := Lib.hid (step_no (k := k) (r := r) (v := v) (fs := fs) (m := p) (by simp [*]))
        go_wp2
        go_roundw
        case rel => exact ⟨j + 1, by omega, by go_num, by rw [HT.out, HS.out, HG.out]; exact HO.out.alloc _, hb.alloc hz _⟩
        case measure => simp [intOf]; omega
      cases g3 : (p.v == v)
      · have HG := Lib.hid (step_no (k := k) (r := r) (v := v) (fs := fs) (m := p) (by simp [*]))
        go_wp2
        go_roundw
        case rel => exact ⟨j + 1, by omega, by go_num, by rw [HT.out, HS.out, HG.out]; exact HO.out.alloc _, hb.alloc hz _⟩
        case measure => simp [intOf]; omega
      cases g4 : hasI fs p.f
      · have HG := Lib.hid (step_yes (k := k) (r := r) (v := v) (fs := fs) (m := p) (by simp [*]))
        go_wp2_with (first | (go_at_call 92; (refine (ContainsInt_any _ _ _ fs p.f _ (by exact (HR.out.alloc (Nat.le_refl _) _).more (by simp))).mono ?_); rintro e w1 ⟨rfl, hb2⟩; obtain ⟨hc, hf, hzz⟩ := bcell hb2; have hy : wr.heap.size < w1.heap.size := (by simp at hzz; omega); have HOW := Lib.hid (own_keep (HO.out.alloc _) hb2 (Nat.le_refl _))) | (at_builtin; refine wpList_append_own _ rfl _ _ 85 rfl w.heap.size 3 i0 (.int .i64 0) 1 8 Try.underlying85 hi hz0 hz1 hz2 rfl (by decide) _ _ _ rfl (HOW.out.alloc _) ⟨_, 0, none⟩ 1 1 [.int .i64 p.f] rfl rfl (one_new _ _ _) (one_cell _ rfl) (by unfold maxLen; omega) (by omega) (by simp; omega) ?_))
        intro v' w2 hown' hgrow _
        have hb3 : Below w.heap.size w w2 := (((hb.alloc hz _).trans (hb2.mono (by simp; omega))).alloc (by omega) _).grown hgrow (by simp; omega) (fun g hg => (HOW.out.lt g hg).1)
        have HB3 := Lib.hid hb3; have HO3 := Lib.hid hown'
        clear hown' hgrow hb3
        go_wp2
        go_roundw
        case rel => exact ⟨j + 1, by omega, by go_num, by rw [HT.out, HS.out, HG.out]; simpa [intC] using HO3.out, HB3.out⟩
        case measure => simp [intOf]; omega
      · have HG := Lib.hid (step_no (k := k) (r := r) (v := v) (fs := fs) (m := p) (by simp [*]))
        go_wp2_with (first | (go_at_call 92; (refine (ContainsInt_any _ _ _ fs p.f _ (by exact (HR.out.alloc (Nat.le_refl _) _).more (by simp))).mono ?_); rintro e w1 ⟨rfl, hb2⟩; obtain ⟨hc, hf, hzz⟩ := bcell hb2; have hy : wr.heap.size < w1.heap.size := (by simp at hzz; omega); have HOW := Lib.hid (own_keep (HO.out.alloc _) hb2 (Nat.le_refl _))))
        go_roundw
        case rel => exact ⟨j + 1, by omega, by go_num, by rw [HT.out, HS.out, HG.out]; exact own_keep (HO.out.alloc _) hb2 (Nat.le_refl _), (hb.alloc hz _).trans (hb2.mono (by simp; omega))⟩
        case measure => simp [intOf]; omega
    · obtain rfl : j = n := by omega
      have HC : Hid (countN l k r v = (froms (l.take j) k r v).length) := by show _ = _; unfold countN; rw [List.take_of_length_le (by rw [H0.out]; exact Nat.le_refl _)]
      obtain ⟨A1, cc1, rfl, hr⟩ := Rd.of_own HO.out
      have hle : (froms (l.take j) k r v).length ≤ 1048576 := by have := HF.out; rw [List.length_take] at this; omega
      clear hr
      go_wp2
      go_ret
      exact ⟨by rw [HC.out]; rfl, hb⟩
end Go.Proofs.Ytjgaelnonacdkaa
namespace Go.Proofs.Ytjgaelnonacdkaa
open Go.RowKit

def froms4 (l : List NMsgD) : Prop := ∀ (j : Nat) (p : NMsgD), l[j]? = some p → 0 ≤ p.f ∧ p.f ≤ 4
theorem froms4_of {l : List NMsgD} (h : msgsOk l = true) : froms4 l := by
  intro j p hp
  cases hq : freshMsg l j p
  · rw [msgsOk_no hp hq] at h; cases h
  · simp only [freshMsg, okMsg, msgB, Bool.and_eq_true, inB_iff] at hq
    omega
theorem hasI_snoc (fs : List Int) (x y : Int) : hasI (fs ++ [x]) y = (hasI fs y || (y == x)) := by
  unfold hasI; rw [List.any_append]; simp

set_option maxRecDepth 100000 in
set_option maxHeartbeats 1000000 in
theorem l16Count_any (A : Option Addr) (n c : Nat) (l : List NMsgD) (k r v : Int) (w : World) (hl : RdL msgC 5 w w.heap.size A n c l) (hn : n ≤ 1048576) (h4 : froms4 l) :
    Calls Try.prog 62 #[.slice A n c, .int .i64 k, .int .i64 r, .int .i64 v] w fun e w' => e = .returned (.int .i64 (countN l k r v)) ∧ Below w.heap.size w w' := by
  have HL := Lib.hid hl
  have H0 := Lib.hid hl.1
  have H4 := Lib.hid h4
  clear hl h4
  have hmk : ∀ w, (Instr.makeSlice 114 (.int .i64 5) (.int .i64 5)).run Try.prog w = .ok (.slice (some ⟨w.heap.size, 0, none⟩) 5 5) (w.alloc (.cells #[.bool false, .bool false, .bool false, .bool false, .bool false] 4)) := fun _ => by kernel_rfl
  go_enter Try.func62, Try.ntmps62
  go_wp2_with fail
  go_loopw [9, 11] (fun o i wr => ∃ j : Nat, j ≤ n ∧ i = .int .i64 j ∧ o = .int .i64 (froms (l.take j) k r v).length ∧ Below w.heap.size w wr ∧ ∃ cur : Array Value, Blk wr w.heap.size 4 cur ∧ cur.size = 5 ∧ ∀ q : Nat, q < 5 → cur[q]? = some (.bool (hasI (froms (l.take j) k r v) q))) (fun _ i _ => n - (intOf i).toNat)
  case atStart =>
    refine ⟨0, by omega, rfl, rfl, (by repeat (first | exact Below.refl _ _ | assumption | refine Below.drew ?_ | refine belN ?_ _ | refine Below.alloc ?_ (by first | exact Nat.le_refl _ | (simp; done) | (simp; omega) | omega) _ | refine Below.setCell ?_ (by first | exact Nat.le_refl _ | (simp; done) | (simp; omega) | omega) _ | refine Below.trans ?_ (Below.mono (by assumption) (by first | exact Nat.le_refl _ | (simp; done) | (simp; omega) | omega)))), #[.bool false, .bool false, .bool false, .bool false, .bool false], by unfold Blk; exact heap_alloc_new w _, rfl, fun q hq => ?_⟩
    rcases (by omega : q = 0 ∨ q = 1 ∨ q = 2 ∨ q = 3 ∨ q = 4) with rfl | rfl | rfl | rfl | rfl <;> rfl
  case round =>
    obtain ⟨j, hj, rfl, rfl, hb, cur, d1, d2, d3⟩ := hrel
    have hz := hb.size
    have hzl : w.heap.size < wr.heap.size := d1.lt
    have HF := Lib.hid (froms_len (l.take j) k r v)
    by_cases hkn : j < n
    · obtain ⟨b, off, p, rfl, hb1, hp, c0, c1, c2, c3, c4⟩ := msg_cells (HL.out.below hb (Nat.le_refl _)) hkn
      have HT := Lib.hid (take_next hp)
      have HS := Lib.hid (froms_snoc (l.take j) k r v p)
      have hle : (froms (l.take j) k r v).length ≤ 1048576 := by have := HF.out; rw [List.length_take] at this; omega
      have h4p := H4.out j p hp
      clear hp
      generalize hfs : froms (l.take j) k r v = fs at *
      clear hfs
      obtain ⟨q, hq⟩ := Int.eq_ofNat_of_zero_le h4p.1
      have hq5 : q < 5 := by omega
      have D1 := Lib.hid d1; have D2 := Lib.hid d2; have D3 := Lib.hid d3
      have e0 : wr.cell? ⟨w.heap.size, q, none⟩ = some (.bool (hasI fs q)) := by rw [D1.out.cell]; exact D3.out q hq5
      have ef := D1.out.frozen
      obtain ⟨pk, pr, pv, pp, pf⟩ := p
      simp only at hq c0 c1 c2 c3 c4 HT HS
      subst hq
      clear d1 d2 d3 h4p
      cases g1 : (pk == k)
      · have HG := Lib.hid (step_no (k := k) (r := r) (v := v) (fs := fs) (m := ⟨pk, pr, pv, pp, q⟩) (by simp [*]))
        go_wp2
        go_roundw
        case rel => exact ⟨j + 1, by omega, by go_num, by rw [HT.out, HS.out, HG.out], hb.alloc hz _, cur, D1.out.alloc _, D2.out, by rw [HT.out, HS.out, HG.out]; exact D3.out⟩
        case measure => simp [intOf]; omega
      cases g2 : (pr == r)
      · have HG := Lib.hid (step_no (k := k) (r := r) (v := v) (fs := fs) (m := ⟨pk, pr, pv, pp, q⟩) (by simp [*]))
        go_wp2
        go_roundw
        case rel => exact ⟨j + 1, by omega, by go_num, by rw [HT.out, HS.out, HG.out], hb.alloc hz _, cur, D1.out.alloc _, D2.out, by rw [HT.out, HS.out, HG.out]; exact D3.out⟩
        case measure => simp [intOf]; omega
      cases g3 : (pv == v)
      · have HG := Lib.hid (step_no (k := k) (r := r) (v := v) (fs := fs) (m := ⟨pk, pr, pv, pp, q⟩) (by simp [*]))
        go_wp2
        go_roundw
        case rel => exact ⟨j + 1, by omega, by go_num, by rw [HT.out, HS.out, HG.out], hb.alloc hz _, cur, D1.out.alloc _, D2.out, by rw [HT.out, HS.out, HG.out]; exact D3.out⟩
        case measure => simp [intOf]; omega
      cases g4 : hasI fs q
      · have HG := Lib.hid (step_yes (k := k) (r := r) (v := v) (fs := fs) (m := ⟨pk, pr, pv, pp, q⟩) (by simp [*]))
        go_wp2
        go_roundw
        case rel =>
          refine ⟨j + 1, by omega, by go_num, by rw [HT.out, HS.out, HG.out]; simp, (by first | exact (hb.alloc hz _).setCell (Nat.le_refl _) _ | exact (hb.setCell (Nat.le_refl _) _).alloc (by simpa using hz) _), cur.setIfInBounds q (.bool true), (by first | exact (D1.out.alloc _).set_ _ _ | exact (D1.out.set_ _ _).alloc _), by simpa using D2.out, fun y hy => ?_⟩
          rw [HT.out, HS.out, HG.out, hasI_snoc, Array.getElem?_setIfInBounds]
          by_cases hyq : q = y
          · subst hyq; simp [D2.out, hq5]
          · rw [if_neg hyq, D3.out y hy]
            have : ((y : Int) == (q : Int)) = false := by rw [beq_eq_false_iff_ne]; omega
            rw [this, Bool.or_false]
        case measure => simp [intOf]; omega
      · have HG := Lib.hid (step_no (k := k) (r := r) (v := v) (fs := fs) (m := ⟨pk, pr, pv, pp, q⟩) (by simp [*]))
        go_wp2
        go_roundw
        case rel => exact ⟨j + 1, by omega, by go_num, by rw [HT.out, HS.out, HG.out], hb.alloc hz _, cur, D1.out.alloc _, D2.out, by rw [HT.out, HS.out, HG.out]; exact D3.out⟩
        case measure => simp [intOf]; omega
    · obtain rfl : j = n := by omega
      have HC : Hid (countN l k r v = (froms (l.take j) k r v).length) := by show _ = _; unfold countN; rw [List.take_of_length_le (by rw [H0.out]; exact Nat.le_refl _)]
      have hle : (froms (l.take j) k r v).length ≤ 1048576 := by have := HF.out; rw [List.length_take] at this; omega
      clear d1 d2 d3
      go_wp2
      go_ret
      exact ⟨by rw [HC.out]; rfl, hb⟩

def countF (s : NodeS) (l : List NMsgD) (k r v : Int) : Int := if nodeB s l = true then countN l k r v else 0
theorem countF_no {s : NodeS} {l : List NMsgD} (k r v : Int) (h : nodeB s l = false) : countF s l k r v = 0 := by unfold countF; rw [h]; rfl
theorem countF_yes {s : NodeS} {l : List NMsgD} (k r v : Int) (h : nodeB s l = true) : countF s l k r v = countN l k r v := by unfold countF; rw [h]; rfl

end Go.Proofs.Ytjgaelnonacdkaa
namespace Go.Proofs.Ytjgaelnonacdkaa
open Go.RowKit

structure RunS where
  s : NodeS
  l : List NMsgD
  o : List NMsgD

def msgOf (s : NodeS) (k v p : Int) : NMsgD := ⟨k, s.round, v, p, s.me⟩
def addM (l : List NMsgD) (m : NMsgD) : List NMsgD := if (!hasB l m && decide (l.length < 90)) = true then l ++ [m] else l
def sendR (x : RunS) (k v p : Int) : RunS := ⟨x.s, addM x.l (msgOf x.s k v p), x.o ++ [msgOf x.s k v p]⟩
def atRound (s : NodeS) (r : Int) : NodeS := ⟨s.me, r, 1, s.lv, s.lr, s.vv, s.vr, s.polka, s.dec⟩
def withStep (s : NodeS) (k : Int) : NodeS := ⟨s.me, s.round, k, s.lv, s.lr, s.vv, s.vr, s.polka, s.dec⟩
def withLock (s : NodeS) (v r : Int) : NodeS := ⟨s.me, s.round, s.step, v, r, s.vv, s.vr, s.polka, s.dec⟩
def withValid (s : NodeS) (v r : Int) : NodeS := ⟨s.me, s.round, s.step, s.lv, s.lr, v, r, r, s.dec⟩
def withDec (s : NodeS) (v : Int) : NodeS := ⟨s.me, s.round, s.step, s.lv, s.lr, s.vv, s.vr, s.polka, v⟩
def startR (x : RunS) (r : Int) : RunS :=
  if (propOf r == x.s.me) = true then
    (if (x.s.vr == -1) = true then sendR ⟨atRound x.s r, x.l, x.o⟩ 1 (10 + x.s.me) (-1) else sendR ⟨atRound x.s r, x.l, x.o⟩ 1 x.s.vv x.s.vr)
  else ⟨atRound x.s r, x.l, x.o⟩
def setStep (x : RunS) (k : Int) : RunS := ⟨withStep x.s k, x.l, x.o⟩
def prevoteR (x : RunS) (v : Int) : RunS := setStep (sendR x 2 v (-1)) 2
def precommitR (x : RunS) (v : Int) : RunS := setStep (sendR x 3 v (-1)) 3
def lockR (x : RunS) (v : Int) : RunS := ⟨withLock x.s v x.s.round, x.l, x.o⟩
def validR (x : RunS) (v : Int) : RunS := ⟨withValid x.s v x.s.round, x.l, x.o⟩
def polkaR (x : RunS) (v : Int) : RunS := validR (if (x.s.step == 2) = true then precommitR (lockR x v) v else x) v

def betterB (m b : NMsgD) : Bool := decide (m.r < b.r) || (m.r == b.r && decide (m.v < b.v))
def goodB (all : List NMsgD) (m : NMsgD) : Bool := m.k == 1 && decide (3 ≤ countN all 3 m.r m.v)
def bestStep (all : List NMsgD) (b : Option NMsgD) (m : NMsgD) : Option NMsgD :=
  if goodB all m = true then (match b with | none => some m | some q => if betterB m q = true then some m else some q) else b
def bestOf (all l : List NMsgD) : Option NMsgD := l.foldl (bestStep all) none
def rStep (r : Int) (fs : List Int) (m : NMsgD) : List Int := if (m.r == r && !(hasI fs m.f)) = true then fs ++ [m.f] else fs
def fromsAt (l : List NMsgD) (r : Int) : List Int := l.foldl (rStep r) []
def twoAt (l : List NMsgD) (r : Int) : Bool := decide (2 ≤ (fromsAt l r).length)
def skipTo (l : List NMsgD) (r0 : Int) : Option Int := ([11, 10, 9, 8, 7, 6, 5, 4, 3, 2, 1, 0] : List Int).find? fun r => decide (r0 < r) && twoAt l r
def propP (s : NodeS) (P : NMsgD → Bool) (m : NMsgD) : Bool := m.k == 1 && (m.r == s.round && P m)
def propBy (x : RunS) (P : NMsgD → Bool) : Option NMsgD := x.l.find? (propP x.s P)
def P3 (m : NMsgD) : Bool := m.p == -1
def P4 (l : List NMsgD) (m : NMsgD) : Bool := decide (0 ≤ m.p) && decide (3 ≤ countN l 2 m.p m.v)
def P5 (l : List NMsgD) (r : Int) (m : NMsgD) : Bool := decide (3 ≤ countN l 2 r m.v)
def rule34 (x : RunS) : Option RunS :=
  match propBy x P3 with
  | some m => some (prevoteR x (if (x.s.lr == -1 || x.s.lv == m.v) = true then m.v else 0))
  | none => match propBy x (P4 x.l) with
    | some m => some (prevoteR x (if (decide (x.s.lr ≤ m.p) || x.s.lv == m.v) = true then m.v else 0))
    | none => none
def rule6 (x : RunS) : Option RunS := if (x.s.step == 2 && decide (3 ≤ countN x.l 2 x.s.round 0)) = true then some (precommitR x 0) else none
def rule56 (x : RunS) : Option RunS :=
  if (x.s.polka == x.s.round) = true then rule6 x else
  match propBy x (P5 x.l x.s.round) with
  | some m => some (polkaR x m.v)
  | none => rule6 x
def ruleR (x : RunS) : Option RunS :=
  if (decide (0 < x.s.dec) || x.s.round == -1) = true then none else
  match bestOf x.l x.l with
  | some m => some ⟨withDec x.s m.v, x.l, x.o⟩
  | none => match skipTo x.l x.s.round with
    | some r => some (startR x r)
    | none => if (x.s.step == 1) = true then rule34 x else rule56 x
def muR (x : RunS) : Nat := if 0 < x.s.dec then 0 else 1 + ((12 - x.s.round) * 10 + (3 - x.s.step) * 2 + (if x.s.polka = x.s.round then 0 else 1)).toNat
def restF : Nat → RunS → RunS
  | 0, x => x
  | n + 1, x => match ruleR x with | some y => restF n y | none => x
def restR (x : RunS) : RunS := restF (muR x) x

/-! ### what stays right -/
structure NodeP (s : NodeS) (l : List NMsgD) : Prop where
  me : 1 ≤ s.me ∧ s.me ≤ 4
  round : -1 ≤ s.round ∧ s.round ≤ 11
  step : 1 ≤ s.step ∧ s.step ≤ 3
  lv : 0 ≤ s.lv ∧ s.lv ≤ 20
  vv : 0 ≤ s.vv ∧ s.vv ≤ 20
  dec : 0 ≤ s.dec ∧ s.dec ≤ 20
  lr : -1 ≤ s.lr ∧ s.lr ≤ s.round
  vr : -1 ≤ s.vr ∧ s.vr ≤ s.round
  polka : -1 ≤ s.polka ∧ s.polka ≤ s.round
  lock : s.lv = 0 ↔ s.lr = -1
  valid : s.vv = 0 ↔ s.vr = -1
  msgs : msgsOk l = true
  len : l.length ≤ 90
theorem beq_iff' (a b c d : Int) : ((a == b) == (c == d)) = true ↔ (a = b ↔ c = d) := by
  by_cases h1 : a = b <;> by_cases h2 : c = d <;> simp [h1, h2, beq_eq_false_iff_ne.2]
theorem nodeB_iff (s : NodeS) (l : List NMsgD) : nodeB s l = true ↔ NodeP s l := by
  constructor
  · intro h
    simp only [nodeB, Bool.and_eq_true, inB_iff, beq_iff', decide_eq_true_eq] at h
    obtain ⟨⟨⟨⟨⟨⟨⟨⟨⟨⟨⟨a, b⟩, c⟩, d⟩, e⟩, f⟩, g⟩, i⟩, j⟩, k⟩, m⟩, n, o⟩ := h
    exact ⟨a, b, c, d, e, f, g, i, j, k, m, n, by omega⟩
  · rintro ⟨a, b, c, d, e, f, g, i, j, k, m, n, o⟩
    simp only [nodeB, Bool.and_eq_true, inB_iff, beq_iff', decide_eq_true_eq]
    exact ⟨⟨⟨⟨⟨⟨⟨⟨⟨⟨⟨a, b⟩, c⟩, d⟩, e⟩, f⟩, g⟩, i⟩, j⟩, k⟩, m⟩, n, by omega⟩

theorem msgsOk_snoc (l : List NMsgD) (m : NMsgD) : msgsOk (l ++ [m]) = (msgsOk l && (okMsg m && !(hasB l m))) := by
  unfold msgsOk
  rw [List.length_append, List.length_singleton, allTo_succ (x := m) (by simp)]
  have h1 : allTo (freshMsg (l ++ [m])) (l ++ [m]) l.length = allTo (freshMsg l) l l.length := by
    unfold allTo
    rw [List.take_left, List.take_length]
    apply Bool.eq_iff_iff.2
    simp only [List.all_eq_true]
    have e : ∀ x ∈ l.zipIdx, freshMsg (l ++ [m]) x.2 x.1 = freshMsg l x.2 x.1 := by
      intro x hx
      obtain ⟨a, i⟩ := x
      have hi : i < l.length := by
        have := List.mem_zipIdx hx
        omega
      unfold freshMsg
      rw [List.take_append_of_le_length (by omega)]
    exact ⟨fun h x hx => by rw [← e x hx]; exact h x hx, fun h x hx => by rw [e x hx]; exact h x hx⟩
  rw [h1]
  unfold freshMsg
  rw [List.take_left]
theorem msgsOk_mem {l : List NMsgD} (h : msgsOk l = true) {m : NMsgD} (hm : m ∈ l) : okMsg m = true := by
  obtain ⟨k, hk⟩ := List.mem_iff_getElem?.1 hm
  cases hq : freshMsg l k m
  · rw [msgsOk_no hk hq] at h; cases h
  · simp only [freshMsg, Bool.and_eq_true] at hq; exact hq.1
theorem addM_ok {l : List NMsgD} {m : NMsgD} (h : msgsOk l = true) (hl : l.length ≤ 90) (hm : okMsg m = true) : msgsOk (addM l m) = true ∧ (addM l m).length ≤ 90 := by
  unfold addM
  split
  · rename_i hc
    simp only [Bool.and_eq_true, decide_eq_true_eq] at hc
    rw [msgsOk_snoc, h, hm, hc.1]
    exact ⟨rfl, by simp; omega⟩
  · exact ⟨h, hl⟩
theorem okMsg_iff (m : NMsgD) : okMsg m = true ↔ (1 ≤ m.k ∧ m.k ≤ 3) ∧ (0 ≤ m.r ∧ m.r ≤ 11) ∧ (1 ≤ m.f ∧ m.f ≤ 4) ∧ (m.k = 1 → m.f = propOf m.r ∧ (1 ≤ m.v ∧ m.v ≤ 20) ∧ (-1 ≤ m.p ∧ m.p ≤ m.r - 1)) ∧ (m.k ≠ 1 → (0 ≤ m.v ∧ m.v ≤ 20) ∧ m.p = -1) := by
  unfold okMsg msgB
  simp only [Bool.and_eq_true, inB_iff]
  by_cases h : m.k = 1
  · simp [h, inB_iff]; omega
  · simp [h, inB_iff]; omega
theorem send_ok {x : RunS} {k v p : Int} (h : NodeP x.s x.l) (hm : okMsg (msgOf x.s k v p) = true) : NodeP (sendR x k v p).s (sendR x k v p).l := by
  obtain ⟨a, b⟩ := addM_ok h.msgs h.len hm
  exact ⟨h.me, h.round, h.step, h.lv, h.vv, h.dec, h.lr, h.vr, h.polka, h.lock, h.valid, a, b⟩
theorem start_ok {x : RunS} {r : Int} (h : NodeP x.s x.l) (h1 : x.s.round < r) (h2 : r ≤ 11) : NodeP (startR x r).s (startR x r).l := by
  have h0 : NodeP (atRound x.s r) x.l := ⟨h.me, by have := h.round; exact ⟨by show -1 ≤ r; omega, h2⟩, by show (1 : Int) ≤ 1 ∧ (1 : Int) ≤ 3; omega, h.lv, h.vv, h.dec, by have := h.lr; exact ⟨this.1, by show x.s.lr ≤ r; omega⟩, by have := h.vr; exact ⟨this.1, by show x.s.vr ≤ r; omega⟩, by have := h.polka; exact ⟨this.1, by show x.s.polka ≤ r; omega⟩, h.lock, h.valid, h.msgs, h.len⟩
  unfold startR
  have g1 := h.me; have g2 := h.round; have g3 := h.vr; have g4 := h.vv; have g5 := h.valid
  split
  · rename_i hp
    rw [beq_iff_eq] at hp
    split
    · refine send_ok (x := ⟨atRound x.s r, x.l, x.o⟩) h0 ((okMsg_iff _).2 ?_)
      simp only [msgOf, atRound]
      refine ⟨by omega, by omega, by omega, fun _ => ⟨hp.symm, by omega, by omega⟩, fun h => absurd rfl h⟩
    · rename_i hv
      refine send_ok (x := ⟨atRound x.s r, x.l, x.o⟩) h0 ((okMsg_iff _).2 ?_)
      simp only [beq_iff_eq] at hv
      simp only [msgOf, atRound]
      refine ⟨by omega, by omega, by omega, fun _ => ⟨hp.symm, by omega, by omega⟩, fun h => absurd rfl h⟩
  · exact h0
theorem step_ok {x : RunS} {k : Int} (h : NodeP x.s x.l) (hk : 1 ≤ k ∧ k ≤ 3) : NodeP (setStep x k).s (setStep x k).l :=
  ⟨h.me, h.round, hk, h.lv, h.vv, h.dec, h.lr, h.vr, h.polka, h.lock, h.valid, h.msgs, h.len⟩
theorem vote_ok {s : NodeS} {l : List NMsgD} {k v : Int} (h : NodeP s l) (hr : 0 ≤ s.round) (hk : k = 2 ∨ k = 3) (hv : 0 ≤ v ∧ v ≤ 20) : okMsg (msgOf s k v (-1)) = true := by
  have g1 := h.me; have g2 := h.round
  refine (okMsg_iff _).2 ?_
  simp only [msgOf]
  refine ⟨by omega, by omega, by omega, fun h => by omega, fun _ => ⟨hv, by trivial⟩⟩
theorem prevote_ok {x : RunS} {v : Int} (h : NodeP x.s x.l) (hr : 0 ≤ x.s.round) (hv : 0 ≤ v ∧ v ≤ 20) : NodeP (prevoteR x v).s (prevoteR x v).l :=
  step_ok (send_ok h (vote_ok h hr (.inl rfl) hv)) (by decide)
theorem precommit_ok {x : RunS} {v : Int} (h : NodeP x.s x.l) (hr : 0 ≤ x.s.round) (hv : 0 ≤ v ∧ v ≤ 20) : NodeP (precommitR x v).s (precommitR x v).l :=
  step_ok (send_ok h (vote_ok h hr (.inr rfl) hv)) (by decide)
theorem lock_ok {x : RunS} {v : Int} (h : NodeP x.s x.l) (hr : 0 ≤ x.s.round) (hv : 1 ≤ v ∧ v ≤ 20) : NodeP (lockR x v).s (lockR x v).l :=
  ⟨h.me, h.round, h.step, by show 0 ≤ v ∧ v ≤ 20; omega, h.vv, h.dec, by show -1 ≤ x.s.round ∧ x.s.round ≤ x.s.round; omega, h.vr, h.polka, by show v = 0 ↔ x.s.round = -1; omega, h.valid, h.msgs, h.len⟩
theorem valid_ok {x : RunS} {v : Int} (h : NodeP x.s x.l) (hr : 0 ≤ x.s.round) (hv : 1 ≤ v ∧ v ≤ 20) : NodeP (validR x v).s (validR x v).l :=
  ⟨h.me, h.round, h.step, h.lv, by show 0 ≤ v ∧ v ≤ 20; omega, h.dec, h.lr, by show -1 ≤ x.s.round ∧ x.s.round ≤ x.s.round; omega, by show -1 ≤ x.s.round ∧ x.s.round ≤ x.s.round; omega, h.lock, by show v = 0 ↔ x.s.round = -1; omega, h.msgs, h.len⟩
theorem polka_ok {x : RunS} {v : Int} (h : NodeP x.s x.l) (hr : 0 ≤ x.s.round) (hv : 1 ≤ v ∧ v ≤ 20) : NodeP (polkaR x v).s (polkaR x v).l := by
  unfold polkaR
  split
  · exact valid_ok (precommit_ok (lock_ok h hr hv) hr (by omega)) hr hv
  · exact valid_ok h hr hv

theorem best_mem (all l : List NMsgD) (b : Option NMsgD) (m : NMsgD) (h : l.foldl (bestStep all) b = some m) : b = some m ∨ (m ∈ l ∧ goodB all m = true) := by
  induction l generalizing b with
  | nil => exact .inl h
  | cons y l ih =>
    rw [List.foldl_cons] at h
    rcases ih _ h with e | ⟨e, g⟩
    · unfold bestStep at e
      split at e
      · rename_i hg
        cases b with
        | none => simp only [Option.some.injEq] at e; subst e; exact .inr ⟨by simp, hg⟩
        | some q =>
          simp only at e
          split at e
          · simp only [Option.some.injEq] at e; subst e; exact .inr ⟨by simp, hg⟩
          · exact .inl e
      · exact .inl e
    · exact .inr ⟨by simp [e], g⟩
theorem bestOf_some {all l : List NMsgD} {m : NMsgD} (h : bestOf all l = some m) : m ∈ l ∧ goodB all m = true := by
  rcases best_mem all l none m h with e | e
  · cases e
  · exact e
theorem skipTo_some {l : List NMsgD} {r0 r : Int} (h : skipTo l r0 = some r) : r0 < r ∧ 0 ≤ r ∧ r ≤ 11 ∧ twoAt l r = true := by
  unfold skipTo at h
  have h1 := List.find?_some h
  have h2 := List.mem_of_find?_eq_some h
  simp only [Bool.and_eq_true, decide_eq_true_eq] at h1
  simp only [List.mem_cons, List.not_mem_nil, or_false] at h2
  refine ⟨h1.1, by omega, by omega, h1.2⟩
theorem propBy_some {x : RunS} {P : NMsgD → Bool} {m : NMsgD} (h : propBy x P = some m) : m ∈ x.l ∧ m.k = 1 ∧ m.r = x.s.round ∧ P m = true := by
  unfold propBy at h
  have h1 := List.find?_some h
  simp only [propP, Bool.and_eq_true, beq_iff_eq] at h1
  exact ⟨List.mem_of_find?_eq_some h, h1⟩
theorem prop_val {l : List NMsgD} {m : NMsgD} (h : msgsOk l = true) (hm : m ∈ l) (hk : m.k = 1) : (1 ≤ m.v ∧ m.v ≤ 20) ∧ (-1 ≤ m.p ∧ m.p ≤ m.r - 1) := ((okMsg_iff m).1 (msgsOk_mem h hm)).2.2.2.1 hk |>.2

/-- one rule: what stays right, what goes down, and how many messages it sends -/
structure RuleOk (x y : RunS) : Prop where
  ok : NodeP y.s y.l
  mu : muR y < muR x
  out : y.o.length ≤ x.o.length + 1
theorem mu_of {x y : RunS} (hx : ¬ 0 < x.s.dec) (hd : y.s.dec = x.s.dec) (hr : x.s.round ≤ 11) (hs : x.s.step ≤ 3)
    (h : (12 - y.s.round) * 10 + (3 - y.s.step) * 2 + (if y.s.polka = y.s.round then 0 else 1) < (12 - x.s.round) * 10 + (3 - x.s.step) * 2 + (if x.s.polka = x.s.round then 0 else 1)) : muR y < muR x := by
  unfold muR
  rw [hd, if_neg hx, if_neg hx]
  have h3 : (0 : Int) ≤ if x.s.polka = x.s.round then 0 else 1 := by split <;> decide
  omega
theorem polka01 (a b : Int) : (0 : Int) ≤ (if a = b then 0 else 1) ∧ (if a = b then (0 : Int) else 1) ≤ 1 := by split <;> decide
theorem startR_s (x : RunS) (r : Int) : (startR x r).s = atRound x.s r := by unfold startR; split <;> (try split) <;> rfl
theorem startR_o (x : RunS) (r : Int) : (startR x r).o.length ≤ x.o.length + 1 := by unfold startR; split <;> (try split) <;> simp [sendR]
theorem prevote_rule {x : RunS} {v : Int} (h : NodeP x.s x.l) (hx : ¬ 0 < x.s.dec) (hr : 0 ≤ x.s.round) (hst : x.s.step = 1) (hv : 0 ≤ v ∧ v ≤ 20) : RuleOk x (prevoteR x v) :=
  ⟨prevote_ok h hr hv, mu_of hx rfl h.round.2 h.step.2 (by show (12 - x.s.round) * 10 + (3 - 2) * 2 + (if x.s.polka = x.s.round then 0 else 1) < _; omega), by simp [prevoteR, setStep, sendR]⟩
theorem precommit_rule {x : RunS} {v : Int} (h : NodeP x.s x.l) (hx : ¬ 0 < x.s.dec) (hr : 0 ≤ x.s.round) (hst : x.s.step = 2) (hv : 0 ≤ v ∧ v ≤ 20) : RuleOk x (precommitR x v) :=
  ⟨precommit_ok h hr hv, mu_of hx rfl h.round.2 h.step.2 (by show (12 - x.s.round) * 10 + (3 - 3) * 2 + (if x.s.polka = x.s.round then 0 else 1) < _; omega), by simp [precommitR, setStep, sendR]⟩
theorem polka_rule {x : RunS} {v : Int} (h : NodeP x.s x.l) (hx : ¬ 0 < x.s.dec) (hr : 0 ≤ x.s.round) (hp : x.s.polka ≠ x.s.round) (hv : 1 ≤ v ∧ v ≤ 20) : RuleOk x (polkaR x v) := by
  refine ⟨polka_ok h hr hv, ?_, ?_⟩
  · refine mu_of hx (by unfold polkaR; split <;> rfl) h.round.2 h.step.2 ?_
    unfold polkaR
    rw [if_neg hp]
    have h2 := h.step
    split
    · rename_i hs
      rw [beq_iff_eq] at hs
      show (12 - x.s.round) * 10 + (3 - 3) * 2 + (if x.s.round = x.s.round then 0 else 1) < _
      rw [if_pos rfl]; omega
    · show (12 - x.s.round) * 10 + (3 - x.s.step) * 2 + (if x.s.round = x.s.round then 0 else 1) < _
      rw [if_pos rfl]; omega
  · unfold polkaR; split <;> simp [validR, precommitR, setStep, sendR, lockR]
theorem rule_ok {x y : RunS} (h : NodeP x.s x.l) (hy : ruleR x = some y) : RuleOk x y := by
  have hmsg := h.msgs; have hme := h.me; have hrd := h.round; have hst := h.step; have hdec := h.dec
  unfold ruleR at hy
  split at hy
  · cases hy
  rename_i hc
  simp only [Bool.or_eq_true, decide_eq_true_eq, beq_iff_eq, not_or] at hc
  have hx := hc.1
  have hr : 0 ≤ x.s.round := by omega
  cases hb : bestOf x.l x.l with
  | some m =>
    rw [hb] at hy
    simp only [Option.some.injEq] at hy
    subst hy
    obtain ⟨hm, hg⟩ := bestOf_some hb
    simp only [goodB, Bool.and_eq_true, beq_iff_eq] at hg
    have hv := (prop_val hmsg hm hg.1).1
    refine ⟨⟨h.me, h.round, h.step, h.lv, h.vv, by show 0 ≤ m.v ∧ m.v ≤ 20; omega, h.lr, h.vr, h.polka, h.lock, h.valid, h.msgs, h.len⟩, ?_, by simp⟩
    unfold muR
    rw [if_neg hx, if_pos (show 0 < (withDec x.s m.v).dec by show 0 < m.v; omega)]
    omega
  | none =>
    rw [hb] at hy
    simp only at hy
    cases hk : skipTo x.l x.s.round with
    | some r =>
      rw [hk] at hy
      simp only [Option.some.injEq] at hy
      subst hy
      obtain ⟨h1, h2, h3, _⟩ := skipTo_some hk
      refine ⟨start_ok h h1 h3, mu_of hx (by rw [startR_s]; rfl) h.round.2 h.step.2 ?_, startR_o x r⟩
      rw [startR_s]
      show (12 - r) * 10 + (3 - 1) * 2 + (if x.s.polka = r then 0 else 1) < _
      have := polka01 x.s.polka r; have := polka01 x.s.polka x.s.round
      omega
    | none =>
      rw [hk] at hy
      simp only at hy
      split at hy
      · rename_i hs1
        rw [beq_iff_eq] at hs1
        unfold rule34 at hy
        cases h3 : propBy x P3 with
        | some m =>
          rw [h3] at hy
          simp only [Option.some.injEq] at hy
          subst hy
          obtain ⟨hm, hk1, _, _⟩ := propBy_some h3
          have hv := (prop_val hmsg hm hk1).1
          exact prevote_rule h hx hr hs1 (by split <;> omega)
        | none =>
          rw [h3] at hy
          simp only at hy
          cases h4 : propBy x (P4 x.l) with
          | some m =>
            rw [h4] at hy
            simp only [Option.some.injEq] at hy
            subst hy
            obtain ⟨hm, hk1, _, _⟩ := propBy_some h4
            have hv := (prop_val hmsg hm hk1).1
            exact prevote_rule h hx hr hs1 (by split <;> omega)
          | none => rw [h4] at hy; cases hy
      · have h6 : rule6 x = some y → RuleOk x y := by
          intro h6
          unfold rule6 at h6
          split at h6
          · rename_i hs2
            simp only [Bool.and_eq_true, beq_iff_eq] at hs2
            simp only [Option.some.injEq] at h6
            subst h6
            exact precommit_rule h hx hr hs2.1 (by decide)
          · cases h6
        unfold rule56 at hy
        split at hy
        · exact h6 hy
        · rename_i hp
          rw [beq_iff_eq] at hp
          cases h5 : propBy x (P5 x.l x.s.round) with
          | some m =>
            rw [h5] at hy
            simp only [Option.some.injEq] at hy
            subst hy
            obtain ⟨hm, hk1, _, _⟩ := propBy_some h5
            exact polka_rule h hx hr hp (prop_val hmsg hm hk1).1
          | none => rw [h5] at hy; exact h6 hy
theorem restF_eq {x : RunS} (h : NodeP x.s x.l) : ∀ n, muR x ≤ n → restF n x = restR x := by
  have main : ∀ (k : Nat) (x : RunS), muR x ≤ k → NodeP x.s x.l → ∀ n, muR x ≤ n → restF n x = restR x := by
    intro k
    induction k with
    | zero =>
      intro x hk h n hn
      have h0 : muR x = 0 := by omega
      have hnone : ruleR x = none := by
        cases hr : ruleR x with
        | none => rfl
        | some y => have := (rule_ok h hr).mu; omega
      unfold restR; rw [h0]
      cases n with
      | zero => rfl
      | succ n => simp [restF, hnone]
    | succ k ih =>
      intro x hk h n hn
      unfold restR
      cases hr : ruleR x with
      | none =>
        have e : ∀ n, restF n x = x := fun n => by cases n <;> simp [restF, hr]
        rw [e, e]
      | some y =>
        have h1 := rule_ok h hr
        have h2 := h1.mu
        have e : ∀ n, muR x ≤ n → restF n x = restR y := fun n hn => by
          cases n with
          | zero => omega
          | succ n => simp only [restF, hr]; exact ih y (by omega) h1.ok n (by omega)
        rw [e n hn, e _ (Nat.le_refl _)]
  exact main _ x (Nat.le_refl _) h
theorem restR_some {x y : RunS} (h : NodeP x.s x.l) (hr : ruleR x = some y) : restR x = restR y := by
  have h1 := rule_ok h hr
  have h2 := h1.mu
  unfold restR
  cases hm : muR x with
  | zero => omega
  | succ n => simp only [restF, hr]; exact restF_eq h1.ok n (by omega)
theorem restR_none {x : RunS} (hr : ruleR x = none) : restR x = x := by
  unfold restR; cases muR x <;> simp [restF, hr]
theorem mu_le {x : RunS} (h : NodeP x.s x.l) : muR x ≤ 140 := by
  unfold muR
  have h1 := h.round; have h2 := h.step; have := polka01 x.s.polka x.s.round
  split <;> omega
theorem rest_ok {x : RunS} (h : NodeP x.s x.l) : NodeP (restR x).s (restR x).l ∧ (restR x).o.length ≤ x.o.length + 140 := by
  have main : ∀ (k : Nat) (x : RunS), muR x ≤ k → NodeP x.s x.l → NodeP (restR x).s (restR x).l ∧ (restR x).o.length ≤ x.o.length + k := by
    intro k
    induction k with
    | zero =>
      intro x hk h
      have hnone : ruleR x = none := by
        cases hr : ruleR x with
        | none => rfl
        | some y => have := (rule_ok h hr).mu; omega
      rw [restR_none hnone]; exact ⟨h, by omega⟩
    | succ k ih =>
      intro x hk h
      cases hr : ruleR x with
      | none => rw [restR_none hr]; exact ⟨h, by omega⟩
      | some y =>
        have h1 := rule_ok h hr
        have h2 := h1.mu; have h3 := h1.out
        rw [restR_some h hr]
        obtain ⟨a, b⟩ := ih y (by omega) h1.ok
        exact ⟨a, by omega⟩
  obtain ⟨a, b⟩ := main _ x (mu_le h) h
  exact ⟨a, by omega⟩
end Go.Proofs.Ytjgaelnonacdkaa
