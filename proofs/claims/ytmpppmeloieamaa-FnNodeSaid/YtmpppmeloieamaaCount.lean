/- count of the program: how many are From for a message of a kind, round and value. -/
import Derived.Test.YtmpppmeloieamaaNodeFam
import Derived.Test.YtmpppmeloieamaaIntHas
import Derived.WalkKit
import Derived.WalkSpells
import Derived.WalkLawsBesides
import Derived.Lib.Hide
namespace Go.Proofs.Ytmpppmeloieamaa
open Go.RowKit

def cntStep (k r v : Int) (fs : List Int) (m : NMsgD) : List Int := if (m.k == k && m.r == r && m.v == v && !(hasI fs m.f)) = true then fs ++ [m.f] else fs
def froms (l : List NMsgD) (k r v : Int) : List Int := l.foldl (cntStep k r v) []
def countN (l : List NMsgD) (k r v : Int) : Int := (froms l k r v).length
theorem froms_snoc (l : List NMsgD) (k r v : Int) (m : NMsgD) : froms (l ++ [m]) k r v = cntStep k r v (froms l k r v) m := by
  unfold froms; rw [List.foldl_append]; rfl
theorem froms_len (l : List NMsgD) (k r v : Int) : (froms l k r v).length ≤ l.length := by
  have : ∀ (l : List NMsgD) (fs : List Int), (l.foldl (cntStep k r v) fs).length ≤ fs.length + l.length := by
    intro l
    induction l with
    | nil => intro fs; simp
    | cons m l ih => intro fs; simp only [List.foldl_cons, List.length_cons]
                     have h1 := ih (cntStep k r v fs m)
                     have h2 : (cntStep k r v fs m).length ≤ fs.length + 1 := by unfold cntStep; split <;> simp
                     omega
  unfold froms; simpa using this l []
theorem take_next {α : Type} {l : List α} {k : Nat} {x : α} (h : l[k]? = some x) : l.take (k + 1) = l.take k ++ [x] := by
  rw [List.take_add_one, h]; rfl
theorem step_no {k r v : Int} {fs : List Int} {m : NMsgD} (h : (m.k == k && m.r == r && m.v == v && !(hasI fs m.f)) = false) : cntStep k r v fs m = fs := by unfold cntStep; rw [h]; rfl
theorem step_yes {k r v : Int} {fs : List Int} {m : NMsgD} (h : (m.k == k && m.r == r && m.v == v && !(hasI fs m.f)) = true) : cntStep k r v fs m = fs ++ [m.f] := by unfold cntStep; rw [h]; rfl

set_option maxRecDepth 100000 in
set_option maxHeartbeats 1000000 in
theorem count_any (b0 : Nat) (A : Option Addr) (n c : Nat) (l : List NMsgD) (k r v : Int) (w : World) (hl : RdL msgC 5 w w.heap.size A n c l) (hn : n ≤ 1048576)
    (hx : w.cell? ⟨b0, 9, none⟩ = some (.slice A n c)) (hlt : b0 < w.heap.size) :
    Calls Try.prog 56 #[.pointer (some ⟨b0, 0, none⟩), .int .i64 k, .int .i64 r, .int .i64 v] w fun e w' => e = .returned (.int .i64 (countN l k r v)) ∧ Below w.heap.size w w' := by
  have HL := Lib.hid hl
  have H0 := Lib.hid hl.1
  clear hl
  obtain ⟨i0, hi, hz0, hz1, hz2⟩ := info_parts infoInt
  go_enter Try.func56, Try.ntmps56
  go_wp2_with fail
  go_loopw [9, 18] (fun o i wr => ∃ j : Nat, j ≤ n ∧ i = .int .i64 j ∧ wr.ownsRow w.heap.size 3 1 o (froms (l.take j) k r v).length ((froms (l.take j) k r v).flatMap intC) ∧ Below w.heap.size w wr) (fun _ i _ => n - (intOf i).toNat)
  case atStart => exact ⟨0, by omega, rfl, World.ownsRow_lit w #[] 0 (Nat.le_refl _) (by decide) rfl, (by repeat (first | exact Below.refl _ _ | assumption | refine Below.drew ?_ | refine belN ?_ _ | refine Below.alloc ?_ (by first | exact Nat.le_refl _ | (simp; done) | (simp; omega) | omega) _ | refine Below.setCell ?_ (by first | exact Nat.le_refl _ | (simp; done) | (simp; omega) | omega) _ | refine Below.trans ?_ (Below.mono (by assumption) (by first | exact Nat.le_refl _ | (simp; done) | (simp; omega) | omega))))⟩
  case round =>
    obtain ⟨j, hj, rfl, hown, hb⟩ := hrel
    have HO := Lib.hid hown; clear hown
    have hz := hb.size
    have HX : Hid (wr.cell? ⟨b0, 9, none⟩ = some (.slice A n c)) := (hb.cell (p := ⟨b0, 9, none⟩) hlt).trans hx
    have HF := Lib.hid (froms_len (l.take j) k r v)
    by_cases hkn : j < n
    · obtain ⟨b, off, p, rfl, hb1, hp, c0, c1, c2, c3, c4⟩ := msg_cells (HL.out.below hb (Nat.le_refl _)) hkn
      have HT := Lib.hid (take_next hp)
      have HS := Lib.hid (froms_snoc (l.take j) k r v p)
      have hle : (froms (l.take j) k r v).length ≤ 1048576 := by have := HF.out; rw [List.length_take] at this; omega
      clear hp hx
      generalize hfs : froms (l.take j) k r v = fs at *
      clear hfs
      obtain ⟨A1, cc1, rfl, hr⟩ := Rd.of_own HO.out
      have HR : Hid (RdL intC 1 wr wr.heap.size A1 fs.length cc1 fs) := ⟨rfl, hr⟩
      clear hr
      cases g1 : (p.k == k)
      · have HG := Lib.hid (step_no (k := k) (r := r) (v := v) (fs := fs) (m := p) (by simp [*]))
        go_wp2
        go_roundw
        case rel => exact ⟨j + 1, by omega, by go_num, by rw [HT.out, HS.out, HG.out]; exact HO.out.alloc _, hb.alloc hz _⟩
        case measure => simp [intOf]; omega
      cases g2 : (p.r == r)
      · have HG := Lib.hid (step_no (k := k) (r := r) (v := v) (fs := fs) (m := p) (by simp [*]))
        go_wp2
        go_roundw
        case rel => exact ⟨j + 1, by omega, by go_num, by rw [HT.out, HS.out, HG.out]; exact HO.out.alloc _, hb.alloc hz _⟩
        case measure => simp [intOf]; omega
      cases g3 : (p.v == v)
      · have HG := Lib.hid (step_no (k := k) (r := r) (v := v) (fs := fs) (m := p) (by simp [*]))
        go_wp2
        go_roundw
        case rel => exact ⟨j + 1, by omega, by go_num, by rw [HT.out, HS.out, HG.out]; exact HO.out.alloc _, hb.alloc hz _⟩
        case measure => simp [intOf]; omega
      cases g4 : hasI fs p.f
      · have HG := Lib.hid (step_yes (k := k) (r := r) (v := v) (fs := fs) (m := p) (by simp [*]))
        go_wp2_with (first | (go_at_call 68; (refine (ContainsInt_any _ _ _ fs p.f _ (by exact (HR.out.alloc (Nat.le_refl _) _).more (by simp))).mono ?_); rintro e w1 ⟨rfl, hb2⟩; obtain ⟨hc, hf, hzz⟩ := bcell hb2; have hy : wr.heap.size < w1.heap.size := (by simp at hzz; omega); have HOW := Lib.hid (own_keep (HO.out.alloc _) hb2 (Nat.le_refl _))) | (at_builtin; refine wpList_append_own _ rfl _ _ 84 rfl w.heap.size 3 i0 (.int .i64 0) 1 8 Try.underlying84 hi hz0 hz1 hz2 rfl (by decide) _ _ _ rfl (HOW.out.alloc _) ⟨_, 0, none⟩ 1 1 [.int .i64 p.f] rfl rfl (one_new _ _ _) (one_cell _ rfl) (by unfold maxLen; omega) (by omega) (by simp; omega) ?_))
        intro v' w2 hown' hgrow _
        have hb3 : Below w.heap.size w w2 := (((hb.alloc hz _).trans (hb2.mono (by simp; omega))).alloc (by omega) _).grown hgrow (by simp; omega) (fun g hg => (HOW.out.lt g hg).1)
        have HB3 := Lib.hid hb3; have HO3 := Lib.hid hown'
        clear hown' hgrow hb3
        go_wp2
        go_roundw
        case rel => exact ⟨j + 1, by omega, by go_num, by rw [HT.out, HS.out, HG.out]; simpa [intC] using HO3.out, HB3.out⟩
        case measure => simp [intOf]; omega
      · have HG := Lib.hid (step_no (k := k) (r := r) (v := v) (fs := fs) (m := p) (by simp [*]))
        go_wp2_with (first | (go_at_call 68; (refine (ContainsInt_any _ _ _ fs p.f _ (by exact (HR.out.alloc (Nat.le_refl _) _).more (by simp))).mono ?_); rintro e w1 ⟨rfl, hb2⟩; obtain ⟨hc, hf, hzz⟩ := bcell hb2; have hy : wr.heap.size < w1.heap.size := (by simp at hzz; omega); have HOW := Lib.hid (own_keep (HO.out.alloc _) hb2 (Nat.le_refl _))))
        go_roundw
        case rel => exact ⟨j + 1, by omega, by go_num, by rw [HT.out, HS.out, HG.out]; exact own_keep (HO.out.alloc _) hb2 (Nat.le_refl _), (hb.alloc hz _).trans (hb2.mono (by simp; omega))⟩
        case measure => simp [intOf]; omega
    · obtain rfl : j = n := by omega
      have HC : Hid (countN l k r v = (froms (l.take j) k r v).length) := by show _ = _; unfold countN; rw [List.take_of_length_le (by rw [H0.out]; exact Nat.le_refl _)]
      obtain ⟨A1, cc1, rfl, hr⟩ := Rd.of_own HO.out
      have hle : (froms (l.take j) k r v).length ≤ 1048576 := by have := HF.out; rw [List.length_take] at this; omega
      clear hr
      go_wp2
      go_ret
      exact ⟨by rw [HC.out]; rfl, hb⟩
end Go.Proofs.Ytmpppmeloieamaa
