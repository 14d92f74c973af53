/- Marks in slices of SVote, and their sizes (written by wip/mk.py). -/
import Derived.Test.YteaggbbimhpolaaDoorFamSVote
import Derived.Test.YteaggbbimhpolaaDoorChg
import Derived.WalkKit
import Derived.WalkSpells
import Derived.WalkLawsBesides
import Derived.Lib.Hide
namespace Go.Proofs.YteaggbbimhpolaaDoor
open Go.RowKit

def markSVote (k : Nat) : SVoteD := ⟨(k : Int), (k : Int) + 1, (k : Int) + 1 + 1, markT (k + 3), (k : Int) + 1 + 1 + 1 + 1, markT (k + 5)⟩
def marksSVote (k n : Nat) : List SVoteD := (List.range n).map fun i => markSVote (k + i * 6)
theorem marksSVote_len (k n : Nat) : (marksSVote k n).length = n := by simp [marksSVote]
theorem marksSVote_at (k n i : Nat) (h : i < n) : (marksSVote k n)[i]? = some (markSVote (k + i * 6)) := by simp [marksSVote, h]

set_option maxHeartbeats 2000000 in
theorem markSVoteS_any (T : TypeId) (A : Option Addr) (n c : Nat) (l : List SVoteD) (lo hi k : Nat) (w : World) (hl : OwnL svtC 6 T w lo hi A n c l) (hk0 : 0 < k) (hn : n ≤ 2097152) (hk : k ≤ 100000000) :
    Calls Tryd.prog 23 #[.slice A n c, .int .i64 k] w (MarkOut svtC 6 T lo hi A n c (marksSVote k n) ((k + n * 6 : Nat) : Int) w) := by
  obtain ⟨hll, h0 | ⟨g, cur, rfl, hg1, hg2, hblk, hnc, hcm, hsz, _⟩⟩ := hl
  · obtain ⟨rfl, rfl, rfl⟩ := h0
    go_enter Tryd.func23, Tryd.ntmps23
    go_wp2_with fail
    go_loop [1, 5] (fun kk i => kk = .int .i64 (k : Int) ∧ i = .int .i64 0) (fun _ _ => 0)
    case atStart => exact ⟨rfl, rfl⟩
    case round =>
    obtain ⟨rfl, rfl⟩ := hrel
    go_wp2
    go_ret
    exact ⟨by simp, ⟨by simp [marksSVote], .inl ⟨rfl, rfl, rfl⟩⟩, Chg.refl _ _ _⟩
  · have hn' : n ≤ 9223372036854775807 := by omega
    have H0 : Hid (Laid svtC 6 (marksSVote k n) 0 c w g T) := ⟨cur, hblk, hsz, fun j hj => absurd hj (by omega)⟩
    have hgw := hblk.lt
    clear hblk hsz
    go_enter Tryd.func23, Tryd.ntmps23
    go_wp2_with fail
    go_loopw [1, 5] (fun kk i wr => ∃ j : Nat, j ≤ n ∧ i = .int .i64 j ∧ kk = .int .i64 ((k + j * 6 : Nat) : Int) ∧ Chg lo hi w wr ∧ Laid svtC 6 (marksSVote k n) j c wr g T) (fun _ i _ => n - (intOf i).toNat)
    case atStart => exact ⟨0, by omega, rfl, by simp, Chg.refl _ _ _, H0.out⟩
    case round =>
      obtain ⟨j, hj, rfl, rfl, hb, cur, h1, h2, h3⟩ := hrel
      have H1 := Lib.hid h1; have H2 := Lib.hid h2; have H3 := Lib.hid h3
      have hgr := h1.lt
      have qf := H1.out.frozen
      clear h1 h2 h3 H0
      generalize hq : k + j * 6 = q
      have HQ := Lib.hid hq
      have hq1 : q ≤ 1000000000 := by omega
      have hq0 : 0 < q := by omega
      clear hq
      by_cases hjn : j < n
      · have hsz : j * 6 + 6 ≤ cur.size := by rw [H2.out]; have := Nat.mul_le_mul_right 6 (show j + 1 ≤ c by omega); omega
        have q0 := H1.out.has (j * 6) (by omega)
        have q1 := H1.out.has (j * 6 + 1) (by omega)
        have q2 := H1.out.has (j * 6 + 2) (by omega)
        have q3 := H1.out.has (j * 6 + 3) (by omega)
        have q4 := H1.out.has (j * 6 + 4) (by omega)
        have q5 := H1.out.has (j * 6 + 5) (by omega)
        go_wp2_with fail
        refine (markText_at _ (q + 3) _ (by omega) (by omega) (by push_cast; omega)).mono ?_
        rintro e v3 ⟨rfl, hb3⟩
        have HV3 := Lib.hid hb3
        obtain ⟨hc3, hf3, hz3⟩ := bcell hb3
        clear hb3
        have gg3 : g < v3.heap.size := by (try simp only [World.size_setCell] at hz3); omega
        go_wp2_with fail
        refine (markText_at _ (q + 5) _ (by omega) (by omega) (by push_cast; omega)).mono ?_
        rintro e v5 ⟨rfl, hb5⟩
        have HV5 := Lib.hid hb5
        obtain ⟨hc5, hf5, hz5⟩ := bcell hb5
        clear hb5
        have gg5 : g < v5.heap.size := by (try simp only [World.size_setCell] at hz5); omega
        go_wp2
        go_roundw
        case rel => exact ⟨j + 1, by omega, by go_num, by rw [show k + (j + 1) * 6 = q + 6 from by have := HQ.out; omega]; go_num, ((((((((hb.setCell hg1 hg2 _).setCell hg1 hg2 _).setCell hg1 hg2 _).below_trans HV3.out).setCell hg1 hg2 _).setCell hg1 hg2 _).below_trans HV5.out).setCell hg1 hg2 _),
          Laid.next svtC_len (marksSVote_at k n j hjn) ((((((((H1.out.set_ _ _).set_ _ _).set_ _ _).below HV3.out (by simp; omega)).set_ _ _).set_ _ _).below HV5.out (by simp; omega)).set_ _ _) (by simpa using H2.out) (fun i hi => by simp [Array.getElem?_setIfInBounds]; rw [if_neg (by omega), if_neg (by omega), if_neg (by omega), if_neg (by omega), if_neg (by omega), if_neg (by omega)]; exact H3.out i hi)
            (fun i hi => by rw [HQ.out]; rcases (by omega : i = 0 ∨ i = 1 ∨ i = 2 ∨ i = 3 ∨ i = 4 ∨ i = 5) with rfl | rfl | rfl | rfl | rfl | rfl <;> simp [Array.getElem?_setIfInBounds, svtC, markSVote] <;> omega)⟩
        case measure => simp [intOf]; omega
      · obtain rfl : j = n := by omega
        go_wp2
        go_ret
        exact ⟨by rw [HQ.out]; rfl, ⟨marksSVote_len _ _, .inr ⟨g, cur, rfl, hg1, hg2, H1.out, hnc, hcm, H2.out, H3.out⟩⟩, hb⟩


end Go.Proofs.YteaggbbimhpolaaDoor
