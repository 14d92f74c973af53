/- Marks in slices of CSig, and their sizes (written by wip/mk.py). -/
import Derived.Test.YtelnnegfkdfpiaaGreatDoorFamCSig
import Derived.Test.YtelnnegfkdfpiaaGreatDoorChg
import Derived.WalkKit
import Derived.WalkSpells
import Derived.WalkLawsBesides
import Derived.Lib.Hide
namespace Go.Proofs.YtelnnegfkdfpiaaGreatDoor
open Go.RowKit

def markCSig (k : Nat) : CSigD := ⟨(k : Int), markT (k + 1)⟩
def marksCSig (k n : Nat) : List CSigD := (List.range n).map fun i => markCSig (k + i * 2)
theorem marksCSig_len (k n : Nat) : (marksCSig k n).length = n := by simp [marksCSig]
theorem marksCSig_at (k n i : Nat) (h : i < n) : (marksCSig k n)[i]? = some (markCSig (k + i * 2)) := by simp [marksCSig, h]

set_option maxHeartbeats 2000000 in
theorem markCSigS_any (T : TypeId) (A : Option Addr) (n c : Nat) (l : List CSigD) (lo hi k : Nat) (w : World) (hl : OwnL csigC 2 T w lo hi A n c l) (hk0 : 0 < k) (hn : n ≤ 2097152) (hk : k ≤ 100000000) :
    Calls Tryz.prog 60 #[.slice A n c, .int .i64 k] w (MarkOut csigC 2 T lo hi A n c (marksCSig k n) ((k + n * 2 : Nat) : Int) w) := by
  obtain ⟨hll, h0 | ⟨g, cur, rfl, hg1, hg2, hblk, hnc, hcm, hsz, _⟩⟩ := hl
  · obtain ⟨rfl, rfl, rfl⟩ := h0
    go_enter Tryz.func60, Tryz.ntmps60
    go_wp2_with fail
    go_loop [1, 5] (fun kk i => kk = .int .i64 (k : Int) ∧ i = .int .i64 0) (fun _ _ => 0)
    case atStart => exact ⟨rfl, rfl⟩
    case round =>
    obtain ⟨rfl, rfl⟩ := hrel
    go_wp2
    go_ret
    exact ⟨by simp, ⟨by simp [marksCSig], .inl ⟨rfl, rfl, rfl⟩⟩, Chg.refl _ _ _⟩
  · have hn' : n ≤ 9223372036854775807 := by omega
    have H0 : Hid (Laid csigC 2 (marksCSig k n) 0 c w g T) := ⟨cur, hblk, hsz, fun j hj => absurd hj (by omega)⟩
    have hgw := hblk.lt
    clear hblk hsz
    go_enter Tryz.func60, Tryz.ntmps60
    go_wp2_with fail
    go_loopw [1, 5] (fun kk i wr => ∃ j : Nat, j ≤ n ∧ i = .int .i64 j ∧ kk = .int .i64 ((k + j * 2 : Nat) : Int) ∧ Chg lo hi w wr ∧ Laid csigC 2 (marksCSig k n) j c wr g T) (fun _ i _ => n - (intOf i).toNat)
    case atStart => exact ⟨0, by omega, rfl, by simp, Chg.refl _ _ _, H0.out⟩
    case round =>
      obtain ⟨j, hj, rfl, rfl, hb, cur, h1, h2, h3⟩ := hrel
      have H1 := Lib.hid h1; have H2 := Lib.hid h2; have H3 := Lib.hid h3
      have hgr := h1.lt
      have qf := H1.out.frozen
      clear h1 h2 h3 H0
      generalize hq : k + j * 2 = q
      have HQ := Lib.hid hq
      have hq1 : q ≤ 1000000000 := by omega
      have hq0 : 0 < q := by omega
      clear hq
      by_cases hjn : j < n
      · have hsz : j * 2 + 2 ≤ cur.size := by rw [H2.out]; have := Nat.mul_le_mul_right 2 (show j + 1 ≤ c by omega); omega
        have q0 := H1.out.has (j * 2) (by omega)
        have q1 := H1.out.has (j * 2 + 1) (by omega)
        go_wp2_with fail
        refine (markText_at _ (q + 1) _ (by omega) (by omega) (by push_cast; omega)).mono ?_
        rintro e v1 ⟨rfl, hb1⟩
        have HV1 := Lib.hid hb1
        obtain ⟨hc1, hf1, hz1⟩ := bcell hb1
        clear hb1
        go_wp2
        go_roundw
        case rel => exact ⟨j + 1, by omega, by go_num, by rw [show k + (j + 1) * 2 = q + 2 from by have := HQ.out; omega]; go_num, (((hb.setCell hg1 hg2 _).below_trans HV1.out).setCell hg1 hg2 _),
          Laid.next csigC_len (marksCSig_at k n j hjn) (((H1.out.set_ _ _).below HV1.out (by simp; omega)).set_ _ _) (by simpa using H2.out) (fun i hi => by simp [Array.getElem?_setIfInBounds]; rw [if_neg (by omega), if_neg (by omega)]; exact H3.out i hi)
            (fun i hi => by rw [HQ.out]; rcases (by omega : i = 0 ∨ i = 1) with rfl | rfl <;> simp [Array.getElem?_setIfInBounds, csigC, markCSig] <;> omega)⟩
        case measure => simp [intOf]; omega
      · obtain rfl : j = n := by omega
        go_wp2
        go_ret
        exact ⟨by rw [HQ.out]; rfl, ⟨marksCSig_len _ _, .inr ⟨g, cur, rfl, hg1, hg2, H1.out, hnc, hcm, H2.out, H3.out⟩⟩, hb⟩


set_option maxHeartbeats 400000 in
theorem szCSig_out (v : Int) (sig : ByteArray) (left : Int) (w : World) (hs : sig.size ≤ maxLen) (h0 : 0 ≤ left) (h1 : left ≤ 1048576) :
    Calls Tryz.prog 84 #[.agg #[.int .i64 v, .string sig], .int .i64 left] w (SzOut 0 left w) := by
  unfold maxLen at hs
  have HB : Hid (Below w.heap.size w (w.alloc (.cells #[.int .i64 v, .string sig] 117))) := (Below.refl _ _).alloc (Nat.le_refl _) _
  by_cases c1 : left < sig.size
  · go_enter Tryz.func84, Tryz.ntmps84
    go_wp2
    go_ret
    exact ⟨-1, rfl, by omega, by omega, by omega, HB.out⟩
  go_enter Tryz.func84, Tryz.ntmps84
  go_wp2
  go_ret
  exact ⟨left - sig.size, rfl, by omega, by omega, by omega, HB.out⟩

set_option maxHeartbeats 800000 in
theorem szCSigS_any (A : Option Addr) (n c : Nat) (left : Int) (l : List CSigD) (w : World) (hl : RdL csigC 2 w w.heap.size A n c l) (hs : ∀ x ∈ l, x.sig.size ≤ maxLen) (h0 : 0 ≤ left) (h1 : left ≤ 1048576) :
    Calls Tryz.prog 54 #[.slice A n c, .int .i64 left] w (SzOut n left w) := by
  have hn := hl.le
  have HL := Lib.hid hl
  have HS := Lib.hid hs
  clear hl hs
  by_cases hlt : left < n
  · go_enter Tryz.func54, Tryz.ntmps54
    go_wp2
    go_ret
    exact ⟨-1, rfl, by omega, by omega, by omega, Below.refl _ _⟩
  go_enter Tryz.func54, Tryz.ntmps54
  go_wp2_with fail
  go_loopw [1, 5] (fun kk i wr => ∃ (j : Nat) (r : Int), j ≤ n ∧ i = .int .i64 j ∧ kk = .int .i64 r ∧ 0 ≤ r ∧ r ≤ left ∧ Below w.heap.size w wr) (fun _ i _ => n - (intOf i).toNat)
  case atStart => exact ⟨0, _, by omega, rfl, rfl, by omega, by omega, Below.refl _ _⟩
  case round =>
    obtain ⟨j, r, hj, rfl, rfl, hr0, hr1, hb⟩ := hrel
    have hz := hb.size
    by_cases hjn : j < n
    · obtain ⟨b, off, p, rfl, hb1, hp, c0, c1⟩ := csig_cells (HL.out.below hb (Nat.le_refl _)) hjn
      have hps := HS.out p (List.mem_of_getElem? hp)
      have HP := Lib.hid hps
      clear hp hps
      go_wp2_with fail
      refine (szCSig_out p.v p.sig r _ HP.out hr0 (by omega)).mono ?_
      rintro e w1 ⟨r1, rfl, _, hr2, hr3, hb2⟩
      by_cases hneg : r1 < 0
      · go_wp2
        go_ret
        exact ⟨-1, rfl, by omega, by omega, by omega, hb.trans (hb2.mono hz)⟩
      · go_wp2
        go_roundw
        case rel => exact ⟨j + 1, r1, by omega, by go_num, rfl, by omega, by omega, hb.trans (hb2.mono hz)⟩
        case measure => simp [intOf]; omega
    · obtain rfl : j = n := by omega
      go_wp2
      go_ret
      exact ⟨r, rfl, by omega, by omega, by omega, hb⟩
end Go.Proofs.YtelnnegfkdfpiaaGreatDoor
