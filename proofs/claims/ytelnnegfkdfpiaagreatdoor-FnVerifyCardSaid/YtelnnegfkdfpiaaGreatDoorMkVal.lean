/- Marks in slices of Val, and their sizes (written by wip/mk.py). -/
import Derived.Test.YtelnnegfkdfpiaaGreatDoorFamVal
import Derived.Test.YtelnnegfkdfpiaaGreatDoorChg
import Derived.WalkKit
import Derived.WalkSpells
import Derived.WalkLawsBesides
import Derived.Lib.Hide
namespace Go.Proofs.YtelnnegfkdfpiaaGreatDoor
open Go.RowKit

def markVal (k : Nat) : ValD := ⟨(k : Int), (k : Int) + 1⟩
def marksVal (k n : Nat) : List ValD := (List.range n).map fun i => markVal (k + i * 2)
theorem marksVal_len (k n : Nat) : (marksVal k n).length = n := by simp [marksVal]
theorem marksVal_at (k n i : Nat) (h : i < n) : (marksVal k n)[i]? = some (markVal (k + i * 2)) := by simp [marksVal, h]

set_option maxHeartbeats 2000000 in
theorem markValS_any (T : TypeId) (A : Option Addr) (n c : Nat) (l : List ValD) (lo hi k : Nat) (w : World) (hl : OwnL valC 2 T w lo hi A n c l) (hk0 : 0 < k) (hn : n ≤ 2097152) (hk : k ≤ 100000000) :
    Calls Tryz.prog 27 #[.slice A n c, .int .i64 k] w (MarkOut valC 2 T lo hi A n c (marksVal k n) ((k + n * 2 : Nat) : Int) w) := by
  obtain ⟨hll, h0 | ⟨g, cur, rfl, hg1, hg2, hblk, hnc, hcm, hsz, _⟩⟩ := hl
  · obtain ⟨rfl, rfl, rfl⟩ := h0
    go_enter Tryz.func27, Tryz.ntmps27
    go_wp2_with fail
    go_loop [1, 5] (fun kk i => kk = .int .i64 (k : Int) ∧ i = .int .i64 0) (fun _ _ => 0)
    case atStart => exact ⟨rfl, rfl⟩
    case round =>
    obtain ⟨rfl, rfl⟩ := hrel
    go_wp2
    go_ret
    exact ⟨by simp, ⟨by simp [marksVal], .inl ⟨rfl, rfl, rfl⟩⟩, Chg.refl _ _ _⟩
  · have hn' : n ≤ 9223372036854775807 := by omega
    have H0 : Hid (Laid valC 2 (marksVal k n) 0 c w g T) := ⟨cur, hblk, hsz, fun j hj => absurd hj (by omega)⟩
    have hgw := hblk.lt
    clear hblk hsz
    go_enter Tryz.func27, Tryz.ntmps27
    go_wp2_with fail
    go_loopw [1, 5] (fun kk i wr => ∃ j : Nat, j ≤ n ∧ i = .int .i64 j ∧ kk = .int .i64 ((k + j * 2 : Nat) : Int) ∧ Chg lo hi w wr ∧ Laid valC 2 (marksVal k n) j c wr g T) (fun _ i _ => n - (intOf i).toNat)
    case atStart => exact ⟨0, by omega, rfl, by simp, Chg.refl _ _ _, H0.out⟩
    case round =>
      obtain ⟨j, hj, rfl, rfl, hb, cur, h1, h2, h3⟩ := hrel
      have H1 := Lib.hid h1; have H2 := Lib.hid h2; have H3 := Lib.hid h3
      have hgr := h1.lt
      have qf := H1.out.frozen
      clear h1 h2 h3 H0
      generalize hq : k + j * 2 = q
      have HQ := Lib.hid hq
      have hq1 : q ≤ 1000000000 := by omega
      have hq0 : 0 < q := by omega
      clear hq
      by_cases hjn : j < n
      · have hsz : j * 2 + 2 ≤ cur.size := by rw [H2.out]; have := Nat.mul_le_mul_right 2 (show j + 1 ≤ c by omega); omega
        have q0 := H1.out.has (j * 2) (by omega)
        have q1 := H1.out.has (j * 2 + 1) (by omega)
        go_wp2
        go_roundw
        case rel => exact ⟨j + 1, by omega, by go_num, by rw [show k + (j + 1) * 2 = q + 2 from by have := HQ.out; omega]; go_num, ((hb.setCell hg1 hg2 _).setCell hg1 hg2 _),
          Laid.next valC_len (marksVal_at k n j hjn) ((H1.out.set_ _ _).set_ _ _) (by simpa using H2.out) (fun i hi => by simp [Array.getElem?_setIfInBounds]; rw [if_neg (by omega), if_neg (by omega)]; exact H3.out i hi)
            (fun i hi => by rw [HQ.out]; rcases (by omega : i = 0 ∨ i = 1) with rfl | rfl <;> simp [Array.getElem?_setIfInBounds, valC, markVal] <;> omega)⟩
        case measure => simp [intOf]; omega
      · obtain rfl : j = n := by omega
        go_wp2
        go_ret
        exact ⟨by rw [HQ.out]; rfl, ⟨marksVal_len _ _, .inr ⟨g, cur, rfl, hg1, hg2, H1.out, hnc, hcm, H2.out, H3.out⟩⟩, hb⟩

set_option maxHeartbeats 2000000 in
theorem heldValS_any (A : Option Addr) (n c : Nat) (k : Nat) (w : World) (hl : RdL valC 2 w w.heap.size A n c (marksVal k n)) (hk0 : 0 < k) (hn : n ≤ 2097152) (hk : k ≤ 100000000) :
    Calls Tryz.prog 61 #[.slice A n c, .int .i64 k] w fun e w' => e = .returned (.int .i64 ((k + n * 2 : Nat) : Int)) ∧ Below w.heap.size w w' := by
  have HL := Lib.hid hl
  clear hl
  go_enter Tryz.func61, Tryz.ntmps61
  go_wp2_with fail
  go_loopw [1, 5] (fun kk i wr => ∃ j : Nat, j ≤ n ∧ i = .int .i64 j ∧ kk = .int .i64 ((k + j * 2 : Nat) : Int) ∧ Below w.heap.size w wr) (fun _ i _ => n - (intOf i).toNat)
  case atStart => exact ⟨0, by omega, rfl, by simp, Below.refl _ _⟩
  case round =>
    obtain ⟨j, hj, rfl, rfl, hb⟩ := hrel
    have hz := hb.size
    generalize hq : k + j * 2 = q
    have HQ := Lib.hid hq
    have hq1 : q ≤ 1000000000 := by omega
    have hq0 : 0 < q := by omega
    clear hq
    by_cases hjn : j < n
    · obtain ⟨b, off, p, rfl, hb1, hp, c0, c1⟩ := val_cells (HL.out.below hb (Nat.le_refl _)) hjn
      rw [marksVal_at k n j hjn, HQ.out] at hp
      obtain rfl : markVal q = p := by injection hp
      clear hp
      simp only [markVal] at c0 c1
      have hbl : b < wr.heap.size := by omega
      go_wp2
      go_roundw
      case rel => exact ⟨j + 1, by omega, by go_num, by rw [show k + (j + 1) * 2 = q + 2 from by have := HQ.out; omega]; go_num, hb⟩
      case measure => simp [intOf]; omega
    · obtain rfl : j = n := by omega
      go_wp2
      go_ret
      exact ⟨by rw [HQ.out]; rfl, hb⟩
end Go.Proofs.YtelnnegfkdfpiaaGreatDoor
