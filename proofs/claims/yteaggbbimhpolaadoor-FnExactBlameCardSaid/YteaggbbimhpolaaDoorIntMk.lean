/- Slices of ints: comparison and marks. -/
import Derived.Test.YteaggbbimhpolaaDoorIntHas
import Derived.Test.YteaggbbimhpolaaDoorChg
import Derived.WalkKit
import Derived.WalkSpells
import Derived.WalkLawsBesides
import Derived.Lib.Hide
namespace Go.Proofs.YteaggbbimhpolaaDoor
open Go.RowKit

def marksI (k n : Nat) : List Int := (List.range n).map fun i => ((k + i : Nat) : Int)
theorem marksI_len (k n : Nat) : (marksI k n).length = n := by simp [marksI]
theorem marksI_at (k n i : Nat) (h : i < n) : (marksI k n)[i]? = some (((k + i : Nat) : Int)) := by simp [marksI, h]

set_option maxHeartbeats 1000000 in
theorem eqIntS_same (A : Option Addr) (n c : Nat) (A' : Option Addr) (c' : Nat) (l : List Int) (w : World) (hl : RdL intC 1 w w.heap.size A n c l) (hl' : RdL intC 1 w w.heap.size A' n c' l) :
    Calls Tryd.prog 22 #[.slice A n c, .slice A' n c'] w fun e w' => e = .returned (.bool true) ∧ Below w.heap.size w w' := by
  have hn := hl.le
  have HL := Lib.hid hl
  have HL' := Lib.hid hl'
  clear hl hl'
  go_enter Tryd.func22, Tryd.ntmps22
  go_wp2_with fail
  go_loopw [5] (fun i wr => ∃ k : Nat, k ≤ n ∧ i = .int .i64 k ∧ Below w.heap.size w wr) (fun i _ => n - (intOf i).toNat)
  case atStart => exact ⟨0, by omega, rfl, Below.refl _ _⟩
  case round =>
    obtain ⟨k, hk, rfl, hb⟩ := hrel
    have hz := hb.size
    by_cases hkn : k < n
    · obtain ⟨b, off, x, rfl, hb1, hp, c0⟩ := int_cells (HL.out.below hb (Nat.le_refl _)) hkn
      obtain ⟨b', off', x', rfl, hb1', hp', d0⟩ := int_cells (HL'.out.below hb (Nat.le_refl _)) hkn
      rw [hp] at hp'
      obtain rfl : x = x' := by injection hp'
      clear hp hp'
      have hlt : b < wr.heap.size := by omega
      have hlt' : b' < wr.heap.size := by omega
      go_wp2_with fail
      refine wp_region_below (by kernel_rfl) (by kernel_rfl) ?_
      repeat (first | go_big_quiet_skip | (go_big_quiet_want; go_big_quiet_op; first | go_big_quiet_on | (apply Exists.intro; refine ⟨fun w1 hC => ?_, ?_⟩; (focus (first | rfl | fail | (simp [(bcell hC).1, hlt, hlt', c0, d0]; done) | (simp [(bcell hC).1, hlt, hlt', c0, d0]; rfl))); go_big_quiet_on)))
      refine wpQuiet_nil ?_
      intro w2 hb2
      obtain ⟨hc2, hf2, hz2⟩ := bcell hb2
      go_wp2
      go_roundw
      case rel => exact ⟨k + 1, by omega, by go_num, hb.trans (hb2.mono hz)⟩
      case measure => simp [intOf]; omega
    · obtain rfl : k = n := by omega
      go_wp2
      go_ret
      exact ⟨rfl, hb⟩

set_option maxHeartbeats 2000000 in
theorem markIntS_any (T : TypeId) (A : Option Addr) (n c : Nat) (l : List Int) (lo hi k : Nat) (w : World) (hl : OwnL intC 1 T w lo hi A n c l) (hk0 : 0 < k) (hn : n ≤ 2097152) (hk : k ≤ 100000000) :
    Calls Tryd.prog 24 #[.slice A n c, .int .i64 k] w (MarkOut intC 1 T lo hi A n c (marksI k n) ((k + n : Nat) : Int) w) := by
  obtain ⟨hll, h0 | ⟨g, cur, rfl, hg1, hg2, hblk, hnc, hcm, hsz, _⟩⟩ := hl
  · obtain ⟨rfl, rfl, rfl⟩ := h0
    go_enter Tryd.func24, Tryd.ntmps24
    go_wp2_with fail
    go_loop [1, 5] (fun kk i => kk = .int .i64 (k : Int) ∧ i = .int .i64 0) (fun _ _ => 0)
    case atStart => exact ⟨rfl, rfl⟩
    case round =>
    obtain ⟨rfl, rfl⟩ := hrel
    go_wp2
    go_ret
    exact ⟨by simp, ⟨by simp [marksI], .inl ⟨rfl, rfl, rfl⟩⟩, Chg.refl _ _ _⟩
  · have hn' : n ≤ 9223372036854775807 := by omega
    have H0 : Hid (Laid intC 1 (marksI k n) 0 c w g T) := ⟨cur, hblk, hsz, fun j hj => absurd hj (by omega)⟩
    have hgw := hblk.lt
    clear hblk hsz
    go_enter Tryd.func24, Tryd.ntmps24
    go_wp2_with fail
    go_loopw [1, 5] (fun kk i wr => ∃ j : Nat, j ≤ n ∧ i = .int .i64 j ∧ kk = .int .i64 ((k + j : Nat) : Int) ∧ Chg lo hi w wr ∧ Laid intC 1 (marksI k n) j c wr g T) (fun _ i _ => n - (intOf i).toNat)
    case atStart => exact ⟨0, by omega, rfl, by simp, Chg.refl _ _ _, H0.out⟩
    case round =>
      obtain ⟨j, hj, rfl, rfl, hb, cur, h1, h2, h3⟩ := hrel
      have H1 := Lib.hid h1; have H2 := Lib.hid h2; have H3 := Lib.hid h3; have HB := Lib.hid hb
      have hgr := h1.lt
      clear h1 h2 h3 H0 hb
      generalize hq : k + j = q
      have HQ := Lib.hid hq
      have hq1 : q ≤ 1000000000 := by omega
      have hq0 : 0 < q := by omega
      clear hq
      by_cases hjn : j < n
      · have hsz : j < cur.size := by rw [H2.out]; omega
        have qf := H1.out.frozen
        have q0 := H1.out.has j hsz
        go_wp2
        go_roundw
        case rel => exact ⟨j + 1, by omega, by go_num, by rw [show k + (j + 1) = q + 1 from by have := HQ.out; omega]; go_num, HB.out.setCell hg1 hg2 _,
          Laid.next intC_len (marksI_at k n j hjn) (H1.out.set_ _ _) (by simpa using H2.out) (fun i hi => by simp [Array.getElem?_setIfInBounds]; rw [if_neg (by omega)]; exact H3.out i (by omega))
            (fun i hi => by have h0 : i = 0 := (by omega); subst h0; rw [HQ.out]; simp [Array.getElem?_setIfInBounds, intC, hsz])⟩
        case measure => simp [intOf]; omega
      · obtain rfl : j = n := by omega
        go_wp2
        go_ret
        exact ⟨by rw [HQ.out]; rfl, ⟨marksI_len _ _, .inr ⟨g, cur, rfl, hg1, hg2, H1.out, hnc, hcm, H2.out, H3.out⟩⟩, HB.out⟩

set_option maxHeartbeats 2000000 in
theorem heldIntS_any (A : Option Addr) (n c : Nat) (k : Nat) (w : World) (hl : RdL intC 1 w w.heap.size A n c (marksI k n)) (hk0 : 0 < k) (hn : n ≤ 2097152) (hk : k ≤ 100000000) :
    Calls Tryd.prog 25 #[.slice A n c, .int .i64 k] w fun e w' => e = .returned (.int .i64 ((k + n : Nat) : Int)) ∧ Below w.heap.size w w' := by
  have HL := Lib.hid hl
  clear hl
  go_enter Tryd.func25, Tryd.ntmps25
  go_wp2_with fail
  go_loopw [1, 5] (fun kk i wr => ∃ j : Nat, j ≤ n ∧ i = .int .i64 j ∧ kk = .int .i64 ((k + j : Nat) : Int) ∧ Below w.heap.size w wr) (fun _ i _ => n - (intOf i).toNat)
  case atStart => exact ⟨0, by omega, rfl, by simp, Below.refl _ _⟩
  case round =>
    obtain ⟨j, hj, rfl, rfl, hb⟩ := hrel
    have hz := hb.size
    generalize hq : k + j = q
    have HQ := Lib.hid hq
    have hq1 : q ≤ 1000000000 := by omega
    have hq0 : 0 < q := by omega
    clear hq
    by_cases hjn : j < n
    · obtain ⟨b, off, x, rfl, hb1, hp, c0⟩ := int_cells (HL.out.below hb (Nat.le_refl _)) hjn
      rw [marksI_at k n j hjn, HQ.out] at hp
      obtain rfl : (q : Int) = x := by injection hp
      clear hp
      have hbl : b < wr.heap.size := by omega
      go_wp2
      go_roundw
      case rel => exact ⟨j + 1, by omega, by go_num, by rw [show k + (j + 1) = q + 1 from by have := HQ.out; omega]; go_num, hb⟩
      case measure => simp [intOf]; omega
    · obtain rfl : j = n := by omega
      go_wp2
      go_ret
      exact ⟨by rw [HQ.out]; rfl, hb⟩
end Go.Proofs.YteaggbbimhpolaaDoor
