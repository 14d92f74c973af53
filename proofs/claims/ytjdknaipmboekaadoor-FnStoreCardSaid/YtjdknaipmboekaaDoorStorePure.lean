/- What the store's functions keep, in plain Lean; laws.sameHeads. (written by wip/storepure.py) -/
import Derived.Test.YtjdknaipmboekaaDoorStoreAdd
import Derived.Test.YtjdknaipmboekaaDoorStorePrune
import Derived.Test.YtjdknaipmboekaaDoorStoreFall
import Derived.Test.YtjdknaipmboekaaDoorStoreGet
import Derived.WalkKit
import Derived.WalkSpells
import Derived.WalkLawsBesides
import Derived.Lib.Hide
namespace Go.Proofs.YtjdknaipmboekaaDoor
open Go.RowKit

theorem add_kept {l : List HeaderD} {y : Int} {v : HeaderD} (h : storeB l y = true) : storeB (addL l y v) (addY l y v) = true := by
  unfold addL addY
  rw [if_pos h, if_pos h]
  split
  · rename_i h2; exact h2
  · exact h
theorem add_true {l : List HeaderD} {y : Int} {v : HeaderD} (h : addB l y v = true) : addL l y v = l ++ [v] := by
  unfold addB at h
  rw [Bool.and_eq_true] at h
  unfold addL
  rw [if_pos h.1, if_pos h.2]
theorem add_false {l : List HeaderD} {y : Int} {v : HeaderD} (h : storeB l y = true) (h2 : addB l y v = false) : addL l y v = l := by
  unfold addB at h2
  rw [h, Bool.true_and] at h2
  unfold addL
  rw [if_pos h, if_neg (by rw [h2]; decide)]
theorem allTo_iff {f : Nat → HeaderD → Bool} {l : List HeaderD} : allTo f l l.length = true ↔ ∀ j x, l[j]? = some x → f j x = true := by
  constructor
  · intro h j x hx
    exact allTo_get h (List.getElem?_eq_some_iff.1 hx).1 hx
  · intro h
    unfold allTo
    rw [List.all_eq_true]
    rintro ⟨x, j⟩ hm
    rw [List.take_length, List.mk_mem_zipIdx_iff_getElem?] at hm
    exact h j x hm
theorem store_drop {l : List HeaderD} {y y' : Int} {m : Nat} (h : storeB l y = true) (h2 : 0 ≤ y' ∧ y' ≤ (l.drop m).length) : storeB (l.drop m) y' = true := by
  have hf := storeB_facts h
  unfold storeB at h ⊢
  rw [Bool.and_eq_true] at h ⊢
  refine ⟨?_, ?_⟩
  · rw [allTo_iff] at *
    intro j x hx
    rw [List.getElem?_drop] at hx
    have h3 := h.1 (m + j) x hx
    cases j with
    | zero => exact headOk_zero (headOk_hdr h3)
    | succ j =>
      obtain ⟨q, hq⟩ : ∃ q, l[m + j]? = some q := ⟨l[m + j]'(by have := (List.getElem?_eq_some_iff.1 hx).1; omega), List.getElem?_eq_getElem _⟩
      rw [headOk_link (headOk_hdr h3) (by rw [List.getElem?_drop]; exact hq)]
      rwa [show m + (j + 1) = (m + j) + 1 by omega, headOk_link (headOk_hdr h3) hq] at h3
  · rw [Bool.and_eq_true, decide_eq_true_eq, inB_iff]
    exact ⟨by rw [List.length_drop]; omega, h2⟩
theorem prune_kept {l : List HeaderD} {y k : Int} (h : storeB l y = true) : storeB (pruneL l y k) (pruneY l y k) = true := by
  have hf := storeB_facts h
  unfold pruneL pruneY
  rw [if_pos h, if_pos h]
  split
  · rename_i hk
    rw [inB_iff] at hk
    refine store_drop h ?_
    rw [List.length_drop]
    split <;> omega
  · exact h
theorem prune_cut {l : List HeaderD} {y k : Int} (h : pruneB l y k = true) : ∃ j p, ((pruneL l y k).length : Int) = k ∧ k - 1 = ((j : Nat) : Int) ∧ j < (pruneL l y k).length ∧ (pruneL l y k)[j]? = some p ∧ l[l.length - 1]? = some p ∧ 1 ≤ k ∧ 1 ≤ l.length := by
  unfold pruneB at h
  rw [Bool.and_eq_true] at h
  obtain ⟨h1, h2⟩ := h
  unfold pruneL
  rw [if_pos h1, if_pos h2]
  rw [inB_iff] at h2
  have hl : l.length - 1 < l.length := by omega
  refine ⟨(k - 1).toNat, l[l.length - 1], by rw [List.length_drop]; omega, by omega, by rw [List.length_drop]; omega, ?_, List.getElem?_eq_getElem hl, by omega, by omega⟩
  rw [List.getElem?_drop, show l.length - k.toNat + (k - 1).toNat = l.length - 1 by omega]
  exact List.getElem?_eq_getElem hl
theorem fall_n {l : List HeaderD} {y k : Int} (h : storeB l y = true) : fallL l y k = l.take (fallN l y k) ∧ fallY l y k = fallN l y k ∧ (fallL l y k).length = fallN l y k ∧ fallN l y k ≤ l.length ∧ y ≤ fallN l y k := by
  have hf := storeB_facts h
  have hn : fallN l y k ≤ l.length ∧ y ≤ fallN l y k := by
    unfold fallN
    split
    · omega
    · split <;> omega
  unfold fallL fallY
  rw [if_pos h, if_pos h]
  exact ⟨rfl, rfl, by rw [List.length_take]; omega, hn⟩
theorem get_at {l : List HeaderD} {y k : Int} {x : HeaderD} (h : getO l y k = some x) : x.h = k := by
  unfold getO at h
  split at h
  · have := List.find?_some h
    simpa using this
  · cases h

set_option maxHeartbeats 1000000 in
theorem sameHeads_same (A : Option Addr) (n c : Nat) (A' : Option Addr) (c' : Nat) (l : List HeaderD) (w : World) (hl : RdL headC 6 w w.heap.size A n c l) (hl' : RdL headC 6 w w.heap.size A' n c' l) :
    Calls Tryd.prog 34 #[.slice A n c, .slice A' n c'] w fun e w' => e = .returned (.bool true) ∧ Below w.heap.size w w' := by
  have hn := hl.le
  have HL := Lib.hid hl
  have HL' := Lib.hid hl'
  clear hl hl'
  go_enter Tryd.func34, Tryd.ntmps34
  go_wp2_with fail
  go_loopw [5] (fun i wr => ∃ k : Nat, k ≤ n ∧ i = .int .i64 k ∧ Below w.heap.size w wr) (fun i _ => n - (intOf i).toNat)
  case atStart => exact ⟨0, by omega, rfl, Below.refl _ _⟩
  case round =>
    obtain ⟨k, hk, rfl, hb⟩ := hrel
    have hz := hb.size
    by_cases hkn : k < n
    · obtain ⟨b, off, p, rfl, hb1, hp, c0, c1, c2, c3, c4, c5⟩ := head_cells (HL.out.below hb (Nat.le_refl _)) hkn
      obtain ⟨b', off', p', rfl, hb1', hp', d0, d1, d2, d3, d4, d5⟩ := head_cells (HL'.out.below hb (Nat.le_refl _)) hkn
      obtain rfl : p = p' := by rw [hp] at hp'; injection hp'
      clear hp hp'
      have hlt : b < wr.heap.size := by omega
      have hlt' : b' < wr.heap.size := by omega
      go_wp2_with fail
      refine wp_region_below (by kernel_rfl) (by kernel_rfl) ?_
      repeat (first | go_big_quiet_skip | (go_big_quiet_want; go_big_quiet_op; first | go_big_quiet_on | (apply Exists.intro; refine ⟨fun w1 hC => ?_, ?_⟩; (focus (first | rfl | fail | (simp [(bcell hC).1, hlt, hlt', c0, c1, c2, c3, c4, c5, d0, d1, d2, d3, d4, d5]; done) | (simp [(bcell hC).1, hlt, hlt', c0, c1, c2, c3, c4, c5, d0, d1, d2, d3, d4, d5]; rfl))); go_big_quiet_on)))
      refine wpQuiet_nil ?_
      intro w2 hb2
      obtain ⟨hc2, hf2, hz2⟩ := bcell hb2
      go_wp2
      go_roundw
      case rel => exact ⟨k + 1, by omega, by go_num, hb.trans (hb2.mono hz)⟩
      case measure => simp [intOf]; omega
    · obtain rfl : k = n := by omega
      go_wp2
      go_ret
      exact ⟨rfl, hb⟩
end Go.Proofs.YtjdknaipmboekaaDoor
