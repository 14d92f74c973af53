/- ReadVar of the reference. -/
import Derived.Test.YtpfppkjikkihfaaWalVar
import Derived.WalkKit
import Derived.WalkSpells
import Derived.WalkLawsBesides
import Derived.Lib.Hide
namespace Go.Proofs.Ytpfppkjikkihfaa
open Go.RowKit

theorem varAux_shape (f : Nat) : ∀ n : Int, 0 ≤ n → n < 128 ^ (f + 1) → ∃ init last, varAux f n = init ++ [last] ∧ (∀ b ∈ init, lowB b = false) ∧ lowB last = true := by
  have small : ∀ n : Int, 0 ≤ n → n ≤ 127 → lowB (UInt8.ofNat n.toNat) = true := by
    intro n h0 h1
    unfold lowB
    have : (UInt8.ofNat n.toNat).toNat = n.toNat := by simp; omega
    rw [this]
    exact decide_eq_true (by omega)
  induction f with
  | zero => intro n h0 h1; exact ⟨[], _, rfl, by simp, small n h0 (by simp at h1; omega)⟩
  | succ f ih =>
    intro n h0 h1
    by_cases hn : n ≤ 127
    · exact ⟨[], _, by unfold varAux; rw [if_pos hn]; rfl, by simp, small n h0 hn⟩
    · obtain ⟨init, last, e, h2, h3⟩ := ih (n / 128) (by omega) (by rw [Int.pow_succ] at h1; omega)
      refine ⟨UInt8.ofNat (n % 128 + 128).toNat :: init, last, by unfold varAux; rw [if_neg hn, e]; rfl, ?_, h3⟩
      intro b hb
      simp only [List.mem_cons] at hb
      rcases hb with rfl | hb
      · unfold lowB
        have : (UInt8.ofNat (n % 128 + 128).toNat).toNat = (n % 128 + 128).toNat := by simp; omega
        rw [this]
        exact decide_eq_false (by omega)
      · exact h2 b hb
theorem rv_hit {l : List UInt8} {k : Nat} (h1 : 1 ≤ k) (h7 : k ≤ 7) (hl : k ≤ l.length) (h : varL (val7 (l.take k)) = l.take k) : rvL l = (val7 (l.take k), k) := by
  have hlen : (l.take k).length = k := by rw [List.length_take]; omega
  have hin : inB ((val7 (l.take k) : Nat) : Int) 0 562949953421311 = true := by
    cases hc : inB ((val7 (l.take k) : Nat) : Int) 0 562949953421311
    · unfold varL at h
      rw [hc] at h
      have h9 := congrArg List.length h
      rw [hlen] at h9
      simp at h9
      omega
    · rfl
  have hv : varL (val7 (l.take k)) = varAux 6 (val7 (l.take k)) := by unfold varL; rw [if_pos hin]
  rw [inB_iff] at hin
  obtain ⟨init, last, e, h2, h3⟩ := varAux_shape 6 (val7 (l.take k)) hin.1 (by
    have : (128 : Int) ^ 7 = 562949953421312 := by decide
    omega)
  have hT : l.take k = init ++ [last] := by rw [← h, hv, e]
  have hil : init.length + 1 = k := by rw [hT] at hlen; simpa using hlen
  obtain ⟨j, rfl⟩ : ∃ j, k = j + 1 := ⟨k - 1, by omega⟩
  have hb : l[j]? = some last := by
    have : (l.take (j + 1))[j]? = l[j]? := by rw [List.getElem?_take, if_pos (by omega)]
    rw [← this, hT, List.getElem?_append_right (by omega), show j - init.length = 0 by omega]
    rfl
  have hn : noneTo lowB l j = true := by
    unfold noneTo
    have : l.take j = init := by
      have h5 : (l.take (j + 1)).take j = l.take j := by rw [List.take_take, Nat.min_eq_left (by omega)]
      rw [← h5, hT, List.take_append_of_le_length (by omega), List.take_of_length_le (by omega)]
    rw [this, List.all_eq_true]
    intro x hx
    simp [h2 x hx]
  rw [rvL_some hn (by omega) hb h3, if_pos h]
theorem rv_miss {l : List UInt8} (h : ∀ k : Nat, 1 ≤ k → k ≤ 7 → k ≤ l.length → varL (val7 (l.take k)) ≠ l.take k) : rvL l = (0, 0) := by
  unfold rvL
  split
  · rename_i i hi
    rw [List.findIdx?_eq_some_iff_getElem] at hi
    obtain ⟨h1, _⟩ := hi
    rw [List.length_take] at h1
    rw [if_neg (h (i + 1) (by omega) (by omega) (by omega))]
  · rfl
theorem val7_drop (l : List UInt8) (k i : Nat) (hi : i < k) (hk : k ≤ l.length) (b : UInt8) (hb : l[i]? = some b) : val7 ((l.take k).drop i) = b.toNat % 128 + 128 * val7 ((l.take k).drop (i + 1)) := by
  have hlt : i < (l.take k).length := by rw [List.length_take]; omega
  rw [List.drop_eq_getElem_cons hlt]
  have : (l.take k)[i] = b := by
    rw [List.getElem_take]
    exact (List.getElem?_eq_some_iff.1 hb).2
  rw [this]; rfl

set_option maxRecDepth 100000 in
set_option maxHeartbeats 800000 in
theorem sReadVar_any (s : ByteArray) (w : World) (hs : s.size ≤ maxLen) :
    Calls Try.prog 83 #[.string s] w fun e w' => e = .returned (.tuple #[.int .i64 (rvL s.data.toList).1, .int .i64 (rvL s.data.toList).2]) ∧ Below w.heap.size w w' := by
  unfold maxLen at hs
  go_enter Try.func83, Try.ntmps83
  go_wp2
  go_loopw [4] (fun i wr => ∃ k : Nat, k ≤ s.size ∧ k ≤ 7 ∧ i = .int .i64 ((k : Int) + 1) ∧ (∀ q : Nat, 1 ≤ q → q ≤ k → varL (val7 (s.data.toList.take q)) ≠ s.data.toList.take q) ∧ Below w.heap.size w wr) (fun i _ => 9 - (intOf i).toNat)
  case atStart => exact ⟨0, Nat.zero_le _, by omega, rfl, fun q h1 h2 => by omega, Below.refl _ _⟩
  case round =>
    obtain ⟨k, hk, hk7, rfl, hno, hb⟩ := hrel
    obtain ⟨wo, rfl⟩ : ∃ wo : World, wo = wr := ⟨_, rfl⟩
    have HN := Lib.hid hno
    have HB := Lib.hid hb
    clear hno hb
    by_cases h7 : k < 7
    · have h7i : ((k : Int) + 1) ≤ 7 := by omega
      have h7b : decide ((k : Int) + 1 ≤ 7) = true := decide_eq_true h7i
      by_cases hlt : k < s.size
      · have hli : ((k : Int) + 1) ≤ s.size := by omega
        have hlb : decide ((k : Int) + 1 ≤ (s.size : Int)) = true := decide_eq_true hli
        go_wp2_with fail
        go_loopw [5, 6] (fun n i wr => ∃ j v : Nat, j ≤ k + 1 ∧ i = .int .i64 ((j : Int) - 1) ∧ n = .int .i64 v ∧ v = val7 ((s.data.toList.take (k + 1)).drop j) ∧ wr = wo) (fun _ i _ => (intOf i + 1).toNat)
        case atStart => exact ⟨k + 1, 0, by omega, by go_num, rfl, by rw [List.drop_eq_nil_of_le (by rw [List.length_take]; omega)]; rfl, rfl⟩
        case round =>
          obtain ⟨j, v, hj, rfl, rfl, hv, rfl⟩ := hrel
          have HV := Lib.hid hv
          clear hv
          have hvb : v < 562949953421312 := by
            rw [HV.out]
            have h1 := val7_lt ((s.data.toList.take (k + 1)).drop j)
            have h2 : ((s.data.toList.take (k + 1)).drop j).length ≤ 7 := by rw [List.length_drop, List.length_take]; omega
            have h3 : (128 : Nat) ^ ((s.data.toList.take (k + 1)).drop j).length ≤ 128 ^ 7 := Nat.pow_le_pow_right (by decide) h2
            have h4 : (128 : Nat) ^ 7 = 562949953421312 := by decide
            omega
          by_cases hj0 : 0 < j
          · obtain ⟨i, rfl⟩ : ∃ i, j = i + 1 := ⟨j - 1, by omega⟩
            have hii : i < s.size := by omega
            have hbt : s.data.toList[i]? = some s[i] := by rw [List.getElem?_eq_getElem (by simpa using hii)]; rfl
            have HS := Lib.hid (val7_drop s.data.toList (k + 1) i (by omega) (by simp; omega) s[i] hbt)
            have hs8 := s[i].toNat_lt
            have hvb2 : v < 4398046511104 := by
              rw [HV.out]
              have h1 := val7_lt ((s.data.toList.take (k + 1)).drop (i + 1))
              have h2 : ((s.data.toList.take (k + 1)).drop (i + 1)).length ≤ 6 := by rw [List.length_drop, List.length_take]; omega
              have h3 : (128 : Nat) ^ ((s.data.toList.take (k + 1)).drop (i + 1)).length ≤ 128 ^ 6 := Nat.pow_le_pow_right (by decide) h2
              have h4 : (128 : Nat) ^ 6 = 4398046511104 := by decide
              omega
            have hb8 : ((s[i].toNat : Nat) : Int) < 256 := by omega
            have hii' : ((i + 1 : Nat) : Int) - 1 = i := by omega
            rw [hii']
            clear hbt hs8
            go_wp2
            go_roundw
            case rel => exact ⟨i, v * 128 + s[i].toNat % 128, by omega, by go_num, by go_num, by rw [HS.out, ← HV.out]; omega, trivial⟩
            case measure => simp [intOf]
          · obtain rfl : j = 0 := by omega
            have HX := Lib.hid (extract_list s 0 (k + 1))
            have hVV : val7 (s.data.toList.take (k + 1)) = v := by rw [HV.out]; rfl
            have HVV := Lib.hid hVV
            have hii' : ((0 : Nat) : Int) - 1 = -1 := by omega
            rw [hii']
            clear hVV
            cases hq : (varL (v : Int) == (s.extract 0 (k + 1)).toList)
            · have HQ := Lib.hid hq
              go_wp2_with fail
              refine wp_region_below (by kernel_rfl) (by kernel_rfl) ?_
              repeat (first | go_big_quiet_skip | (go_big_quiet_want; go_big_quiet_op; first | go_big_quiet_on | (apply Exists.intro; refine ⟨fun w1 hC => ?_, ?_⟩; (focus (first | rfl | (go_at_call 74; exact quiet_below hC (sVar_any _ _)) | (simp [(bcell hC).1, hlt]; done) | (simp [(bcell hC).1, hlt]; rfl))); go_big_quiet_on)))
              refine wpQuiet_nil ?_
              intro w2 hb2
              obtain ⟨hc2, hf2, hz2⟩ := bcell hb2
              have HB2 := Lib.hid (HB.out.trans (hb2.mono HB.out.size))
              clear hb2
              go_wp2
              go_roundw
              case rel =>
                refine ⟨k + 1, by omega, by omega, by go_num, fun q h1 h2 => ?_, HB2.out⟩
                by_cases hqk : q ≤ k
                · exact HN.out q h1 hqk
                · obtain rfl : q = k + 1 := by omega
                  have e := HQ.out
                  rw [HX.out, beq_eq_false_iff_ne] at e
                  rw [HVV.out]
                  simpa using e
              case measure => simp [intOf]; omega
            · have HQ := Lib.hid hq
              go_wp2_with fail
              refine wp_region_below (by kernel_rfl) (by kernel_rfl) ?_
              repeat (first | go_big_quiet_skip | (go_big_quiet_want; go_big_quiet_op; first | go_big_quiet_on | (apply Exists.intro; refine ⟨fun w1 hC => ?_, ?_⟩; (focus (first | rfl | (go_at_call 74; exact quiet_below hC (sVar_any _ _)) | (simp [(bcell hC).1, hlt]; done) | (simp [(bcell hC).1, hlt]; rfl))); go_big_quiet_on)))
              refine wpQuiet_nil ?_
              intro w2 hb2
              obtain ⟨hc2, hf2, hz2⟩ := bcell hb2
              have HB2 := Lib.hid (HB.out.trans (hb2.mono HB.out.size))
              clear hb2
              go_wp2
              go_ret2
              refine ⟨?_, HB2.out⟩
              have e := HQ.out
              rw [HX.out, beq_iff_eq] at e
              rw [rv_hit (k := k + 1) (by omega) (by omega) (by simp; omega) (by rw [HVV.out]; simpa using e), HVV.out]
              rfl
      · obtain rfl : k = s.size := by omega
        have hli : ¬ ((s.size : Int) + 1) ≤ s.size := by omega
        have hlb : decide ((s.size : Int) + 1 ≤ (s.size : Int)) = false := decide_eq_false hli
        have HR := Lib.hid (rv_miss (l := s.data.toList) fun q h1 h2 h3 => HN.out q h1 (by simpa using h3))
        go_wp2_with fail
        go_ret2
        exact ⟨by rw [HR.out]; rfl, HB.out⟩
    · obtain rfl : k = 7 := by omega
      have HR := Lib.hid (rv_miss (l := s.data.toList) fun q h1 h2 h3 => HN.out q h1 h2)
      go_wp2_with fail
      go_ret2
      exact ⟨by rw [HR.out]; rfl, HB.out⟩
end Go.Proofs.Ytpfppkjikkihfaa
