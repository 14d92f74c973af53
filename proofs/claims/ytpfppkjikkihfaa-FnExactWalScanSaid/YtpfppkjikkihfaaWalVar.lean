/- ReadVar of the program. -/
import Derived.Test.YtpfppkjikkihfaaWal
import Derived.Laws.BitsLemmas
import Derived.WalkKit
import Derived.WalkSpells
import Derived.WalkLawsBesides
import Derived.Lib.Hide
namespace Go.Proofs.Ytpfppkjikkihfaa
open Go.RowKit

def val7 : List UInt8 → Nat
  | [] => 0
  | b :: t => b.toNat % 128 + 128 * val7 t
theorem val7_snoc (l : List UInt8) (b : UInt8) : val7 (l ++ [b]) = val7 l + b.toNat % 128 * 128 ^ l.length := by
  induction l with
  | nil => simp [val7]
  | cons x l ih =>
    simp only [List.cons_append, val7, ih, List.length_cons, Nat.pow_succ]
    rw [Nat.mul_add, Nat.mul_comm (128 ^ l.length) 128, ← Nat.mul_assoc, ← Nat.mul_assoc, Nat.mul_comm 128 (b.toNat % 128)]
    omega
theorem val7_lt (l : List UInt8) : val7 l < 128 ^ l.length := by
  induction l with
  | nil => simp [val7]
  | cons x l ih =>
    simp only [val7, List.length_cons, Nat.pow_succ]
    omega
def lowB (b : UInt8) : Bool := decide ((b.toNat : Int) < 128)
/-- ReadVar: the number and how many bytes it takes (0: none stands there) -/
def rvL (l : List UInt8) : Nat × Nat :=
  match (l.take 7).findIdx? lowB with
  | some i => if varL (val7 (l.take (i + 1))) = l.take (i + 1) then (val7 (l.take (i + 1)), i + 1) else (0, 0)
  | none => (0, 0)
theorem rvL_none {l : List UInt8} {k : Nat} (h : noneTo lowB l k = true) (hk : k = 7 ∨ k = l.length) : rvL l = (0, 0) := by
  have : (l.take 7).findIdx? lowB = none := by
    rw [List.findIdx?_eq_none_iff]
    intro x hx
    unfold noneTo at h
    rw [List.all_eq_true] at h
    have hx2 : x ∈ l.take k := by
      rcases hk with rfl | rfl
      · exact hx
      · rw [List.take_length]; exact List.mem_of_mem_take hx
    simpa using h x hx2
  unfold rvL; rw [this]
theorem rvL_some {l : List UInt8} {k : Nat} {b : UInt8} (h : noneTo lowB l k = true) (hk : k < 7) (hb : l[k]? = some b) (hl : lowB b = true) :
    rvL l = if varL (val7 (l.take (k + 1))) = l.take (k + 1) then (val7 (l.take (k + 1)), k + 1) else (0, 0) := by
  have : (l.take 7).findIdx? lowB = some k := by
    have hkl : k < l.length := (List.getElem?_eq_some_iff.1 hb).1
    rw [List.findIdx?_eq_some_iff_getElem]
    refine ⟨by rw [List.length_take]; omega, ?_, fun j hj => ?_⟩
    · rw [List.getElem_take]
      have := (List.getElem?_eq_some_iff.1 hb).2
      rw [this, hl]
    · rw [List.getElem_take]
      unfold noneTo at h
      rw [List.all_eq_true] at h
      have := h (l[j]'(by omega)) (List.mem_iff_getElem.2 ⟨j, by rw [List.length_take]; omega, by rw [List.getElem_take]⟩)
      simpa using this
  unfold rvL; rw [this]
theorem u8_and127 (b : Nat) (hb : b < 256) : bits .and .u8 (b : Int) 127 = ((b % 128 : Nat) : Int) := by
  have := bits_mask .u8 8 (by decide) wraps_u8 7 (by decide) (b : Int) (by omega) (by omega)
  simpa using this
theorem wrap64_ok (n : Int) (h : -9223372036854775808 ≤ n ∧ n ≤ 9223372036854775807) : wrap64 n = n := by unfold wrap64; omega
theorem extract_list (s : ByteArray) (a b : Nat) : (s.extract a b).toList = (s.data.toList.drop a).take (b - a) := by
  rw [ByteArray.toList_eq]
  simp [ByteArray.data_extract, List.extract]
theorem or7 (n b k : Nat) (hn : n < 128 ^ k) (hb : b < 256) (hk : k < 7) :
    bits .or .i64 (n : Int) (wrap64 (wrap64 (bits .and .u8 (b : Int) 127) * 2 ^ (7 * k))) = ((n + b % 128 * 128 ^ k : Nat) : Int) := by
  have e1 : (128 : Nat) ^ k = 2 ^ (7 * k) := by rw [Nat.pow_mul]
  have hp : (2 : Nat) ^ (7 * k) ≤ 2 ^ 42 := Nat.pow_le_pow_right (by decide) (by omega)
  rw [e1] at hn ⊢
  have hm : b % 128 < 128 := Nat.mod_lt _ (by decide)
  have hx : b % 128 * 2 ^ (7 * k) < 2 ^ 63 := by
    have h1 : b % 128 * 2 ^ (7 * k) ≤ 127 * 2 ^ 42 := Nat.mul_le_mul (by omega) hp
    have h2 : (127 : Nat) * 2 ^ 42 < 2 ^ 63 := by decide
    omega
  have hy : n < 2 ^ 63 := by
    have h2 : (2 : Nat) ^ 42 < 2 ^ 63 := by decide
    omega
  have e3 : (((b % 128 : Nat) : Int) * 2 ^ (7 * k)) = ((b % 128 * 2 ^ (7 * k) : Nat) : Int) := by push_cast; rfl
  have h63 : (2 : Nat) ^ 63 = 9223372036854775808 := by decide
  rw [u8_and127 b hb, wrap64_ok ((b % 128 : Nat) : Int) (by omega), e3, wrap64_ok ((b % 128 * 2 ^ (7 * k) : Nat) : Int) (by omega)]
  have h := (bits_nat .i64 63 (by decide) wraps_i64 n (b % 128 * 2 ^ (7 * k)) hy hx).2
  rw [h, Nat.or_comm]
  have h2 := Nat.two_pow_add_eq_or_of_lt (i := 7 * k) (b := n) hn (b % 128)
  rw [Nat.mul_comm (b % 128) (2 ^ (7 * k)), ← h2, Nat.add_comm]

set_option maxRecDepth 100000 in
set_option maxHeartbeats 800000 in
theorem ReadVar_any (s : ByteArray) (w : World) (hs : s.size ≤ maxLen) :
    Calls Try.prog 86 #[.string s] w fun e w' => e = .returned (.tuple #[.int .i64 (rvL s.data.toList).1, .int .i64 (rvL s.data.toList).2]) ∧ Below w.heap.size w w' := by
  unfold maxLen at hs
  go_enter Try.func86, Try.ntmps86
  go_wp2
  go_loop [4, 5] (fun c i => ∃ k : Nat, k ≤ s.size ∧ k ≤ 7 ∧ i = .int .i64 k ∧ c = .int .i64 (val7 (s.data.toList.take k)) ∧ noneTo lowB s.data.toList k = true) (fun _ i => s.size - (intOf i).toNat)
  case atStart => exact ⟨0, Nat.zero_le _, by omega, rfl, rfl, noneTo_zero _ _⟩
  case round =>
    obtain ⟨k, hk, hk7, rfl, rfl, hno⟩ := hrel
    have HN := Lib.hid hno
    clear hno
    by_cases hlt : k < s.size
    · by_cases hl7 : k < 7
      · have hb : s.data.toList[k]? = some s[k] := by rw [List.getElem?_eq_getElem (by simpa using hlt)]; rfl
        have hvl : (s.data.toList.take k).length = k := by rw [List.length_take]; simp; omega
        have hv := val7_lt (s.data.toList.take k)
        have hs8 := s[k].toNat_lt
        have ho := or7 (val7 (s.data.toList.take k)) s[k].toNat k (by rw [hvl] at hv; exact hv) hs8 hl7
        have hsn := val7_snoc (s.data.toList.take k) s[k]
        rw [← take_snoc s k hlt, hvl] at hsn
        rw [← hsn] at ho
        have HB := Lib.hid hb
        have HO := Lib.hid ho
        clear hb hvl hv hsn ho
        by_cases h128 : ((s[k].toNat : Nat) : Int) < 128
        · have HR := Lib.hid (rvL_some HN.out hl7 HB.out (by unfold lowB; exact decide_eq_true h128))
          go_wp2_with fail
          rw [HO.out]
          have HX := Lib.hid (extract_list s 0 (k + 1))
          generalize hvv : val7 (s.data.toList.take (k + 1)) = v at *
          cases hq : (varL (v : Int) == (s.extract 0 (k + 1)).toList)
          · have HQ := Lib.hid hq
            refine wp_region_below (by kernel_rfl) (by kernel_rfl) ?_
            repeat (first | go_big_quiet_skip | (go_big_quiet_want; go_big_quiet_op; first | go_big_quiet_on | (apply Exists.intro; refine ⟨fun w1 hC => ?_, ?_⟩; (focus (first | rfl | (go_at_call 75; exact quiet_below hC (Var_any _ _)) | (simp [(bcell hC).1, hlt]; done) | (simp [(bcell hC).1, hlt]; rfl))); go_big_quiet_on)))
            refine wpQuiet_nil ?_
            intro w2 hb2
            obtain ⟨hc2, hf2, hz2⟩ := bcell hb2
            have HB2 := Lib.hid hb2
            clear hb2
            go_wp2
            go_ret2
            refine ⟨?_, HB2.out⟩
            have e := HQ.out
            rw [HX.out, beq_eq_false_iff_ne] at e
            rw [HR.out, if_neg (by simpa using e)]; rfl
          · have HQ := Lib.hid hq
            refine wp_region_below (by kernel_rfl) (by kernel_rfl) ?_
            repeat (first | go_big_quiet_skip | (go_big_quiet_want; go_big_quiet_op; first | go_big_quiet_on | (apply Exists.intro; refine ⟨fun w1 hC => ?_, ?_⟩; (focus (first | rfl | (go_at_call 75; exact quiet_below hC (Var_any _ _)) | (simp [(bcell hC).1, hlt]; done) | (simp [(bcell hC).1, hlt]; rfl))); go_big_quiet_on)))
            refine wpQuiet_nil ?_
            intro w2 hb2
            obtain ⟨hc2, hf2, hz2⟩ := bcell hb2
            have HB2 := Lib.hid hb2
            clear hb2
            go_wp2
            go_ret2
            refine ⟨?_, HB2.out⟩
            have e := HQ.out
            rw [HX.out, beq_iff_eq] at e
            rw [HR.out, if_pos (by simpa using e)]; rfl
        · have HL : Hid (lowB s[k] = false) := by show _ = _; unfold lowB; exact decide_eq_false h128
          go_wp2_with fail
          go_round
          case rel => exact ⟨k + 1, by omega, by omega, by go_num, by rw [HO.out], noneTo_succ HB.out HN.out HL.out⟩
          case measure => simp [intOf]; omega
      · obtain rfl : k = 7 := by omega
        have HR := Lib.hid (rvL_none HN.out (.inl rfl))
        go_wp2_with fail
        go_ret2
        exact ⟨by rw [HR.out]; rfl, Below.refl _ _⟩
    · obtain rfl : k = s.size := by omega
      have HR := Lib.hid (rvL_none HN.out (.inr (by simp)))
      go_wp2_with fail
      go_ret2
      exact ⟨by rw [HR.out]; rfl, Below.refl _ _⟩
end Go.Proofs.Ytpfppkjikkihfaa
