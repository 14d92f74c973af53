/- Crc of the program and of the reference. -/
import Derived.Test.YtpfppkjikkihfaaV
import Derived.IntWalk
import Derived.WalkKit
import Derived.WalkSpells
import Derived.WalkLawsBesides
import Derived.Lib.Hide
namespace Go.Proofs.Ytpfppkjikkihfaa
open Go.RowKit

def xorI (a b : Int) : Int := bits .xor .i64 a b
theorem xorI_bd (a b : Int) (a0 : 0 ≤ a) (a1 : a < 4294967296) (b0 : 0 ≤ b) (b1 : b < 4294967296) : 0 ≤ xorI a b ∧ xorI a b < 4294967296 := by
  obtain ⟨n, rfl⟩ := Int.eq_ofNat_of_zero_le a0
  obtain ⟨m, rfl⟩ := Int.eq_ofNat_of_zero_le b0
  have hn : n < 2 ^ 32 := by omega
  have hm : m < 2 ^ 32 := by omega
  have hx : n ^^^ m < 2 ^ 32 := Nat.xor_lt_two_pow hn hm
  have e : xorI n m = ((n ^^^ m : Nat) : Int) := by
    unfold xorI
    simp only [bits, BitVec.ofInt_natCast, BitVec.toNat_xor, BitVec.toNat_ofNat]
    have h1 : n % 2 ^ IntKind.i64.bits = n := Nat.mod_eq_of_lt (by show n < 2 ^ 64; omega)
    have h2 : m % 2 ^ IntKind.i64.bits = m := Nat.mod_eq_of_lt (by show m < 2 ^ 64; omega)
    rw [h1, h2]
    exact wraps_i64 _ (Int.natCast_nonneg _) (by omega)
  rw [e]; omega
def crcBit (c : Int) : Int := if c % 2 = 1 then xorI (c / 2) 2197175160 else c / 2
def crcBits : Nat → Int → Int
  | 0, c => c
  | k + 1, c => crcBit (crcBits k c)
def crcByte (c : Int) (b : UInt8) : Int := crcBits 8 (xorI c b.toNat)
def crcFold (l : List UInt8) : Int := l.foldl crcByte 4294967295
def crcN (l : List UInt8) : Int := 4294967295 - crcFold l
def In32 (c : Int) : Prop := 0 ≤ c ∧ c < 4294967296
theorem crcBit_in {c : Int} (h : In32 c) : In32 (crcBit c) := by
  obtain ⟨h0, h1⟩ := h
  unfold crcBit; split
  · exact xorI_bd _ _ (by omega) (by omega) (by omega) (by omega)
  · exact ⟨by omega, by omega⟩
theorem crcBits_in {c : Int} (h : In32 c) (k : Nat) : In32 (crcBits k c) := by
  induction k with
  | zero => exact h
  | succ k ih => exact crcBit_in ih
theorem xor_byte_in {c : Int} (h : In32 c) (b : UInt8) : In32 (xorI c b.toNat) := by
  have := b.toNat_lt
  exact xorI_bd _ _ h.1 h.2 (by omega) (by omega)
theorem crcFold_in (l : List UInt8) : In32 (crcFold l) := by
  unfold crcFold
  have : ∀ (l : List UInt8) (c : Int), In32 c → In32 (l.foldl crcByte c) := by
    intro l
    induction l with
    | nil => intro c h; exact h
    | cons b l ih => intro c h; exact ih _ (crcBits_in (xor_byte_in h b) 8)
  exact this l _ ⟨by omega, by omega⟩
theorem crcFold_snoc (l : List UInt8) (b : UInt8) : crcFold (l ++ [b]) = crcBits 8 (xorI (crcFold l) b.toNat) := by
  unfold crcFold; rw [List.foldl_append]; rfl
theorem crcN_bd (l : List UInt8) : 0 ≤ crcN l ∧ crcN l < 4294967296 := by
  have := crcFold_in l; unfold In32 at this; unfold crcN; omega
theorem take_snoc (s : ByteArray) (k : Nat) (h : k < s.size) : s.data.toList.take (k + 1) = s.data.toList.take k ++ [s[k]] := by
  rw [List.take_succ_eq_append_getElem (by simpa using h)]; rfl
theorem i64_and1 (x : Int) (h₀ : 0 ≤ x) (h₁ : x < 2 ^ 63) : bits .and .i64 x 1 = x % 2 := bits_mask .i64 63 (by decide) wraps_i64 1 (by decide) x h₀ h₁

set_option maxRecDepth 100000 in
set_option maxHeartbeats 800000 in
theorem sCrc_any (s : ByteArray) (w : World) (hs : s.size ≤ maxLen) :
    Calls Try.prog 53 #[.string s] w fun e w' => e = .returned (.int .i64 (crcN s.data.toList)) ∧ w = w' := by
  unfold maxLen at hs
  go_enter Try.func53, Try.ntmps53
  go_wp2
  go_loop [3, 4] (fun c i => ∃ k : Nat, k ≤ s.size ∧ i = .int .i64 k ∧ c = .int .i64 (crcFold (s.data.toList.take k))) (fun _ i => s.size - (intOf i).toNat)
  case atStart => exact ⟨0, Nat.zero_le _, rfl, rfl⟩
  case round =>
    obtain ⟨k, hk, rfl, rfl⟩ := hrel
    have hin := crcFold_in (s.data.toList.take k)
    have HK := Lib.hid (crcFold_snoc (s.data.toList.take k))
    generalize hc : crcFold (s.data.toList.take k) = c at *
    have HC := Lib.hid hc; clear hc
    by_cases hlt : k < s.size
    · have hx := xor_byte_in hin s[k]
      have HT := Lib.hid (take_snoc s k hlt)
      have hb8 : ((s[k].toNat : Nat) : Int) < 256 := by have := s[k].toNat_lt; omega
      have HX := Lib.hid hx
      clear hx
      go_wp2_with fail
      have HD : Hid (In32 (bits .xor .i64 c (s[k].toNat : Int))) := HX.out
      generalize hd : bits .xor .i64 c (s[k].toNat : Int) = d at *
      have HE : Hid (xorI c (s[k].toNat : Int) = d) := hd
      clear hd
      go_loop [3, 5] (fun c' i => ∃ j : Nat, j ≤ 8 ∧ i = .int .i64 j ∧ c' = .int .i64 (crcBits j d)) (fun _ i => 8 - (intOf i).toNat)
      case atStart => exact ⟨0, by omega, rfl, rfl⟩
      case round =>
        obtain ⟨j, hj, rfl, rfl⟩ := hrel
        have hin2 := crcBits_in HD.out j
        have HB : Hid (crcBits (j + 1) d = crcBit (crcBits j d)) := rfl
        generalize hy : crcBits j d = y at *
        have HY := Lib.hid hy; clear hy
        obtain ⟨y0, y1⟩ := hin2
        by_cases hj8 : j < 8
        · by_cases ho : y % 2 = 1
          · have HO : Hid (crcBit y = bits .xor .i64 (y / 2) 2197175160) := by show _ = _; unfold crcBit; rw [if_pos ho]; rfl
            go_wp2
            go_round
            case rel => exact ⟨j + 1, by omega, by go_num, by rw [HB.out, HO.out]⟩
            case measure => simp [intOf]; omega
          · have HO : Hid (crcBit y = y / 2) := by show _ = _; unfold crcBit; rw [if_neg ho]
            go_wp2
            go_round
            case rel => exact ⟨j + 1, by omega, by go_num, by rw [HB.out, HO.out]⟩
            case measure => simp [intOf]; omega
        · obtain rfl : j = 8 := by omega
          go_wp2
          go_round
          case rel => exact ⟨k + 1, by omega, by go_num, by rw [HT.out, HK.out, HE.out, HY.out]⟩
          case measure => simp [intOf]; omega
    · obtain rfl : k = s.size := by omega
      have HZ : Hid (crcN s.data.toList = 4294967295 - c) := by show _ = _; unfold crcN; rw [← HC.out, List.take_of_length_le (by simp)]
      obtain ⟨c0, c1⟩ := hin
      go_wp2
      go_ret
      exact ⟨by rw [HZ.out]; rfl, rfl⟩
set_option maxRecDepth 100000 in
set_option maxHeartbeats 800000 in
theorem Crc_any (s : ByteArray) (w : World) (hs : s.size ≤ maxLen) :
    Calls Try.prog 55 #[.string s] w fun e w' => e = .returned (.int .i64 (crcN s.data.toList)) ∧ w = w' := by
  unfold maxLen at hs
  go_enter Try.func55, Try.ntmps55
  go_wp2
  go_loop [3, 4] (fun c i => ∃ k : Nat, k ≤ s.size ∧ i = .int .i64 k ∧ c = .int .i64 (crcFold (s.data.toList.take k))) (fun _ i => s.size - (intOf i).toNat)
  case atStart => exact ⟨0, Nat.zero_le _, rfl, rfl⟩
  case round =>
    obtain ⟨k, hk, rfl, rfl⟩ := hrel
    have hin := crcFold_in (s.data.toList.take k)
    have HK := Lib.hid (crcFold_snoc (s.data.toList.take k))
    generalize hc : crcFold (s.data.toList.take k) = c at *
    have HC := Lib.hid hc; clear hc
    by_cases hlt : k < s.size
    · have hx := xor_byte_in hin s[k]
      have HT := Lib.hid (take_snoc s k hlt)
      have hb8 : ((s[k].toNat : Nat) : Int) < 256 := by have := s[k].toNat_lt; omega
      have HX := Lib.hid hx
      clear hx
      go_wp2_with fail
      have HD : Hid (In32 (bits .xor .i64 c (s[k].toNat : Int))) := HX.out
      generalize hd : bits .xor .i64 c (s[k].toNat : Int) = d at *
      have HE : Hid (xorI c (s[k].toNat : Int) = d) := hd
      clear hd
      go_loop [3, 18] (fun c' i => ∃ j : Nat, j ≤ 8 ∧ i = .int .i64 j ∧ c' = .int .i64 (crcBits j d)) (fun _ i => 8 - (intOf i).toNat)
      case atStart => exact ⟨0, by omega, rfl, rfl⟩
      case round =>
        obtain ⟨j, hj, rfl, rfl⟩ := hrel
        have hin2 := crcBits_in HD.out j
        have HB : Hid (crcBits (j + 1) d = crcBit (crcBits j d)) := rfl
        generalize hy : crcBits j d = y at *
        have HY := Lib.hid hy; clear hy
        obtain ⟨y0, y1⟩ := hin2
        have hA := i64_and1 y y0 (by omega)
        by_cases hj8 : j < 8
        · by_cases ho : y % 2 = 1
          · have HO : Hid (crcBit y = bits .xor .i64 (y / 2) 2197175160) := by show _ = _; unfold crcBit; rw [if_pos ho]; rfl
            go_wp2
            go_round
            case rel => exact ⟨j + 1, by omega, by go_num, by rw [HB.out, HO.out]⟩
            case measure => simp [intOf]; omega
          · have HO : Hid (crcBit y = y / 2) := by show _ = _; unfold crcBit; rw [if_neg ho]
            go_wp2
            go_round
            case rel => exact ⟨j + 1, by omega, by go_num, by rw [HB.out, HO.out]⟩
            case measure => simp [intOf]; omega
        · obtain rfl : j = 8 := by omega
          go_wp2
          go_round
          case rel => exact ⟨k + 1, by omega, by go_num, by rw [HT.out, HK.out, HE.out, HY.out]⟩
          case measure => simp [intOf]; omega
    · obtain rfl : k = s.size := by omega
      have HZ : Hid (crcN s.data.toList = 4294967295 - c) := by show _ = _; unfold crcN; rw [← HC.out, List.take_of_length_le (by simp)]
      obtain ⟨c0, c1⟩ := hin
      go_wp2
      go_ret
      exact ⟨by rw [HZ.out]; rfl, rfl⟩
end Go.Proofs.Ytpfppkjikkihfaa
