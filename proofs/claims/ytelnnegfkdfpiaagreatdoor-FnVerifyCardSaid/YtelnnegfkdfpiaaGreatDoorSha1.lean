/- Words of 32 bits: in the program (uint32) and in the reference (int). -/
import Derived.Test.YtelnnegfkdfpiaaGreatDoorW2
import Derived.IntWalk
import Derived.WalkKit
import Derived.WalkSpells
import Derived.WalkLawsBesides
import Derived.Lib.Hide
namespace Go.Proofs.YtelnnegfkdfpiaaGreatDoor
open Go.RowKit

abbrev W32 := BitVec 32
theorem w32_lt (x : W32) : x.toNat < 4294967296 := x.isLt
theorem or64 (a b : Nat) (ha : a < 2 ^ 62) (hb : b < 2 ^ 62) : bits .or .i64 a b = ((a ||| b : Nat) : Int) := by
  have hx : a ||| b < 2 ^ 62 := Nat.or_lt_two_pow ha hb
  simp only [bits, BitVec.ofInt_natCast, BitVec.toNat_or, BitVec.toNat_ofNat]
  have h1 : a % 2 ^ IntKind.i64.bits = a := Nat.mod_eq_of_lt (by show a < 2 ^ 64; omega)
  have h2 : b % 2 ^ IntKind.i64.bits = b := Nat.mod_eq_of_lt (by show b < 2 ^ 64; omega)
  rw [h1, h2]
  exact wraps_i64 _ (Int.natCast_nonneg _) (by omega)
theorem xor64 (x y : W32) : bits .xor .i64 x.toNat y.toNat = ((x ^^^ y).toNat : Int) := by
  have h := w32_lt (x ^^^ y)
  have hx := w32_lt x; have hy := w32_lt y
  simp only [bits, BitVec.ofInt_natCast, BitVec.toNat_xor, BitVec.toNat_ofNat] at *
  have h1 : x.toNat % 2 ^ IntKind.i64.bits = x.toNat := Nat.mod_eq_of_lt (by show _ < 2 ^ 64; omega)
  have h2 : y.toNat % 2 ^ IntKind.i64.bits = y.toNat := Nat.mod_eq_of_lt (by show _ < 2 ^ 64; omega)
  rw [h1, h2]
  exact wraps_i64 _ (Int.natCast_nonneg _) (by omega)
theorem and64 (x y : W32) : bits .and .i64 x.toNat y.toNat = ((x &&& y).toNat : Int) := by
  have h := w32_lt (x &&& y)
  have hx := w32_lt x; have hy := w32_lt y
  simp only [bits, BitVec.ofInt_natCast, BitVec.toNat_and, BitVec.toNat_ofNat] at *
  have h1 : x.toNat % 2 ^ IntKind.i64.bits = x.toNat := Nat.mod_eq_of_lt (by show _ < 2 ^ 64; omega)
  have h2 : y.toNat % 2 ^ IntKind.i64.bits = y.toNat := Nat.mod_eq_of_lt (by show _ < 2 ^ 64; omega)
  rw [h1, h2]
  exact wraps_i64 _ (Int.natCast_nonneg _) (by omega)
/-- what is left of a number of 32 bits, below 0 too -/
theorem low32 (n : Int) : bits .and .i64 n 4294967295 = n % 4294967296 := by
  simp only [bits]
  have e1 : (BitVec.ofInt IntKind.i64.bits n &&& BitVec.ofInt IntKind.i64.bits 4294967295).toNat = (n % 4294967296).toNat := by
    rw [BitVec.toNat_and]
    have e2 : (BitVec.ofInt IntKind.i64.bits 4294967295).toNat = 2 ^ 32 - 1 := by decide
    rw [e2, Nat.and_two_pow_sub_one_eq_mod, BitVec.toNat_ofInt]
    show (n % ((2 ^ 64 : Nat) : Int)).toNat % 2 ^ 32 = _
    omega
  rw [e1]
  have e3 : ((n % 4294967296).toNat : Int) = n % 4294967296 := by omega
  show IntKind.i64.wrap ((n % 4294967296).toNat : Int) = _
  rw [e3]
  exact wraps_i64 _ (by omega) (by omega)
theorem w32of (x : W32) : BitVec.ofInt IntKind.u32.bits (x.toNat : Int) = x := by show BitVec.ofInt 32 _ = _; simp
theorem wrap32of (x : W32) : IntKind.u32.wrap (x.toNat : Int) = x.toNat := by
  have := w32_lt x
  exact IntWalk.u32_in _ (by omega)
theorem xor32 (x y : W32) : bits .xor .u32 x.toNat y.toNat = ((x ^^^ y).toNat : Int) := by
  unfold bits; simp only [w32of]; exact wrap32of _
theorem and32 (x y : W32) : bits .and .u32 x.toNat y.toNat = ((x &&& y).toNat : Int) := by
  unfold bits; simp only [w32of]; exact wrap32of _
theorem or32 (x y : W32) : bits .or .u32 x.toNat y.toNat = ((x ||| y).toNat : Int) := by
  unfold bits; simp only [w32of]; exact wrap32of _
theorem add32 (x y : W32) : ((x.toNat : Int) + y.toNat) % 4294967296 = ((x + y).toNat : Int) := by simp [BitVec.toNat_add]
theorem not32 (x : W32) : (-1 - (x.toNat : Int)) % 4294967296 = ((~~~ x).toNat : Int) := by
  have := w32_lt x
  rw [BitVec.toNat_not]; omega

/- the words' operations, by names that simp leaves alone -/
def wx (a b : W32) : W32 := a ^^^ b
def wa (a b : W32) : W32 := a &&& b
def wp (a b : W32) : W32 := a + b
def wn (a : W32) : W32 := ~~~ a
def sr (a : W32) (n : Nat) : W32 := a >>> n
/-- turned to the right -/
def rr (x : W32) (n : Nat) : W32 := (x >>> n) ||| (x <<< (32 - n))
theorem xor32' (x y : W32) : bits .xor .u32 x.toNat y.toNat = ((wx x y).toNat : Int) := xor32 x y
theorem and32' (x y : W32) : bits .and .u32 x.toNat y.toNat = ((wa x y).toNat : Int) := and32 x y
theorem xor64' (x y : W32) : bits .xor .i64 x.toNat y.toNat = ((wx x y).toNat : Int) := xor64 x y
theorem and64' (x y : W32) : bits .and .i64 x.toNat y.toNat = ((wa x y).toNat : Int) := and64 x y
theorem add32' (x y : W32) : ((x.toNat : Int) + y.toNat) % 4294967296 = ((wp x y).toNat : Int) := add32 x y
theorem not32' (x : W32) : (-1 - (x.toNat : Int)) % 4294967296 = ((wn x).toNat : Int) := not32 x
theorem rr_nat (x : W32) (n : Nat) : (x.toNat >>> n ||| x.toNat <<< (32 - n)) % 4294967296 = (rr x n).toNat := by
  unfold rr
  rw [BitVec.toNat_or, BitVec.toNat_ushiftRight, BitVec.toNat_shiftLeft, show (4294967296 : Nat) = 2 ^ 32 from rfl, Nat.or_mod_two_pow]
  congr 1
  exact Nat.mod_eq_of_lt (Nat.lt_of_le_of_lt (by rw [Nat.shiftRight_eq_div_pow]; exact Nat.div_le_self _ _) x.isLt)
theorem shl32 (x : W32) (n : Nat) : ((x.toNat : Int) * 2 ^ n) % 4294967296 = ((x <<< n).toNat : Int) := by
  rw [BitVec.toNat_shiftLeft, Nat.shiftLeft_eq]
  simp
theorem shr32 (x : W32) (n : Nat) : (x.toNat : Int) / 2 ^ n = ((x >>> n).toNat : Int) := by
  rw [BitVec.toNat_ushiftRight, Nat.shiftRight_eq_div_pow]
  simp
theorem shr32' (x : W32) (n : Nat) : (x.toNat : Int) / 2 ^ n = ((sr x n).toNat : Int) := shr32 x n
theorem shr8 (a : W32) : (a.toNat : Int) / 8 = ((sr a 3).toNat : Int) := shr32' a 3
theorem shr1024 (a : W32) : (a.toNat : Int) / 1024 = ((sr a 10).toNat : Int) := shr32' a 10
theorem notx32 (x : W32) : bits .xor .u32 IntKind.u32.max x.toNat = ((wn x).toNat : Int) := by
  have e : IntKind.u32.max = (((BitVec.allOnes 32 : W32)).toNat : Int) := by decide
  rw [e, xor32]
  unfold wn
  rw [BitVec.allOnes_xor]
theorem or64rr (x : W32) (n : Nat) (h1 : 2 ≤ n) (h2 : n ≤ 32) (a b : Int) (ha : a = (x.toNat : Int) / 2 ^ n) (hb : b = (x.toNat : Int) * 2 ^ (32 - n)) : bits .or .i64 a b % 4294967296 = ((rr x n).toNat : Int) := by
  have hx := w32_lt x
  have e1 : a = ((x.toNat >>> n : Nat) : Int) := by rw [ha, shr32, BitVec.toNat_ushiftRight]
  have e2 : b = ((x.toNat <<< (32 - n) : Nat) : Int) := by rw [hb, Nat.shiftLeft_eq]; simp
  have h3 : x.toNat >>> n < 2 ^ 62 := by
    rw [Nat.shiftRight_eq_div_pow]; exact Nat.lt_of_le_of_lt (Nat.div_le_self _ _) (by omega)
  have h4 : x.toNat <<< (32 - n) < 2 ^ 62 := by
    rw [Nat.shiftLeft_eq]
    have : 2 ^ (32 - n) ≤ 2 ^ 30 := Nat.pow_le_pow_right (by decide) (by omega)
    have h5 : x.toNat * 2 ^ (32 - n) ≤ x.toNat * 2 ^ 30 := Nat.mul_le_mul_left _ this
    omega
  rw [e1, e2, or64 _ _ h3 h4, ← rr_nat x n]
  simp

theorem l3Word_any (n : Int) (w : World) : Calls Tryz.prog 110 #[.int .i64 n] w fun e w' => e = .returned (.int .i64 (n % 4294967296)) ∧ w = w' := by
  have hl := low32 n
  go_enter Tryz.func110, Tryz.ntmps110
  go_wp2
  go_ret
  exact ⟨rfl, rfl⟩
theorem l3Right7 (x : W32) (w : World) : Calls Tryz.prog 109 #[.int .i64 x.toNat, .int .u64 7] w fun e w' => e = .returned (.int .i64 (rr x 7).toNat) ∧ w = w' := by
  have hl := or64rr x 7 (by decide) (by decide) ((x.toNat : Int) / 128) ((x.toNat : Int) * 33554432) (by rw [show (2 : Int) ^ 7 = 128 from rfl]) (by rw [show (2 : Int) ^ (32 - 7) = 33554432 from rfl])
  have hx := w32_lt x
  go_enter Tryz.func109, Tryz.ntmps109
  go_wp2_with (go_at_call 110; (with_reducible refine (l3Word_any _ _).mono ?_); rintro e w' ⟨rfl, rfl⟩)
  go_ret
  exact ⟨rfl, rfl⟩
theorem l3Right18 (x : W32) (w : World) : Calls Tryz.prog 109 #[.int .i64 x.toNat, .int .u64 18] w fun e w' => e = .returned (.int .i64 (rr x 18).toNat) ∧ w = w' := by
  have hl := or64rr x 18 (by decide) (by decide) ((x.toNat : Int) / 262144) ((x.toNat : Int) * 16384) (by rw [show (2 : Int) ^ 18 = 262144 from rfl]) (by rw [show (2 : Int) ^ (32 - 18) = 16384 from rfl])
  have hx := w32_lt x
  go_enter Tryz.func109, Tryz.ntmps109
  go_wp2_with (go_at_call 110; (with_reducible refine (l3Word_any _ _).mono ?_); rintro e w' ⟨rfl, rfl⟩)
  go_ret
  exact ⟨rfl, rfl⟩
theorem l3Right17 (x : W32) (w : World) : Calls Tryz.prog 109 #[.int .i64 x.toNat, .int .u64 17] w fun e w' => e = .returned (.int .i64 (rr x 17).toNat) ∧ w = w' := by
  have hl := or64rr x 17 (by decide) (by decide) ((x.toNat : Int) / 131072) ((x.toNat : Int) * 32768) (by rw [show (2 : Int) ^ 17 = 131072 from rfl]) (by rw [show (2 : Int) ^ (32 - 17) = 32768 from rfl])
  have hx := w32_lt x
  go_enter Tryz.func109, Tryz.ntmps109
  go_wp2_with (go_at_call 110; (with_reducible refine (l3Word_any _ _).mono ?_); rintro e w' ⟨rfl, rfl⟩)
  go_ret
  exact ⟨rfl, rfl⟩
theorem l3Right19 (x : W32) (w : World) : Calls Tryz.prog 109 #[.int .i64 x.toNat, .int .u64 19] w fun e w' => e = .returned (.int .i64 (rr x 19).toNat) ∧ w = w' := by
  have hl := or64rr x 19 (by decide) (by decide) ((x.toNat : Int) / 524288) ((x.toNat : Int) * 8192) (by rw [show (2 : Int) ^ 19 = 524288 from rfl]) (by rw [show (2 : Int) ^ (32 - 19) = 8192 from rfl])
  have hx := w32_lt x
  go_enter Tryz.func109, Tryz.ntmps109
  go_wp2_with (go_at_call 110; (with_reducible refine (l3Word_any _ _).mono ?_); rintro e w' ⟨rfl, rfl⟩)
  go_ret
  exact ⟨rfl, rfl⟩
theorem l3Right6 (x : W32) (w : World) : Calls Tryz.prog 109 #[.int .i64 x.toNat, .int .u64 6] w fun e w' => e = .returned (.int .i64 (rr x 6).toNat) ∧ w = w' := by
  have hl := or64rr x 6 (by decide) (by decide) ((x.toNat : Int) / 64) ((x.toNat : Int) * 67108864) (by rw [show (2 : Int) ^ 6 = 64 from rfl]) (by rw [show (2 : Int) ^ (32 - 6) = 67108864 from rfl])
  have hx := w32_lt x
  go_enter Tryz.func109, Tryz.ntmps109
  go_wp2_with (go_at_call 110; (with_reducible refine (l3Word_any _ _).mono ?_); rintro e w' ⟨rfl, rfl⟩)
  go_ret
  exact ⟨rfl, rfl⟩
theorem l3Right11 (x : W32) (w : World) : Calls Tryz.prog 109 #[.int .i64 x.toNat, .int .u64 11] w fun e w' => e = .returned (.int .i64 (rr x 11).toNat) ∧ w = w' := by
  have hl := or64rr x 11 (by decide) (by decide) ((x.toNat : Int) / 2048) ((x.toNat : Int) * 2097152) (by rw [show (2 : Int) ^ 11 = 2048 from rfl]) (by rw [show (2 : Int) ^ (32 - 11) = 2097152 from rfl])
  have hx := w32_lt x
  go_enter Tryz.func109, Tryz.ntmps109
  go_wp2_with (go_at_call 110; (with_reducible refine (l3Word_any _ _).mono ?_); rintro e w' ⟨rfl, rfl⟩)
  go_ret
  exact ⟨rfl, rfl⟩
theorem l3Right25 (x : W32) (w : World) : Calls Tryz.prog 109 #[.int .i64 x.toNat, .int .u64 25] w fun e w' => e = .returned (.int .i64 (rr x 25).toNat) ∧ w = w' := by
  have hl := or64rr x 25 (by decide) (by decide) ((x.toNat : Int) / 33554432) ((x.toNat : Int) * 128) (by rw [show (2 : Int) ^ 25 = 33554432 from rfl]) (by rw [show (2 : Int) ^ (32 - 25) = 128 from rfl])
  have hx := w32_lt x
  go_enter Tryz.func109, Tryz.ntmps109
  go_wp2_with (go_at_call 110; (with_reducible refine (l3Word_any _ _).mono ?_); rintro e w' ⟨rfl, rfl⟩)
  go_ret
  exact ⟨rfl, rfl⟩
theorem l3Right2 (x : W32) (w : World) : Calls Tryz.prog 109 #[.int .i64 x.toNat, .int .u64 2] w fun e w' => e = .returned (.int .i64 (rr x 2).toNat) ∧ w = w' := by
  have hl := or64rr x 2 (by decide) (by decide) ((x.toNat : Int) / 4) ((x.toNat : Int) * 1073741824) (by rw [show (2 : Int) ^ 2 = 4 from rfl]) (by rw [show (2 : Int) ^ (32 - 2) = 1073741824 from rfl])
  have hx := w32_lt x
  go_enter Tryz.func109, Tryz.ntmps109
  go_wp2_with (go_at_call 110; (with_reducible refine (l3Word_any _ _).mono ?_); rintro e w' ⟨rfl, rfl⟩)
  go_ret
  exact ⟨rfl, rfl⟩
theorem l3Right13 (x : W32) (w : World) : Calls Tryz.prog 109 #[.int .i64 x.toNat, .int .u64 13] w fun e w' => e = .returned (.int .i64 (rr x 13).toNat) ∧ w = w' := by
  have hl := or64rr x 13 (by decide) (by decide) ((x.toNat : Int) / 8192) ((x.toNat : Int) * 524288) (by rw [show (2 : Int) ^ 13 = 8192 from rfl]) (by rw [show (2 : Int) ^ (32 - 13) = 524288 from rfl])
  have hx := w32_lt x
  go_enter Tryz.func109, Tryz.ntmps109
  go_wp2_with (go_at_call 110; (with_reducible refine (l3Word_any _ _).mono ?_); rintro e w' ⟨rfl, rfl⟩)
  go_ret
  exact ⟨rfl, rfl⟩
theorem l3Right22 (x : W32) (w : World) : Calls Tryz.prog 109 #[.int .i64 x.toNat, .int .u64 22] w fun e w' => e = .returned (.int .i64 (rr x 22).toNat) ∧ w = w' := by
  have hl := or64rr x 22 (by decide) (by decide) ((x.toNat : Int) / 4194304) ((x.toNat : Int) * 1024) (by rw [show (2 : Int) ^ 22 = 4194304 from rfl]) (by rw [show (2 : Int) ^ (32 - 22) = 1024 from rfl])
  have hx := w32_lt x
  go_enter Tryz.func109, Tryz.ntmps109
  go_wp2_with (go_at_call 110; (with_reducible refine (l3Word_any _ _).mono ?_); rintro e w' ⟨rfl, rfl⟩)
  go_ret
  exact ⟨rfl, rfl⟩
theorem rot7 (x : W32) (w : World) : Calls Tryz.prog 121 #[.int .u32 x.toNat, .int .i64 (-7)] w fun e w' => e = .returned (.int .u32 (rr x 7).toNat) ∧ w = w' := by
  have hl : bits .and .u64 (IntKind.u64.wrap (-7)) 31 = 25 := by decide
  have hx := w32_lt x
  have f1 := shl32 x 25
  have f2 := shr32 x 7
  rw [show (2 : Int) ^ 25 = 33554432 from rfl] at f1
  rw [show (2 : Int) ^ 7 = 128 from rfl] at f2
  have f3 : bits .or .u32 ((x.toNat : Int) * 33554432 % 4294967296) ((x.toNat : Int) / 128) = ((rr x 7).toNat : Int) := by rw [f1, f2, or32, BitVec.or_comm]; rfl
  clear f1 f2
  go_enter Tryz.func121, Tryz.ntmps121
  go_wp2
  go_ret
  exact ⟨rfl, rfl⟩
theorem rot18 (x : W32) (w : World) : Calls Tryz.prog 121 #[.int .u32 x.toNat, .int .i64 (-18)] w fun e w' => e = .returned (.int .u32 (rr x 18).toNat) ∧ w = w' := by
  have hl : bits .and .u64 (IntKind.u64.wrap (-18)) 31 = 14 := by decide
  have hx := w32_lt x
  have f1 := shl32 x 14
  have f2 := shr32 x 18
  rw [show (2 : Int) ^ 14 = 16384 from rfl] at f1
  rw [show (2 : Int) ^ 18 = 262144 from rfl] at f2
  have f3 : bits .or .u32 ((x.toNat : Int) * 16384 % 4294967296) ((x.toNat : Int) / 262144) = ((rr x 18).toNat : Int) := by rw [f1, f2, or32, BitVec.or_comm]; rfl
  clear f1 f2
  go_enter Tryz.func121, Tryz.ntmps121
  go_wp2
  go_ret
  exact ⟨rfl, rfl⟩
theorem rot17 (x : W32) (w : World) : Calls Tryz.prog 121 #[.int .u32 x.toNat, .int .i64 (-17)] w fun e w' => e = .returned (.int .u32 (rr x 17).toNat) ∧ w = w' := by
  have hl : bits .and .u64 (IntKind.u64.wrap (-17)) 31 = 15 := by decide
  have hx := w32_lt x
  have f1 := shl32 x 15
  have f2 := shr32 x 17
  rw [show (2 : Int) ^ 15 = 32768 from rfl] at f1
  rw [show (2 : Int) ^ 17 = 131072 from rfl] at f2
  have f3 : bits .or .u32 ((x.toNat : Int) * 32768 % 4294967296) ((x.toNat : Int) / 131072) = ((rr x 17).toNat : Int) := by rw [f1, f2, or32, BitVec.or_comm]; rfl
  clear f1 f2
  go_enter Tryz.func121, Tryz.ntmps121
  go_wp2
  go_ret
  exact ⟨rfl, rfl⟩
theorem rot19 (x : W32) (w : World) : Calls Tryz.prog 121 #[.int .u32 x.toNat, .int .i64 (-19)] w fun e w' => e = .returned (.int .u32 (rr x 19).toNat) ∧ w = w' := by
  have hl : bits .and .u64 (IntKind.u64.wrap (-19)) 31 = 13 := by decide
  have hx := w32_lt x
  have f1 := shl32 x 13
  have f2 := shr32 x 19
  rw [show (2 : Int) ^ 13 = 8192 from rfl] at f1
  rw [show (2 : Int) ^ 19 = 524288 from rfl] at f2
  have f3 : bits .or .u32 ((x.toNat : Int) * 8192 % 4294967296) ((x.toNat : Int) / 524288) = ((rr x 19).toNat : Int) := by rw [f1, f2, or32, BitVec.or_comm]; rfl
  clear f1 f2
  go_enter Tryz.func121, Tryz.ntmps121
  go_wp2
  go_ret
  exact ⟨rfl, rfl⟩
theorem rot6 (x : W32) (w : World) : Calls Tryz.prog 121 #[.int .u32 x.toNat, .int .i64 (-6)] w fun e w' => e = .returned (.int .u32 (rr x 6).toNat) ∧ w = w' := by
  have hl : bits .and .u64 (IntKind.u64.wrap (-6)) 31 = 26 := by decide
  have hx := w32_lt x
  have f1 := shl32 x 26
  have f2 := shr32 x 6
  rw [show (2 : Int) ^ 26 = 67108864 from rfl] at f1
  rw [show (2 : Int) ^ 6 = 64 from rfl] at f2
  have f3 : bits .or .u32 ((x.toNat : Int) * 67108864 % 4294967296) ((x.toNat : Int) / 64) = ((rr x 6).toNat : Int) := by rw [f1, f2, or32, BitVec.or_comm]; rfl
  clear f1 f2
  go_enter Tryz.func121, Tryz.ntmps121
  go_wp2
  go_ret
  exact ⟨rfl, rfl⟩
theorem rot11 (x : W32) (w : World) : Calls Tryz.prog 121 #[.int .u32 x.toNat, .int .i64 (-11)] w fun e w' => e = .returned (.int .u32 (rr x 11).toNat) ∧ w = w' := by
  have hl : bits .and .u64 (IntKind.u64.wrap (-11)) 31 = 21 := by decide
  have hx := w32_lt x
  have f1 := shl32 x 21
  have f2 := shr32 x 11
  rw [show (2 : Int) ^ 21 = 2097152 from rfl] at f1
  rw [show (2 : Int) ^ 11 = 2048 from rfl] at f2
  have f3 : bits .or .u32 ((x.toNat : Int) * 2097152 % 4294967296) ((x.toNat : Int) / 2048) = ((rr x 11).toNat : Int) := by rw [f1, f2, or32, BitVec.or_comm]; rfl
  clear f1 f2
  go_enter Tryz.func121, Tryz.ntmps121
  go_wp2
  go_ret
  exact ⟨rfl, rfl⟩
theorem rot25 (x : W32) (w : World) : Calls Tryz.prog 121 #[.int .u32 x.toNat, .int .i64 (-25)] w fun e w' => e = .returned (.int .u32 (rr x 25).toNat) ∧ w = w' := by
  have hl : bits .and .u64 (IntKind.u64.wrap (-25)) 31 = 7 := by decide
  have hx := w32_lt x
  have f1 := shl32 x 7
  have f2 := shr32 x 25
  rw [show (2 : Int) ^ 7 = 128 from rfl] at f1
  rw [show (2 : Int) ^ 25 = 33554432 from rfl] at f2
  have f3 : bits .or .u32 ((x.toNat : Int) * 128 % 4294967296) ((x.toNat : Int) / 33554432) = ((rr x 25).toNat : Int) := by rw [f1, f2, or32, BitVec.or_comm]; rfl
  clear f1 f2
  go_enter Tryz.func121, Tryz.ntmps121
  go_wp2
  go_ret
  exact ⟨rfl, rfl⟩
theorem rot2 (x : W32) (w : World) : Calls Tryz.prog 121 #[.int .u32 x.toNat, .int .i64 (-2)] w fun e w' => e = .returned (.int .u32 (rr x 2).toNat) ∧ w = w' := by
  have hl : bits .and .u64 (IntKind.u64.wrap (-2)) 31 = 30 := by decide
  have hx := w32_lt x
  have f1 := shl32 x 30
  have f2 := shr32 x 2
  rw [show (2 : Int) ^ 30 = 1073741824 from rfl] at f1
  rw [show (2 : Int) ^ 2 = 4 from rfl] at f2
  have f3 : bits .or .u32 ((x.toNat : Int) * 1073741824 % 4294967296) ((x.toNat : Int) / 4) = ((rr x 2).toNat : Int) := by rw [f1, f2, or32, BitVec.or_comm]; rfl
  clear f1 f2
  go_enter Tryz.func121, Tryz.ntmps121
  go_wp2
  go_ret
  exact ⟨rfl, rfl⟩
theorem rot13 (x : W32) (w : World) : Calls Tryz.prog 121 #[.int .u32 x.toNat, .int .i64 (-13)] w fun e w' => e = .returned (.int .u32 (rr x 13).toNat) ∧ w = w' := by
  have hl : bits .and .u64 (IntKind.u64.wrap (-13)) 31 = 19 := by decide
  have hx := w32_lt x
  have f1 := shl32 x 19
  have f2 := shr32 x 13
  rw [show (2 : Int) ^ 19 = 524288 from rfl] at f1
  rw [show (2 : Int) ^ 13 = 8192 from rfl] at f2
  have f3 : bits .or .u32 ((x.toNat : Int) * 524288 % 4294967296) ((x.toNat : Int) / 8192) = ((rr x 13).toNat : Int) := by rw [f1, f2, or32, BitVec.or_comm]; rfl
  clear f1 f2
  go_enter Tryz.func121, Tryz.ntmps121
  go_wp2
  go_ret
  exact ⟨rfl, rfl⟩
theorem rot22 (x : W32) (w : World) : Calls Tryz.prog 121 #[.int .u32 x.toNat, .int .i64 (-22)] w fun e w' => e = .returned (.int .u32 (rr x 22).toNat) ∧ w = w' := by
  have hl : bits .and .u64 (IntKind.u64.wrap (-22)) 31 = 10 := by decide
  have hx := w32_lt x
  have f1 := shl32 x 10
  have f2 := shr32 x 22
  rw [show (2 : Int) ^ 10 = 1024 from rfl] at f1
  rw [show (2 : Int) ^ 22 = 4194304 from rfl] at f2
  have f3 : bits .or .u32 ((x.toNat : Int) * 1024 % 4294967296) ((x.toNat : Int) / 4194304) = ((rr x 22).toNat : Int) := by rw [f1, f2, or32, BitVec.or_comm]; rfl
  clear f1 f2
  go_enter Tryz.func121, Tryz.ntmps121
  go_wp2
  go_ret
  exact ⟨rfl, rfl⟩
end Go.Proofs.YtelnnegfkdfpiaaGreatDoor
