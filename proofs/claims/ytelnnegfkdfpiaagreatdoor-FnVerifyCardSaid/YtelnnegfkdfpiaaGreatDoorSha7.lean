/- The reference's hash of a text. (printed by sha7.py) -/
import Derived.Test.YtelnnegfkdfpiaaGreatDoorSha4
import Derived.Test.YtelnnegfkdfpiaaGreatDoorSha5
import Derived.Test.YtelnnegfkdfpiaaGreatDoorV
import Derived.Deep.RegionHeld3
import Derived.WalkKit
import Derived.WalkSpells
import Derived.WalkLawsBesides
import Derived.Lib.Hide
namespace Go.Proofs.YtelnnegfkdfpiaaGreatDoor
open Go.RowKit

theorem keys_eq : ([.int .i64 1116352408, .int .i64 1899447441, .int .i64 3049323471, .int .i64 3921009573, .int .i64 961987163, .int .i64 1508970993, .int .i64 2453635748, .int .i64 2870763221, .int .i64 3624381080, .int .i64 310598401, .int .i64 607225278, .int .i64 1426881987, .int .i64 1925078388, .int .i64 2162078206, .int .i64 2614888103, .int .i64 3248222580, .int .i64 3835390401, .int .i64 4022224774, .int .i64 264347078, .int .i64 604807628, .int .i64 770255983, .int .i64 1249150122, .int .i64 1555081692, .int .i64 1996064986, .int .i64 2554220882, .int .i64 2821834349, .int .i64 2952996808, .int .i64 3210313671, .int .i64 3336571891, .int .i64 3584528711, .int .i64 113926993, .int .i64 338241895, .int .i64 666307205, .int .i64 773529912, .int .i64 1294757372, .int .i64 1396182291, .int .i64 1695183700, .int .i64 1986661051, .int .i64 2177026350, .int .i64 2456956037, .int .i64 2730485921, .int .i64 2820302411, .int .i64 3259730800, .int .i64 3345764771, .int .i64 3516065817, .int .i64 3600352804, .int .i64 4094571909, .int .i64 275423344, .int .i64 430227734, .int .i64 506948616, .int .i64 659060556, .int .i64 883997877, .int .i64 958139571, .int .i64 1322822218, .int .i64 1537002063, .int .i64 1747873779, .int .i64 1955562222, .int .i64 2024104815, .int .i64 2227730452, .int .i64 2361852424, .int .i64 2428436474, .int .i64 2756734187, .int .i64 3204031479, .int .i64 3329325298] : List Value) = ((List.range 64).map kW).flatMap I1 := by kernel_rfl
set_option maxRecDepth 100000 in
theorem l3Keys_any (w : World) : Calls Tryz.prog 96 #[] w fun e w' => ∃ A c, e = .returned (.slice A 64 c) ∧ RdL I1 1 w' w'.heap.size A 64 c ((List.range 64).map kW) ∧ Below w.heap.size w w' := by
  go_enter Tryz.func96, Tryz.ntmps96
  go_wp2
  go_ret
  refine ⟨_, _, rfl, ⟨by simp, by rw [← keys_eq]; rfl, Nat.le_refl _, by unfold maxLen; omega, fun _ => ⟨w.heap.size, 0, rfl, by rw [World.size_alloc]; omega, fun j hj => ?_⟩⟩, (Below.refl _ _).alloc (Nat.le_refl _) _⟩
  rw [← keys_eq, Nat.zero_add, (show Blk _ w.heap.size 3 _ from heap_alloc_new w _).cell]
  simp
def lenV : Value → Nat
  | .slice _ n _ => n
  | _ => 0
theorem Rd_lit4 (w : World) (u0 u1 u2 u3 : Value) (t : TypeId) : Rd (w.alloc (.cells #[u0, u1, u2, u3] t)) (w.heap.size + 1) (some ⟨w.heap.size, 0, none⟩) 4 4 1 [u0, u1, u2, u3] := by
  refine ⟨by simp, Nat.le_refl _, by unfold maxLen; omega, fun _ => ⟨w.heap.size, 0, rfl, by omega, fun j hj => ?_⟩⟩
  have hb : Blk (w.alloc (.cells #[u0, u1, u2, u3] t)) w.heap.size t #[u0, u1, u2, u3] := heap_alloc_new w _
  rw [hb.cell, Nat.zero_add]; simp
/-- the padding of the reference, up to its k-th byte of the length -/
def padR (n k : Nat) : List UInt8 := 128 :: (List.replicate (zN n) 0 ++ (be 8 (8 * (n : Int))).take k)
theorem padR_len (n k : Nat) (hk : k ≤ 8) : (padR n k).length = 1 + zN n + k := by
  unfold padR
  simp only [List.length_cons, List.length_append, List.length_replicate, List.length_take, be_len]
  omega
theorem padR_next (n k : Nat) (hk : k < 8) : padR n (k + 1) = padR n k ++ [UInt8.ofNat (8 * (n : Int) / 256 ^ (7 - k) % 256).toNat] := by
  have hl : (be 8 (8 * (n : Int))).length = 8 := be_len _ _
  unfold padR
  rw [List.take_succ_eq_append_getElem (by omega), ← List.append_assoc, List.cons_append]
  congr 1
  rcases (by omega : k = 0 ∨ k = 1 ∨ k = 2 ∨ k = 3 ∨ k = 4 ∨ k = 5 ∨ k = 6 ∨ k = 7) with rfl | rfl | rfl | rfl | rfl | rfl | rfl | rfl <;> rfl
theorem padR_all (l : List UInt8) (hl : l.length ≤ 2097152) : l ++ padR l.length 8 = padL l := by
  unfold padR padL
  have e : be 8 (8 * (l.length : Int)) = 0 :: be 7 (8 * (l.length : Int)) := by
    show UInt8.ofNat (8 * (l.length : Int) / 256 ^ 7 % 256).toNat :: be 7 _ = _
    rw [show 8 * (l.length : Int) / 256 ^ 7 = 0 from Int.ediv_eq_zero_of_lt (by omega) (by show _ < (72057594037927936 : Int); omega)]
    rfl
  rw [List.take_of_length_le (by rw [be_len]; omega), e, List.replicate_succ']
  simp
theorem shl_bytes (x : W32) : [Value.int .u8 ((x.toNat : Int) / 16777216), .int .u8 ((x.toNat : Int) / 65536 % 256), .int .u8 ((x.toNat : Int) / 256 % 256), .int .u8 ((x.toNat : Int) % 256)] = (be 4 x.toNat).map byteV := by
  have hx := w32_lt x
  have e : ∀ y : Int, 0 ≤ y → y < 256 → Value.int .u8 y = byteV (UInt8.ofNat y.toNat) := fun y h0 h1 => by unfold byteV; rw [byte_int y h0 h1]
  rw [e _ (by omega) (by omega), e _ (by omega) (by omega), e _ (by omega) (by omega), e _ (by omega) (by omega)]
  simp only [be, List.map_cons, List.map_nil]
  rw [show ((x.toNat : Int) / 256 ^ 3 % 256) = (x.toNat : Int) / 16777216 from by rw [show (256 : Int) ^ 3 = 16777216 from rfl]; omega, show (256 : Int) ^ 2 = 65536 from rfl, show (256 : Int) ^ 1 = 256 from rfl, show (256 : Int) ^ 0 = 1 from rfl, Int.ediv_one]

set_option maxRecDepth 100000 in
set_option maxHeartbeats 1000000 in
theorem sSha_any (s : ByteArray) (w : World) (hs : s.size ≤ 2097152) :
    Calls Tryz.prog 78 #[.string s] w fun e w' => e = .returned (.string ⟨(shaL s.data.toList).toArray⟩) ∧ Below w.heap.size w w' := by
  obtain ⟨i0, hi, hz0, hz1, hz2⟩ := info_parts infoU8
  have hzb : zN s.size ≤ 63 := by unfold zN; omega
  go_enter Tryz.func78, Tryz.ntmps78
  go_wp2_with fail
  go_loopw [4] (fun o wr => ∃ (j : Nat), j ≤ zN s.size ∧ wr.ownsRow w.heap.size 5 1 o (1 + j) ((128 :: List.replicate j (0 : UInt8)).map byteV) ∧ (∃ A c, o = .slice A (1 + j) c) ∧ Below w.heap.size w wr) (fun o _ => zN s.size + 1 - lenV o)
  case atStart => exact ⟨0, by omega, World.ownsRow_lit w #[.int .u8 128] 1 (Nat.le_refl _) (by decide) rfl, ⟨_, _, rfl⟩, (Below.refl _ _).alloc (Nat.le_refl _) _⟩
  case round =>
    obtain ⟨j, hj, hown, ⟨A, c, rfl⟩, hb⟩ := hrel
    have HO := Lib.hid hown; have HB := Lib.hid hb
    have hz := hb.size
    clear hown hb
    by_cases hlt : j < zN s.size
    · have hne : ¬ ((s.size : Int) + (1 + (j : Int))) % 64 = 56 := by unfold zN at hlt; omega
      have hne' : decide (((s.size : Int) + ((1 + j : Nat) : Int)) % 64 = 56) = false := by simp; omega
      go_wp2_with (at_builtin; go_must (refine wpList_app_rd _ rfl _ _ _ rfl w.heap.size 5 i0 _ 1 1 Tryz.underlying22 hi hz0 hz1 hz2 rfl (by decide) (.slice A (1 + j) c) (1 + j) _ rfl (by exact HO.out.alloc _) _ _ 1 1 _ rfl (by exact (Rd_oneI _ #[.int .u8 0] 5 1 rfl _ rfl)) (by simp [Value.oneCell']) (by unfold maxLen; omega) (by omega) (by first | (simp; done) | omega | (simp; omega)) ?_))
      intro v3 w6 hown hg _
      have hown : w6.ownsRow w.heap.size 5 1 v3 (1 + (j + 1)) ((128 :: List.replicate (j + 1) (0 : UInt8)).map byteV) := by
        rw [List.replicate_succ', ← List.cons_append, ← Nat.add_assoc]
        have h2 := hown
        simp only [List.map_append, List.map_cons, List.map_nil, List.map_replicate, List.cons_append] at h2 ⊢
        exact h2
      have HO3 := Lib.hid hown
      have HB6 : Hid (Below w.heap.size w w6) := (HB.out.alloc hz _).grown hg (by simp; omega) (fun g h => (HO.out.lt g h).1)
      obtain ⟨g3, c3, rfl, _, _⟩ := hown.form (by omega)
      clear hown hg
      go_wp2_with fail
      go_roundw
      case rel => exact ⟨j + 1, by omega, HO3.out, ⟨_, _, rfl⟩, HB6.out⟩
      case measure => simp [lenV]; omega
    · obtain rfl : j = zN s.size := by omega
      have heq : ((s.size : Int) + (1 + ((zN s.size : Nat) : Int))) % 64 = 56 := by unfold zN; omega
      have hall : (128 :: List.replicate (zN s.size) (0 : UInt8)) = padR s.size 0 := by unfold padR; simp
      rw [hall] at HO
      clear hall hlt hj
      obtain ⟨w1, hw1⟩ : ∃ x, x = wr := ⟨_, rfl⟩
      subst hw1
      have hb8 : (padR s.size 8).length ≤ 80 := by rw [padR_len _ _ (by omega)]; omega
      have HPe : Hid (s ++ ⟨(padR s.size 8).toArray⟩ = (⟨(padL s.data.toList).toArray⟩ : ByteArray)) := by
        show _ = _
        rw [list_bytes s, bcat, ← padR_all _ (by rw [← size_list]; exact hs)]
        simp
      go_wp2_with fail
      clear heq
      go_loopw [4, 5] (fun o i wr => ∃ (k : Nat), k ≤ 8 ∧ i = .int .i64 k ∧ wr.ownsRow w.heap.size 5 1 o (1 + zN s.size + k) ((padR s.size k).map byteV) ∧ Below w.heap.size w wr) (fun _ i _ => 8 - (intOf i).toNat)
      case atStart => exact ⟨0, by omega, rfl, HO.out, HB.out⟩
      case round =>
        clear HO HB hz
        obtain ⟨k, hk, rfl, hown, hb⟩ := hrel
        have HO := Lib.hid hown; have HB := Lib.hid hb
        have hz := hb.size
        clear hown hb
        by_cases hlt : k < 8
        · have HN := Lib.hid (padR_next s.size k hlt)
          rcases (by omega : k = 0 ∨ k = 1 ∨ k = 2 ∨ k = 3 ∨ k = 4 ∨ k = 5 ∨ k = 6 ∨ k = 7) with rfl | rfl | rfl | rfl | rfl | rfl | rfl | rfl
          · have ha : bits .and .i64 ((s.size : Int) * 8 / 72057594037927936) 255 = (s.size : Int) * 8 / 72057594037927936 % 256 := i64_and255 _ (by omega) (by omega)
            go_wp2_with (at_builtin; go_must (refine wpList_app_rd _ rfl _ _ _ rfl w.heap.size 5 i0 _ 1 1 Tryz.underlying22 hi hz0 hz1 hz2 rfl (by decide) _ (1 + zN s.size + 0) _ rfl (by exact HO.out.alloc _) _ _ 1 1 _ rfl (by exact (Rd_oneI _ #[_] 5 1 rfl _ rfl)) (by simp [Value.oneCell']) (by unfold maxLen; omega) (by omega) (by first | (simp; done) | omega | (simp; omega)) ?_))
            intro v3 w6 hown hg _
            have hown : w6.ownsRow w.heap.size 5 1 v3 (1 + zN s.size + 1) ((padR s.size 1).map byteV) := by
              rw [HN.out, List.map_append]
              have e : Value.int .u8 ((s.size : Int) * 8 / 72057594037927936 % 256) = byteV (UInt8.ofNat (8 * (s.size : Int) / 256 ^ (7 - 0) % 256).toNat) := by
                unfold byteV
                rw [byte_int _ (by omega) (by omega)]
                rw [show (256 : Int) ^ (7 - 0) = 72057594037927936 from rfl, Int.mul_comm 8]
                (try simp)
              have h2 := hown
              simp only [List.map_cons, List.map_nil] at h2 ⊢
              rw [← e]
              exact h2
            have HO3 := Lib.hid hown
            have HB6 : Hid (Below w.heap.size w w6) := (HB.out.alloc hz _).grown hg (by simp; omega) (fun g h => (HO.out.lt g h).1)
            clear hown hg
            go_wp2_with fail
            go_roundw
            case rel => exact ⟨1, by omega, rfl, HO3.out, HB6.out⟩
            case measure => simp [intOf]
          · have ha : bits .and .i64 ((s.size : Int) * 8 / 281474976710656) 255 = (s.size : Int) * 8 / 281474976710656 % 256 := i64_and255 _ (by omega) (by omega)
            go_wp2_with (at_builtin; go_must (refine wpList_app_rd _ rfl _ _ _ rfl w.heap.size 5 i0 _ 1 1 Tryz.underlying22 hi hz0 hz1 hz2 rfl (by decide) _ (1 + zN s.size + 1) _ rfl (by exact HO.out.alloc _) _ _ 1 1 _ rfl (by exact (Rd_oneI _ #[_] 5 1 rfl _ rfl)) (by simp [Value.oneCell']) (by unfold maxLen; omega) (by omega) (by first | (simp; done) | omega | (simp; omega)) ?_))
            intro v3 w6 hown hg _
            have hown : w6.ownsRow w.heap.size 5 1 v3 (1 + zN s.size + 2) ((padR s.size 2).map byteV) := by
              rw [HN.out, List.map_append]
              have e : Value.int .u8 ((s.size : Int) * 8 / 281474976710656 % 256) = byteV (UInt8.ofNat (8 * (s.size : Int) / 256 ^ (7 - 1) % 256).toNat) := by
                unfold byteV
                rw [byte_int _ (by omega) (by omega)]
                rw [show (256 : Int) ^ (7 - 1) = 281474976710656 from rfl, Int.mul_comm 8]
                (try simp)
              have h2 := hown
              simp only [List.map_cons, List.map_nil] at h2 ⊢
              rw [← e]
              exact h2
            have HO3 := Lib.hid hown
            have HB6 : Hid (Below w.heap.size w w6) := (HB.out.alloc hz _).grown hg (by simp; omega) (fun g h => (HO.out.lt g h).1)
            clear hown hg
            go_wp2_with fail
            go_roundw
            case rel => exact ⟨2, by omega, rfl, HO3.out, HB6.out⟩
            case measure => simp [intOf]
          · have ha : bits .and .i64 ((s.size : Int) * 8 / 1099511627776) 255 = (s.size : Int) * 8 / 1099511627776 % 256 := i64_and255 _ (by omega) (by omega)
            go_wp2_with (at_builtin; go_must (refine wpList_app_rd _ rfl _ _ _ rfl w.heap.size 5 i0 _ 1 1 Tryz.underlying22 hi hz0 hz1 hz2 rfl (by decide) _ (1 + zN s.size + 2) _ rfl (by exact HO.out.alloc _) _ _ 1 1 _ rfl (by exact (Rd_oneI _ #[_] 5 1 rfl _ rfl)) (by simp [Value.oneCell']) (by unfold maxLen; omega) (by omega) (by first | (simp; done) | omega | (simp; omega)) ?_))
            intro v3 w6 hown hg _
            have hown : w6.ownsRow w.heap.size 5 1 v3 (1 + zN s.size + 3) ((padR s.size 3).map byteV) := by
              rw [HN.out, List.map_append]
              have e : Value.int .u8 ((s.size : Int) * 8 / 1099511627776 % 256) = byteV (UInt8.ofNat (8 * (s.size : Int) / 256 ^ (7 - 2) % 256).toNat) := by
                unfold byteV
                rw [byte_int _ (by omega) (by omega)]
                rw [show (256 : Int) ^ (7 - 2) = 1099511627776 from rfl, Int.mul_comm 8]
                (try simp)
              have h2 := hown
              simp only [List.map_cons, List.map_nil] at h2 ⊢
              rw [← e]
              exact h2
            have HO3 := Lib.hid hown
            have HB6 : Hid (Below w.heap.size w w6) := (HB.out.alloc hz _).grown hg (by simp; omega) (fun g h => (HO.out.lt g h).1)
            clear hown hg
            go_wp2_with fail
            go_roundw
            case rel => exact ⟨3, by omega, rfl, HO3.out, HB6.out⟩
            case measure => simp [intOf]
          · have ha : bits .and .i64 ((s.size : Int) * 8 / 4294967296) 255 = (s.size : Int) * 8 / 4294967296 % 256 := i64_and255 _ (by omega) (by omega)
            go_wp2_with (at_builtin; go_must (refine wpList_app_rd _ rfl _ _ _ rfl w.heap.size 5 i0 _ 1 1 Tryz.underlying22 hi hz0 hz1 hz2 rfl (by decide) _ (1 + zN s.size + 3) _ rfl (by exact HO.out.alloc _) _ _ 1 1 _ rfl (by exact (Rd_oneI _ #[_] 5 1 rfl _ rfl)) (by simp [Value.oneCell']) (by unfold maxLen; omega) (by omega) (by first | (simp; done) | omega | (simp; omega)) ?_))
            intro v3 w6 hown hg _
            have hown : w6.ownsRow w.heap.size 5 1 v3 (1 + zN s.size + 4) ((padR s.size 4).map byteV) := by
              rw [HN.out, List.map_append]
              have e : Value.int .u8 ((s.size : Int) * 8 / 4294967296 % 256) = byteV (UInt8.ofNat (8 * (s.size : Int) / 256 ^ (7 - 3) % 256).toNat) := by
                unfold byteV
                rw [byte_int _ (by omega) (by omega)]
                rw [show (256 : Int) ^ (7 - 3) = 4294967296 from rfl, Int.mul_comm 8]
                (try simp)
              have h2 := hown
              simp only [List.map_cons, List.map_nil] at h2 ⊢
              rw [← e]
              exact h2
            have HO3 := Lib.hid hown
            have HB6 : Hid (Below w.heap.size w w6) := (HB.out.alloc hz _).grown hg (by simp; omega) (fun g h => (HO.out.lt g h).1)
            clear hown hg
            go_wp2_with fail
            go_roundw
            case rel => exact ⟨4, by omega, rfl, HO3.out, HB6.out⟩
            case measure => simp [intOf]
          · have ha : bits .and .i64 ((s.size : Int) * 8 / 16777216) 255 = (s.size : Int) * 8 / 16777216 % 256 := i64_and255 _ (by omega) (by omega)
            go_wp2_with (at_builtin; go_must (refine wpList_app_rd _ rfl _ _ _ rfl w.heap.size 5 i0 _ 1 1 Tryz.underlying22 hi hz0 hz1 hz2 rfl (by decide) _ (1 + zN s.size + 4) _ rfl (by exact HO.out.alloc _) _ _ 1 1 _ rfl (by exact (Rd_oneI _ #[_] 5 1 rfl _ rfl)) (by simp [Value.oneCell']) (by unfold maxLen; omega) (by omega) (by first | (simp; done) | omega | (simp; omega)) ?_))
            intro v3 w6 hown hg _
            have hown : w6.ownsRow w.heap.size 5 1 v3 (1 + zN s.size + 5) ((padR s.size 5).map byteV) := by
              rw [HN.out, List.map_append]
              have e : Value.int .u8 ((s.size : Int) * 8 / 16777216 % 256) = byteV (UInt8.ofNat (8 * (s.size : Int) / 256 ^ (7 - 4) % 256).toNat) := by
                unfold byteV
                rw [byte_int _ (by omega) (by omega)]
                rw [show (256 : Int) ^ (7 - 4) = 16777216 from rfl, Int.mul_comm 8]
                (try simp)
              have h2 := hown
              simp only [List.map_cons, List.map_nil] at h2 ⊢
              rw [← e]
              exact h2
            have HO3 := Lib.hid hown
            have HB6 : Hid (Below w.heap.size w w6) := (HB.out.alloc hz _).grown hg (by simp; omega) (fun g h => (HO.out.lt g h).1)
            clear hown hg
            go_wp2_with fail
            go_roundw
            case rel => exact ⟨5, by omega, rfl, HO3.out, HB6.out⟩
            case measure => simp [intOf]
          · have ha : bits .and .i64 ((s.size : Int) * 8 / 65536) 255 = (s.size : Int) * 8 / 65536 % 256 := i64_and255 _ (by omega) (by omega)
            go_wp2_with (at_builtin; go_must (refine wpList_app_rd _ rfl _ _ _ rfl w.heap.size 5 i0 _ 1 1 Tryz.underlying22 hi hz0 hz1 hz2 rfl (by decide) _ (1 + zN s.size + 5) _ rfl (by exact HO.out.alloc _) _ _ 1 1 _ rfl (by exact (Rd_oneI _ #[_] 5 1 rfl _ rfl)) (by simp [Value.oneCell']) (by unfold maxLen; omega) (by omega) (by first | (simp; done) | omega | (simp; omega)) ?_))
            intro v3 w6 hown hg _
            have hown : w6.ownsRow w.heap.size 5 1 v3 (1 + zN s.size + 6) ((padR s.size 6).map byteV) := by
              rw [HN.out, List.map_append]
              have e : Value.int .u8 ((s.size : Int) * 8 / 65536 % 256) = byteV (UInt8.ofNat (8 * (s.size : Int) / 256 ^ (7 - 5) % 256).toNat) := by
                unfold byteV
                rw [byte_int _ (by omega) (by omega)]
                rw [show (256 : Int) ^ (7 - 5) = 65536 from rfl, Int.mul_comm 8]
                (try simp)
              have h2 := hown
              simp only [List.map_cons, List.map_nil] at h2 ⊢
              rw [← e]
              exact h2
            have HO3 := Lib.hid hown
            have HB6 : Hid (Below w.heap.size w w6) := (HB.out.alloc hz _).grown hg (by simp; omega) (fun g h => (HO.out.lt g h).1)
            clear hown hg
            go_wp2_with fail
            go_roundw
            case rel => exact ⟨6, by omega, rfl, HO3.out, HB6.out⟩
            case measure => simp [intOf]
          · have ha : bits .and .i64 ((s.size : Int) * 8 / 256) 255 = (s.size : Int) * 8 / 256 % 256 := i64_and255 _ (by omega) (by omega)
            go_wp2_with (at_builtin; go_must (refine wpList_app_rd _ rfl _ _ _ rfl w.heap.size 5 i0 _ 1 1 Tryz.underlying22 hi hz0 hz1 hz2 rfl (by decide) _ (1 + zN s.size + 6) _ rfl (by exact HO.out.alloc _) _ _ 1 1 _ rfl (by exact (Rd_oneI _ #[_] 5 1 rfl _ rfl)) (by simp [Value.oneCell']) (by unfold maxLen; omega) (by omega) (by first | (simp; done) | omega | (simp; omega)) ?_))
            intro v3 w6 hown hg _
            have hown : w6.ownsRow w.heap.size 5 1 v3 (1 + zN s.size + 7) ((padR s.size 7).map byteV) := by
              rw [HN.out, List.map_append]
              have e : Value.int .u8 ((s.size : Int) * 8 / 256 % 256) = byteV (UInt8.ofNat (8 * (s.size : Int) / 256 ^ (7 - 6) % 256).toNat) := by
                unfold byteV
                rw [byte_int _ (by omega) (by omega)]
                rw [show (256 : Int) ^ (7 - 6) = 256 from rfl, Int.mul_comm 8]
                (try simp)
              have h2 := hown
              simp only [List.map_cons, List.map_nil] at h2 ⊢
              rw [← e]
              exact h2
            have HO3 := Lib.hid hown
            have HB6 : Hid (Below w.heap.size w w6) := (HB.out.alloc hz _).grown hg (by simp; omega) (fun g h => (HO.out.lt g h).1)
            clear hown hg
            go_wp2_with fail
            go_roundw
            case rel => exact ⟨7, by omega, rfl, HO3.out, HB6.out⟩
            case measure => simp [intOf]
          · have ha : bits .and .i64 ((s.size : Int) * 8) 255 = (s.size : Int) * 8 % 256 := i64_and255 _ (by omega) (by omega)
            go_wp2_with (at_builtin; go_must (refine wpList_app_rd _ rfl _ _ _ rfl w.heap.size 5 i0 _ 1 1 Tryz.underlying22 hi hz0 hz1 hz2 rfl (by decide) _ (1 + zN s.size + 7) _ rfl (by exact HO.out.alloc _) _ _ 1 1 _ rfl (by exact (Rd_oneI _ #[_] 5 1 rfl _ rfl)) (by simp [Value.oneCell']) (by unfold maxLen; omega) (by omega) (by first | (simp; done) | omega | (simp; omega)) ?_))
            intro v3 w6 hown hg _
            have hown : w6.ownsRow w.heap.size 5 1 v3 (1 + zN s.size + 8) ((padR s.size 8).map byteV) := by
              rw [HN.out, List.map_append]
              have e : Value.int .u8 ((s.size : Int) * 8 % 256) = byteV (UInt8.ofNat (8 * (s.size : Int) / 256 ^ (7 - 7) % 256).toNat) := by
                unfold byteV
                rw [byte_int _ (by omega) (by omega)]
                rw [show (256 : Int) ^ (7 - 7) = 1 from rfl, Int.mul_comm 8]
                (try simp)
              have h2 := hown
              simp only [List.map_cons, List.map_nil] at h2 ⊢
              rw [← e]
              exact h2
            have HO3 := Lib.hid hown
            have HB6 : Hid (Below w.heap.size w w6) := (HB.out.alloc hz _).grown hg (by simp; omega) (fun g h => (HO.out.lt g h).1)
            clear hown hg
            go_wp2_with fail
            go_roundw
            case rel => exact ⟨8, by omega, rfl, HO3.out, HB6.out⟩
            case measure => simp [intOf]
        · obtain rfl : k = 8 := by omega
          have kc := conv_own (l := padR s.size 8) (by rw [padR_len _ _ (by omega)]; exact HO.out) (by rw [padR_len _ _ (by omega)]; omega)
          have HPL := Lib.hid (padL_len s.data.toList)
          have HPB : Hid ((padL s.data.toList).length ≤ 2097225) := by
            have := padL_bd s.data.toList
            show _ ≤ _
            rw [← size_list] at this; omega
          have HRes : Hid (shaL s.data.toList = outS (shaFold (padL s.data.toList) ((padL s.data.toList).length / 64))) := rfl
          have hPe := HPe.out
          clear HPe HO
          generalize padL s.data.toList = P at *
          generalize hN : P.length / 64 = N at *
          have hPN : P.length = 64 * N := HPL.out
          have hNb : N ≤ 32769 := by have := HPB.out; omega
          clear hN hk hlt
          obtain ⟨w2, hw2⟩ : ∃ x, x = wr := ⟨_, rfl⟩
          subst hw2
          have HST : Hid (RdL I1 1 (w2.alloc (.cells #[.int .i64 1779033703, .int .i64 3144134277, .int .i64 1013904242, .int .i64 2773480762, .int .i64 1359893119, .int .i64 2600822924, .int .i64 528734635, .int .i64 1541459225] 3)) (w2.heap.size + 1) (some ⟨w2.heap.size, 0, none⟩) 8 8 st0.l) := I1_lit8 w2 st0 _ (Nat.lt_succ_self _)
          go_wp2_with (go_at_call 96; (with_reducible refine (l3Keys_any _).mono ?_); rintro e wk ⟨Ak, ck, rfl, hk, hbk⟩)
          have HKR := Lib.hid hk
          have HBK : Hid (Below w.heap.size w wk) := (HB.out.alloc hz _).trans (hbk.mono (by rw [World.size_alloc]; omega))
          have HS0 : Hid (RdL I1 1 wk wk.heap.size (some ⟨w2.heap.size, 0, none⟩) 8 8 st0.l) := (HST.out.below hbk (by rw [World.size_alloc]; exact Nat.le_refl _)).more (by have := hbk.size; rw [World.size_alloc] at this; exact this)
          have hzk : w.heap.size ≤ wk.heap.size := HBK.out.size
          clear hk hbk HST kc hPe
          go_loopw [7, 9] (fun h i wr => ∃ (k : Nat) (A : Option Addr) (c : Nat), k ≤ N ∧ i = .int .i64 (64 * (k : Int)) ∧ h = .slice A 8 c ∧ RdL I1 1 wr wr.heap.size A 8 c (shaFold P k).l ∧ Below wk.heap.size wk wr) (fun _ i _ => 64 * N - (intOf i).toNat)
          case atStart => exact ⟨0, _, _, by omega, by simp, rfl, HS0.out, Below.refl _ _⟩
          case round =>
            obtain ⟨k, A, c, hk, rfl, rfl, hrd, hb⟩ := hrel
            have HRD := Lib.hid hrd; have HB3 := Lib.hid hb
            have hz3 := hb.size
            clear hrd hb
            by_cases hlt : k < N
            · have hsz : 64 * (k : Int) + 64 ≤ (P.length : Int) := by omega
              have hsz0 : 0 ≤ 64 * (k : Int) := by omega
              have hsz1 : 64 * (k : Int) ≤ 64 * (k : Int) + 64 := by omega
              have hsz2 : 0 ≤ 64 * (k : Int) + 64 := by omega
              have HX := Lib.hid (extract_list64 ⟨P.toArray⟩ (64 * k) (64 * k + 64))
              have HSB : Hid (Calls Tryz.prog 97 #[.slice A 8 c, .string ((⟨P.toArray⟩ : ByteArray).extract (64 * k) (64 * k + 64)), .slice Ak 64 ck] wr fun e w' =>
                  ∃ A' c', e = .returned (.slice A' 8 c') ∧ RdL I1 1 w' w'.heap.size A' 8 c' (shaFold P (k + 1)).l ∧ Below wr.heap.size wr w') := by
                have h2 := l3Block_any (shaFold P k) ((⟨P.toArray⟩ : ByteArray).extract (64 * k) (64 * k + 64)) A Ak wr.heap.size c ck wr (by rw [ByteArray.size_extract, size_list]; simp; omega) HRD.out ((HKR.out.below HB3.out (Nat.le_refl _)).more hz3) (Nat.le_refl _)
                rw [HX.out, show 64 * k + 64 - 64 * k = 64 from by omega] at h2
                exact h2
              go_wp2_with (go_at_call 97; (with_reducible refine HSB.out.mono ?_); rintro e w5 ⟨A5, c5, rfl, h5, hb5⟩)
              go_roundw
              case rel => exact ⟨k + 1, A5, c5, by omega, by rw [show (64 * ((k + 1 : Nat) : Int)) = 64 * (k : Int) + 64 from by omega], rfl, h5, HB3.out.trans (hb5.mono hz3)⟩
              case measure => simp [intOf]; omega
            · obtain rfl : k = N := by omega
              clear hk hlt
              obtain ⟨w5, hw5⟩ : ∃ x, x = wr := ⟨_, rfl⟩
              subst hw5
              generalize hv : shaFold P k = v at *
              have HV := Lib.hid hv; clear hv
              obtain ⟨b2, o2, rfl, hb2, hc2⟩ := I1_cells HRD.out (by decide)
              have HC2 := Lib.hid hc2; clear hc2
              go_wp2_with fail
              go_loopw [10, 11] (fun o i wr => ∃ (k : Nat), k ≤ 8 ∧ i = .int .i64 k ∧ wr.ownsRow w5.heap.size 5 1 o (4 * k) ((bytesTo v k).map byteV) ∧ Below w5.heap.size w5 wr) (fun _ i _ => 8 - (intOf i).toNat)
              case atStart => exact ⟨0, by omega, rfl, World.ownsRow_lit w5 #[] 0 (Nat.le_refl _) (by decide) rfl, (Below.refl _ _).alloc (Nat.le_refl _) _⟩
              case round =>
                obtain ⟨j, hj, rfl, hown, hb⟩ := hrel
                have HO := Lib.hid hown; have HB4 := Lib.hid hb
                have hz6 := hb.size
                clear hown hb
                by_cases hlt : j < 8
                · have tr5 : w5.cell? ⟨b2, o2 + j, none⟩ = some (.int .i64 (v.l.getD j 0).toNat) := HC2.out j hlt
                  have tr : wr.cell? ⟨b2, o2 + j, none⟩ = some (.int .i64 (v.l.getD j 0).toNat) := by
                    rw [HB4.out.cell (p := ⟨b2, o2 + j, none⟩) hb2]
                    exact HC2.out j hlt
                  have HN := Lib.hid (bytesTo_next v j hlt)
                  generalize hx : v.l.getD j 0 = x at tr tr5 HN
                  clear hx
                  have hxb := w32_lt x
                  have r0 : 0 ≤ (j : Int) := by omega
                  have r1 : (j : Int) < 8 := by omega
                  have HSL := Lib.hid (shl_bytes x)
                  have f1 : bits .and .i64 ((x.toNat : Int) / 65536) 255 = (x.toNat : Int) / 65536 % 256 := i64_and255 _ (by omega) (by omega)
                  have f2 : bits .and .i64 ((x.toNat : Int) / 256) 255 = (x.toNat : Int) / 256 % 256 := i64_and255 _ (by omega) (by omega)
                  have f3 : bits .and .i64 (x.toNat : Int) 255 = (x.toNat : Int) % 256 := i64_and255 _ (by omega) (by omega)
                  go_wp2_with fail
                  have hb2r : b2 < wr.heap.size := by omega
                  have u1 : IntKind.u8.wrap ((x.toNat : Int) / 16777216) = (x.toNat : Int) / 16777216 := IntWalk.u8_in _ (by omega)
                  have u2 : IntKind.u8.wrap ((x.toNat : Int) / 65536 % 256) = (x.toNat : Int) / 65536 % 256 := IntWalk.u8_in _ (by omega)
                  have u3 : IntKind.u8.wrap ((x.toNat : Int) / 256 % 256) = (x.toNat : Int) / 256 % 256 := IntWalk.u8_in _ (by omega)
                  have u4 : IntKind.u8.wrap ((x.toNat : Int) % 256) = (x.toNat : Int) % 256 := IntWalk.u8_in _ (by omega)
                  go_region_held3 (fun w => w.cell? ⟨b2, o2 + j, none⟩ = some (.int .i64 x.toNat)) (first | exact tr | exact tr6 | (show World.cell? (World.alloc wr _) _ = _; rw [World.cell?_alloc_lt _ _ _ (by exact hb2r)]; exact tr)) (first
                    | ((refine step_app_rd _ rfl _ _ _ rfl w5.heap.size 5 i0 _ 1 1 Tryz.underlying22 hi hz0 hz1 hz2 rfl (by decide) _ (4 * j) _ rfl (by show World.ownsRow (World.drew _) _ _ _ _ _ _; exact (show World.ownsRow (World.alloc wr _) _ _ _ _ _ _ from HO.out.alloc _)) (wr.heap.size + 1) _ 4 4 _ rfl (by exact (Rd_lit4 wr _ _ _ _ _).drew) (by simp [Value.oneCell']) (by unfold maxLen; omega) (by omega) (by first | (simp; done) | omega | (simp; omega)) ?_)
                       intro v3 w6 hown hg hat
                       have HOW := Lib.hid hown
                       have HB6 : Hid (Below w5.heap.size w5 w6) := by
                         refine Below.grown (a := w5) ?_ hg ?_ ?_
                         · exact (HB4.out.alloc hz6 _).drew
                         · first | omega | (simp; done) | (simp; omega)
                         · exact fun g h => (HO.out.lt g h).1
                       have tr6 : w6.cell? ⟨b2, o2 + j, none⟩ = some (.int .i64 x.toNat) := by rw [HB6.out.cell (p := ⟨b2, o2 + j, none⟩) hb2]; exact tr5
                       clear hown hg hat))
                  go_wp2_with fail
                  go_roundw
                  case rel => exact ⟨j + 1, by omega, by go_num, by rw [HN.out, List.map_append, ← HSL.out, show 4 * (j + 1) = 4 * j + 4 from by omega]; exact HOW.out, HB6.out⟩
                  case measure => simp [intOf]; omega
                · obtain rfl : j = 8 := by omega
                  have kc := conv_own (l := bytesTo v 8) (by rw [bytesTo_len _ _ (by omega)]; exact HO.out) (by rw [bytesTo_len _ _ (by omega)]; omega)
                  go_wp2_with fail
                  go_ret
                  refine ⟨?_, HBK.out.trans ((HB3.out.trans (HB4.out.mono hz3)).mono hzk)⟩
                  rw [HRes.out, ← bytesTo_all]
                  rfl
end Go.Proofs.YtelnnegfkdfpiaaGreatDoor
