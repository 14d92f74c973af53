import Derived.Test.YtelnnegfkdfpiaaGreatDoorW
import Derived.Laws.BitsLemmas
import Derived.WalkKit
import Derived.WalkSpells
import Derived.WalkLawsBesides
import Derived.Lib.Hide
namespace Go.Proofs.YtelnnegfkdfpiaaGreatDoor
open Go.RowKit
theorem infoU8 : (Tryz.prog.info? 5).map (fun i => (i.zero, i.size, i.bytes)) = some (some (.int .u8 0), 1, 1) := by kernel_rfl

theorem wrapP (k0 : Nat) (h1 : 1 ≤ k0) (h7 : k0 ≤ 7) : wrap64 (2 ^ (8 * k0)) = 256 ^ k0 := by
  rcases (by omega : k0 = 1 ∨ k0 = 2 ∨ k0 = 3 ∨ k0 = 4 ∨ k0 = 5 ∨ k0 = 6 ∨ k0 = 7) with rfl | rfl | rfl | rfl | rfl | rfl | rfl <;> decide +kernel
theorem wraps_i64 (n : Int) (h₀ : 0 ≤ n) (h₁ : n < 2 ^ 63) : IntKind.i64.wrap n = n := by rw [IntKind.wrap_i64]; omega
theorem i64_and255 (x : Int) (h₀ : 0 ≤ x) (h₁ : x < 2 ^ 63) : bits .and .i64 x 255 = x % 256 := bits_mask .i64 63 (by decide) wraps_i64 8 (by decide) x h₀ h₁
theorem drop_set {α : Type} (cur : Array α) (j : Nat) (v : α) (h : j < cur.size) : (cur.setIfInBounds j v).toList.drop j = v :: cur.toList.drop (j + 1) := by
  rw [Array.toList_setIfInBounds, List.drop_set]
  simp only [Nat.lt_irrefl, if_false, Nat.sub_self]
  rw [List.drop_eq_getElem_cons (by simpa using h)]
  rfl
def byteC (b : UInt8) : List Value := [.int .u8 b.toNat]

set_option maxRecDepth 100000 in
set_option maxHeartbeats 400000 in
theorem Fixed_any (n : Int) (k0 : Nat) (w : World) (h1 : 1 ≤ k0) (h7 : k0 ≤ 7) (h0 : 0 ≤ n) (hn : n < 256 ^ k0) :
    Calls Tryz.prog 111 #[.int .i64 n, .int .i64 k0] w fun e w' => e = .returned (.string ⟨(be k0 n).toArray⟩) ∧ Below w.heap.size w w' := by
  have hk : inB k0 1 7 = true := by simp [inB]; omega
  have HN := Lib.hid hn
  have hd : decide (n < 0) = false := by simp; omega
  have hp : decide (wrap64 (2 ^ (8 * k0)) ≤ n) = false := by rw [wrapP k0 h1 h7]; simp; omega
  clear hn
  obtain ⟨i0, hi, hz0, hz1, hz2⟩ := info_parts infoU8
  obtain ⟨w1, hrun, hown, hg⟩ := run_make_full (P := Tryz.prog) w w.heap.size 22 5 i0 _ 1 Tryz.underlying22 hi hz0 hz1 .i64 .i64 k0 (by rw [hz2]; omega) (by unfold maxLen; omega) (Nat.le_refl _)
  have HB : Hid (Below w.heap.size w w1) := (Below.refl _ _).grown hg (Nat.le_refl _) (fun k hk => by cases hk)
  have HO := Lib.hid (Laid.start byteC 1 (be k0 n) k0 hown)
  clear hown hg hi hz0 hz1 hz2
  go_enter Tryz.func111, Tryz.ntmps111
  go_wp2_with (go_at_call 88; (with_reducible refine (within_any _ _ _ _).mono ?_); rintro e w' ⟨rfl, rfl⟩)
  clear hrun
  go_loopw [0, 6] (fun m i wr => ∃ j k : Nat, j + k = k0 ∧ m = .int .i64 (n / 256 ^ k) ∧ i = .int .i64 ((j : Int) - 1) ∧ Below w.heap.size w wr ∧ w.heap.size < wr.heap.size ∧ ∃ cur : Array Value, Blk wr w.heap.size 5 cur ∧ cur.size = k0 ∧ cur.toList.drop j = (be k n).flatMap byteC) (fun _ i _ => (intOf i + 1).toNat)
  case atStart =>
    obtain ⟨cur, c1, c2, _⟩ := HO.out
    exact ⟨k0, 0, rfl, by simp, rfl, HB.out, c1.lt, cur, c1, by omega, by simp [be]; omega⟩
  case round =>
    obtain ⟨j, k, hjk, rfl, rfl, hb, hz, cur, c1, c2, c3⟩ := hrel
    generalize hq : n / 256 ^ k = q
    have q0 : 0 ≤ q := by rw [← hq]; exact (q_bound n k h0).1
    have q1 : q ≤ 72057594037927936 := by have := HN.out; have := pow7 k0 h7; have := (q_bound n k h0).2; omega
    have HQ := Lib.hid hq
    have C1 := Lib.hid c1; have C2 := Lib.hid c2; have C3 := Lib.hid c3; have HJ := Lib.hid hjk
    clear hq c1 c2 c3 hjk
    rcases Nat.eq_zero_or_pos j with rfl | hj
    · obtain rfl : k = k0 := by have := HJ.out; omega
      have kc := run_convert_bytes_back (P := Tryz.prog) wr 22 9 5 ⟨w.heap.size, 0, none⟩ k (be k n) Tryz.underlying22 Tryz.underlying5 Tryz.underlying9 (fun i hi => by
        have e1 : (⟨w.heap.size, 0, none⟩ : Addr).add i = ⟨w.heap.size, i, none⟩ := by unfold Addr.add; split <;> simp_all
        have e2 : cur[i]? = (cur.toList.drop 0)[i]? := by simp
        rw [e1, C1.out.cell, e2, C3.out]
        have h2 := flat_at byteC 1 (be k n) (fun _ _ => rfl) i 0 ((be k n)[i]) (List.getElem?_eq_getElem hi) (by omega)
        simpa [byteC] using h2)
      rw [be_len] at kc
      rw [show ((0 : Nat) : Int) - 1 = -1 from rfl]
      go_wp2
      go_ret
      exact ⟨rfl, hb⟩
    · obtain ⟨j', rfl⟩ := Nat.exists_eq_add_of_le hj
      rw [show ((0 + 1 + j' : Nat) : Int) - 1 = (j' : Int) from by omega]
      have hjs : j' < cur.size := by rw [C2.out]; have := HJ.out; omega
      have hj7 : j' < k0 := by have := HJ.out; omega
      have q5 := C1.out.has j' hjs
      have qf := C1.out.frozen
      go_wp2
      go_roundw
      case rel =>
        refine ⟨j', k + 1, by have := HJ.out; omega, by rw [← HQ.out, q_next], rfl, hb.setCell (Nat.le_refl _) _, by simpa using hz, _, C1.out.set_ _ _, by simpa using C2.out, ?_⟩
        rw [drop_set _ _ _ hjs, show j' + 1 = 0 + 1 + j' from by omega, C3.out, i64_and255 q q0 (by omega)]
        have e1 : ((UInt8.ofNat (q % 256).toNat).toNat : Int) = q % 256 % 256 := by rw [byte_int _ (by omega) (by omega)]; omega
        simp only [be, List.flatMap_cons, byteC, List.cons_append, List.nil_append, HQ.out]
        rw [e1]
      case measure => simp [intOf]
end Go.Proofs.YtelnnegfkdfpiaaGreatDoor
