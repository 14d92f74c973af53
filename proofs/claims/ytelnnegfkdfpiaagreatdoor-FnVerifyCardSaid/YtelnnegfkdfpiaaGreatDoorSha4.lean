/- The reference's block of the hash. (printed by sha4.py) -/
import Derived.Test.YtelnnegfkdfpiaaGreatDoorSha2
import Derived.Test.YtelnnegfkdfpiaaGreatDoorApp
import Derived.StillTailTactics
import Derived.BigQuiet
import Derived.Deep.RegionLaw
import Derived.WalkKit
import Derived.WalkSpells
import Derived.WalkLawsBesides
import Derived.Lib.Hide
namespace Go.Proofs.YtelnnegfkdfpiaaGreatDoor
open Go.RowKit

theorem still_of {P : Program} {f : FuncId} {args : Array Value} {w : World} {v : Value} (h : Calls P f args w fun e w' => e = .returned v ∧ w = w') : Calls P f args w fun e w' => e = .returned v ∧ w' = w :=
  h.mono fun _ _ h => ⟨h.1, h.2.symm⟩
theorem infoInt6 : (Tryz.prog.info? 3).map (fun i => (i.zero, i.size, i.bytes)) = some (some (.int .i64 0), 1, 8) := by kernel_rfl
theorem I1_cells {w : World} {B n c : Nat} {A : Option Addr} {l : List W32} (h : RdL I1 1 w B A n c l) (hn : 0 < n) : ∃ b off, A = some ⟨b, off, none⟩ ∧ b < B ∧ ∀ j, j < n → w.cell? ⟨b, off + j, none⟩ = some (.int .i64 (l.getD j 0).toNat) := by
  obtain ⟨h1, _, _, _, h4⟩ := h
  obtain ⟨b, off, e, hb, hc⟩ := h4 hn
  refine ⟨b, off, e, hb, fun j hj => ?_⟩
  have hx : l[j]? = some (l.getD j 0) := by rw [List.getD_eq_getElem?_getD, List.getElem?_eq_getElem (by omega)]; rfl
  have := flat_at I1 1 l (fun _ _ => rfl) j 0 _ hx (by decide)
  rw [hc j (by omega)]
  simpa [I1] using this
theorem Rd_oneI (w : World) (cs : Array Value) (t : TypeId) (size : Nat) (h : cs.size = size) (g : Nat) (hg : g = w.heap.size) : Rd (w.alloc (.cells cs t)) (w.heap.size + 1) (some ⟨g, 0, none⟩) 1 1 size cs.toList := by
  subst hg
  refine ⟨by simp [h], Nat.le_refl _, by unfold maxLen; omega, fun _ => ⟨w.heap.size, 0, rfl, by omega, fun j hj => ?_⟩⟩
  have hb : Blk (w.alloc (.cells cs t)) w.heap.size t cs := heap_alloc_new w _
  rw [hb.cell, Nat.zero_add]; simp
theorem I1_one (l : List W32) : ∀ u ∈ l.flatMap I1, u.oneCell' = true := by
  intro u hu
  obtain ⟨x, _, hx⟩ := List.mem_flatMap.1 hu
  simp only [I1, List.mem_singleton] at hx
  subst hx; rfl
theorem nt64 (x : W32) : bits .xor .i64 (-1) x.toNat % 4294967296 = ((wn x).toNat : Int) := by
  have hx := w32_lt x
  have e1 : (BitVec.ofInt IntKind.i64.bits (-1) ^^^ BitVec.ofInt IntKind.i64.bits (x.toNat : Int)).toNat = 18446744073709551615 - x.toNat := by
    show (BitVec.ofInt 64 (-1) ^^^ BitVec.ofInt 64 (x.toNat : Int)).toNat = _
    rw [show BitVec.ofInt 64 (-1) = BitVec.allOnes 64 from by decide, BitVec.allOnes_xor, BitVec.toNat_not, BitVec.ofInt_natCast, BitVec.toNat_ofNat]
    omega
  simp only [bits, e1]
  rw [IntKind.wrap_i64]
  unfold wn
  rw [BitVec.toNat_not]
  omega
theorem s64a (a b c d e f g : W32) : wrap64 (wrap64 (wrap64 (wrap64 (wrap64 ((a.toNat : Int) + b.toNat) + c.toNat) + d.toNat) + e.toNat) + wrap64 ((f.toNat : Int) + g.toNat)) % 4294967296 = ((wp (wp (wp (wp (wp (wp a b) c) d) e) f) g).toNat : Int) := by
  have ha := w32_lt a; have hb := w32_lt b; have hc := w32_lt c; have hd := w32_lt d; have he := w32_lt e; have hf := w32_lt f; have hg := w32_lt g
  rw [IntWalk.wrap64_in ((a.toNat : Int) + b.toNat) (by omega), IntWalk.wrap64_in ((f.toNat : Int) + g.toNat) (by omega), IntWalk.wrap64_in ((a.toNat : Int) + b.toNat + c.toNat) (by omega), IntWalk.wrap64_in ((a.toNat : Int) + b.toNat + c.toNat + d.toNat) (by omega), IntWalk.wrap64_in ((a.toNat : Int) + b.toNat + c.toNat + d.toNat + e.toNat) (by omega), IntWalk.wrap64_in _ (by omega)]
  exact sum7 a b c d e f g
theorem s64b (p a b c d e : W32) : wrap64 ((p.toNat : Int) + wrap64 (wrap64 (wrap64 (wrap64 ((a.toNat : Int) + b.toNat) + c.toNat) + d.toNat) + e.toNat)) % 4294967296 = ((wp p (wp (wp (wp (wp a b) c) d) e)).toNat : Int) := by
  have hp := w32_lt p; have ha := w32_lt a; have hb := w32_lt b; have hc := w32_lt c; have hd := w32_lt d; have he := w32_lt e
  rw [IntWalk.wrap64_in ((a.toNat : Int) + b.toNat) (by omega), IntWalk.wrap64_in ((a.toNat : Int) + b.toNat + c.toNat) (by omega), IntWalk.wrap64_in ((a.toNat : Int) + b.toNat + c.toNat + d.toNat) (by omega), IntWalk.wrap64_in ((a.toNat : Int) + b.toNat + c.toNat + d.toNat + e.toNat) (by omega), IntWalk.wrap64_in _ (by omega)]
  exact sum6 p a b c d e
theorem I1_lit8 (w : World) (r : St) (n : Nat) (hn : w.heap.size < n) : RdL I1 1 (w.alloc (.cells #[.int .i64 r.a.toNat, .int .i64 r.b.toNat, .int .i64 r.c.toNat, .int .i64 r.d.toNat, .int .i64 r.e.toNat, .int .i64 r.f.toNat, .int .i64 r.g.toNat, .int .i64 r.h.toNat] 3)) n (some ⟨w.heap.size, 0, none⟩) 8 8 r.l := by
  refine ⟨rfl, rfl, Nat.le_refl _, by unfold maxLen; omega, fun _ => ⟨w.heap.size, 0, rfl, hn, fun j hj => ?_⟩⟩
  have hb : Blk (w.alloc (.cells #[.int .i64 r.a.toNat, .int .i64 r.b.toNat, .int .i64 r.c.toNat, .int .i64 r.d.toNat, .int .i64 r.e.toNat, .int .i64 r.f.toNat, .int .i64 r.g.toNat, .int .i64 r.h.toNat] 3)) w.heap.size 3 _ := heap_alloc_new w _
  rw [hb.cell, Nat.zero_add]
  rcases (by omega : j = 0 ∨ j = 1 ∨ j = 2 ∨ j = 3 ∨ j = 4 ∨ j = 5 ∨ j = 6 ∨ j = 7) with rfl | rfl | rfl | rfl | rfl | rfl | rfl | rfl <;> rfl
theorem wordAt_take (l : List UInt8) (m : Nat) (h : 4 ≤ m) : wordAt (l.take m) = wordAt l := by
  have e : ∀ j, j < 4 → (l.take m).getD j 0 = l.getD j 0 := by
    intro j hj
    rw [List.getD_eq_getElem?_getD, List.getD_eq_getElem?_getD, List.getElem?_take, if_pos (by omega)]
  unfold wordAt
  rw [e 0 (by omega), e 1 (by omega), e 2 (by omega), e 3 (by omega)]
/-- what lies there while a block is reckoned -/
structure RefMem (w wr : World) (cur : Array Value) (k : Nat) (l : List UInt8) : Prop where
  below : Below w.heap.size w wr
  row : Blk wr w.heap.size 3 cur
  rowsz : cur.size = 64
  told : ∀ j, j < k → cur[j]? = some (.int .i64 (wS l j).toNat)
theorem RefMem.set {w wr : World} {cur : Array Value} {k : Nat} {l : List UInt8} (h : RefMem w wr cur k l) (hk : k < 64) (x : Int) (hx : x = (wS l k).toNat) :
    RefMem w (wr.setCell ⟨w.heap.size, k, none⟩ (.int .i64 x)) (cur.setIfInBounds k (.int .i64 x)) (k + 1) l := by
  refine ⟨h.below.setCell (Nat.le_refl _) _, h.row.set_ _ _, by simpa using h.rowsz, fun j hj => ?_⟩
  rw [Array.getElem?_setIfInBounds]
  by_cases e : k = j
  · subst e; rw [if_pos rfl, if_pos (by rw [h.rowsz]; exact hk), hx]
  · rw [if_neg e]; exact h.told j (by omega)
theorem RefMem.drewN {w wr : World} {cur : Array Value} {k : Nat} {l : List UInt8} (h : RefMem w wr cur k l) (n : Nat) : RefMem w (wr.drewN n) cur k l :=
  ⟨belN h.below n, h.row, h.rowsz, h.told⟩
theorem RefMem.drew {w wr : World} {cur : Array Value} {k : Nat} {l : List UInt8} (h : RefMem w wr cur k l) : RefMem w wr.drew cur k l :=
  ⟨h.below.drew, h.row, h.rowsz, h.told⟩
theorem RefMem.cell {w wr : World} {cur : Array Value} {k : Nat} {l : List UInt8} (h : RefMem w wr cur k l) (j : Nat) (hj : j < k) : wr.cell? ⟨w.heap.size, j, none⟩ = some (.int .i64 (wS l j).toNat) := by
  rw [h.row.cell, h.told j hj]
theorem RefMem.grow {w wr w' : World} {cur : Array Value} {k : Nat} {l : List UInt8} (h : RefMem w wr cur k l) (hb : Below wr.heap.size wr w') : RefMem w w' cur k l :=
  ⟨h.below.trans (hb.mono h.below.size), h.row.below hb h.row.lt, h.rowsz, h.told⟩
theorem RefMem.alloc {w wr : World} {cur : Array Value} {k : Nat} {l : List UInt8} (h : RefMem w wr cur k l) (o : Obj) : RefMem w (wr.alloc o) cur k l := h.grow ((Below.refl _ _).alloc (Nat.le_refl _) _)
theorem outL_next (v r : St) (k : Nat) (_hk : k < 8) : ((List.range (k + 1)).map fun j => wp (v.l.getD j 0) (r.l.getD j 0)) = ((List.range k).map fun j => wp (v.l.getD j 0) (r.l.getD j 0)) ++ [wp (v.l.getD k 0) (r.l.getD k 0)] := by
  rw [List.range_succ, List.map_append]; rfl
set_option maxRecDepth 100000 in
set_option maxHeartbeats 1000000 in
theorem l3Block_any (v : St) (s : ByteArray) (A Ak : Option Addr) (B c ck : Nat) (w : World) (hs : s.size = 64) (hv : RdL I1 1 w B A 8 c v.l) (hk : RdL I1 1 w B Ak 64 ck ((List.range 64).map kW)) (hB : B ≤ w.heap.size) :
    Calls Tryz.prog 97 #[.slice A 8 c, .string s, .slice Ak 64 ck] w fun e w' =>
      ∃ A' c', e = .returned (.slice A' 8 c') ∧ RdL I1 1 w' w'.heap.size A' 8 c' (blkS s.data.toList v).l ∧ Below w.heap.size w w' := by
  obtain ⟨bk, ok, rfl, hbk, hck⟩ := I1_cells hk (by decide)
  have HV := Lib.hid hv
  have HS := Lib.hid hs
  have HCK := Lib.hid hck
  clear hs hv hk hck
  obtain ⟨i0, hi, hz0, hz1, hz2⟩ := info_parts infoInt6
  obtain ⟨w1, hrun, hown, hg⟩ := run_make_full (P := Tryz.prog) w w.heap.size 42 3 i0 _ 1 Tryz.underlying42 hi hz0 hz1 .i64 .i64 64 (by rw [hz2]; omega) (by unfold maxLen; omega) (Nat.le_refl _)
  have HB : Hid (Below w.heap.size w w1) := (Below.refl _ _).grown hg (Nat.le_refl _) (fun k hk => by cases hk)
  have HO : Hid (∃ cur, RefMem w w1 cur 0 s.data.toList) := by
    obtain ⟨cur, c1, c2, _⟩ := Laid.start (fun _ : Unit => [Value.int .i64 0]) 1 [] 64 hown
    exact ⟨cur, HB.out, c1, by simpa using c2, fun j hj => absurd hj (by omega)⟩
  clear hown hg
  rw [show ((64 : Nat) : Int) = 64 from rfl] at hrun
  go_enter Tryz.func97, Tryz.ntmps97
  go_wp2_with fail
  clear hrun
  go_loopw [8] (fun i wr => ∃ (k : Nat) (cur : Array Value), k ≤ 16 ∧ i = .int .i64 k ∧ RefMem w wr cur k s.data.toList) (fun i _ => 16 - (intOf i).toNat)
  case atStart =>
    obtain ⟨cur, M⟩ := HO.out
    exact ⟨0, cur, by omega, rfl, M⟩
  case round =>
    obtain ⟨k, cur, hk, rfl, M⟩ := hrel
    have HM := Lib.hid M
    have hz := M.row.lt
    clear M
    by_cases hlt : k < 16
    · have q5 := HM.out.row.has k (by rw [HM.out.rowsz]; omega)
      have qf := HM.out.row.frozen
      have p0 : 0 ≤ 4 * (k : Int) := by omega
      have p1 : 0 ≤ 4 * (k : Int) + 1 := by omega
      have p2 : 0 ≤ 4 * (k : Int) + 2 := by omega
      have p3 : 0 ≤ 4 * (k : Int) + 3 := by omega
      have m0 : 4 * k < s.size := by have := HS.out; omega
      have m1 : 4 * k + 1 < s.size := by have := HS.out; omega
      have m2 : 4 * k + 2 < s.size := by have := HS.out; omega
      have m3 : 4 * k + 3 < s.size := by have := HS.out; omega
      have HW := Lib.hid (wordAt_int s (4 * k) (by omega))
      obtain ⟨f1, f2, f3⟩ := or_bytes .i64 (.inr rfl) (s[4 * k]'(by omega)) (s[4 * k + 1]'(by omega)) (s[4 * k + 2]'(by omega)) (s[4 * k + 3]'(by omega))
      have b0 := (s[4 * k]'(by omega)).toNat_lt; have b1 := (s[4 * k + 1]'(by omega)).toNat_lt; have b2 := (s[4 * k + 2]'(by omega)).toNat_lt; have b3 := (s[4 * k + 3]'(by omega)).toNat_lt
      have h0 : 4 * (k : Int) < (s.size : Int) := by omega
      have h1 : 4 * (k : Int) + 1 < (s.size : Int) := by omega
      have h2 : 4 * (k : Int) + 2 < (s.size : Int) := by omega
      have h3 : 4 * (k : Int) + 3 < (s.size : Int) := by omega
      go_wp2_with fail
      go_region
      go_wp2_with fail
      go_roundw
      case rel => exact ⟨k + 1, _, by omega, by go_num, (HM.out.set (by omega) _ (by rw [wS_lo _ _ hlt]; exact HW.out)).drew⟩
      case measure => simp [intOf]; omega
    · obtain rfl : k = 16 := by omega
      clear hk hlt
      rw [show ((16 : Nat) : Int) = 16 from rfl]
      go_wp2_with fail
      go_loopw [9] (fun i wr => ∃ (k : Nat) (cur : Array Value), 16 ≤ k ∧ k ≤ 64 ∧ i = .int .i64 k ∧ RefMem w wr cur k s.data.toList) (fun i _ => 64 - (intOf i).toNat)
      case atStart => exact ⟨16, cur, by omega, by omega, rfl, HM.out⟩
      case round =>
        clear hz
        obtain ⟨k, cur, hk0, hk, rfl, M⟩ := hrel
        have HM := Lib.hid M
        have hz := M.row.lt
        clear M
        by_cases hlt : k < 64
        · obtain ⟨x16, X16, q16⟩ : ∃ x : W32, Hid (x = wS s.data.toList (k - 16)) ∧ wr.cell? ⟨w.heap.size, k - 16, none⟩ = some (.int .i64 x.toNat) := ⟨_, rfl, HM.out.cell _ (by omega)⟩
          obtain ⟨x15, X15, q15⟩ : ∃ x : W32, Hid (x = wS s.data.toList (k - 15)) ∧ wr.cell? ⟨w.heap.size, k - 15, none⟩ = some (.int .i64 x.toNat) := ⟨_, rfl, HM.out.cell _ (by omega)⟩
          obtain ⟨x7, X7, q7⟩ : ∃ x : W32, Hid (x = wS s.data.toList (k - 7)) ∧ wr.cell? ⟨w.heap.size, k - 7, none⟩ = some (.int .i64 x.toNat) := ⟨_, rfl, HM.out.cell _ (by omega)⟩
          obtain ⟨x2, X2, q2⟩ : ∃ x : W32, Hid (x = wS s.data.toList (k - 2)) ∧ wr.cell? ⟨w.heap.size, k - 2, none⟩ = some (.int .i64 x.toNat) := ⟨_, rfl, HM.out.cell _ (by omega)⟩
          have q5 := HM.out.row.has k (by rw [HM.out.rowsz]; omega)
          have qf := HM.out.row.frozen
          have HWW := Lib.hid (wS_hi s.data.toList k (by omega))
          have g1 : bits .xor .i64 (bits .xor .i64 ((rr x15 7).toNat : Int) ((rr x15 18).toNat)) ((x15.toNat : Int) / 8) = ((sig0 x15).toNat : Int) := by rw [shr8, xor64', xor64']; rfl
          have g2 : bits .xor .i64 (bits .xor .i64 ((rr x2 17).toNat : Int) ((rr x2 19).toNat)) ((x2.toNat : Int) / 1024) = ((sig1 x2).toNat : Int) := by rw [shr1024, xor64', xor64']; rfl
          go_wp2_with fail
          go_big_quiet (first | (go_at_call 109; (with_reducible refine (l3Right7 _ _).mono ?_); rintro e w' ⟨rfl, rfl⟩; exact ⟨rfl, _, rfl⟩) | (go_at_call 109; (with_reducible refine (l3Right18 _ _).mono ?_); rintro e w' ⟨rfl, rfl⟩; exact ⟨rfl, _, rfl⟩) | (go_at_call 109; (with_reducible refine (l3Right17 _ _).mono ?_); rintro e w' ⟨rfl, rfl⟩; exact ⟨rfl, _, rfl⟩) | (go_at_call 109; (with_reducible refine (l3Right19 _ _).mono ?_); rintro e w' ⟨rfl, rfl⟩; exact ⟨rfl, _, rfl⟩) | (go_at_call 109; (with_reducible refine (l3Right6 _ _).mono ?_); rintro e w' ⟨rfl, rfl⟩; exact ⟨rfl, _, rfl⟩) | (go_at_call 109; (with_reducible refine (l3Right11 _ _).mono ?_); rintro e w' ⟨rfl, rfl⟩; exact ⟨rfl, _, rfl⟩) | (go_at_call 109; (with_reducible refine (l3Right25 _ _).mono ?_); rintro e w' ⟨rfl, rfl⟩; exact ⟨rfl, _, rfl⟩) | (go_at_call 109; (with_reducible refine (l3Right2 _ _).mono ?_); rintro e w' ⟨rfl, rfl⟩; exact ⟨rfl, _, rfl⟩) | (go_at_call 109; (with_reducible refine (l3Right13 _ _).mono ?_); rintro e w' ⟨rfl, rfl⟩; exact ⟨rfl, _, rfl⟩) | (go_at_call 109; (with_reducible refine (l3Right22 _ _).mono ?_); rintro e w' ⟨rfl, rfl⟩; exact ⟨rfl, _, rfl⟩) | (go_at_call 110; (with_reducible refine (l3Word_any _ _).mono ?_); rintro e w' ⟨rfl, rfl⟩; exact ⟨rfl, _, rfl⟩))
          go_wp2_with fail
          go_big_quiet (first | (go_at_call 109; (with_reducible refine (l3Right7 _ _).mono ?_); rintro e w' ⟨rfl, rfl⟩; exact ⟨rfl, _, rfl⟩) | (go_at_call 109; (with_reducible refine (l3Right18 _ _).mono ?_); rintro e w' ⟨rfl, rfl⟩; exact ⟨rfl, _, rfl⟩) | (go_at_call 109; (with_reducible refine (l3Right17 _ _).mono ?_); rintro e w' ⟨rfl, rfl⟩; exact ⟨rfl, _, rfl⟩) | (go_at_call 109; (with_reducible refine (l3Right19 _ _).mono ?_); rintro e w' ⟨rfl, rfl⟩; exact ⟨rfl, _, rfl⟩) | (go_at_call 109; (with_reducible refine (l3Right6 _ _).mono ?_); rintro e w' ⟨rfl, rfl⟩; exact ⟨rfl, _, rfl⟩) | (go_at_call 109; (with_reducible refine (l3Right11 _ _).mono ?_); rintro e w' ⟨rfl, rfl⟩; exact ⟨rfl, _, rfl⟩) | (go_at_call 109; (with_reducible refine (l3Right25 _ _).mono ?_); rintro e w' ⟨rfl, rfl⟩; exact ⟨rfl, _, rfl⟩) | (go_at_call 109; (with_reducible refine (l3Right2 _ _).mono ?_); rintro e w' ⟨rfl, rfl⟩; exact ⟨rfl, _, rfl⟩) | (go_at_call 109; (with_reducible refine (l3Right13 _ _).mono ?_); rintro e w' ⟨rfl, rfl⟩; exact ⟨rfl, _, rfl⟩) | (go_at_call 109; (with_reducible refine (l3Right22 _ _).mono ?_); rintro e w' ⟨rfl, rfl⟩; exact ⟨rfl, _, rfl⟩) | (go_at_call 110; (with_reducible refine (l3Word_any _ _).mono ?_); rintro e w' ⟨rfl, rfl⟩; exact ⟨rfl, _, rfl⟩))
          have r0 : 0 ≤ (k : Int) := by omega
          have r1 : (k : Int) < 64 := by omega
          have r2 : (16 : Int) ≤ (k : Int) := by omega
          have r3 : (k : Int) - 16 < 64 := by omega
          have r4 : (7 : Int) ≤ (k : Int) := by omega
          have r5 : (k : Int) - 7 < 64 := by omega
          go_wp2_with fail
          refine wp_region_still_tail 19 (by kernel_rfl) (by kernel_rfl) ?_
          simp only [List.take_succ_cons, List.take_zero, List.drop_succ_cons, List.drop_zero]
          change wpStill _ _ (World.drew _) _ _ _
          repeat (refine wpStill_step (fun K hK => ?_); go_simp; (try go_bits); first | (refine hK _ ?_) | (refine ⟨_, still_of (l3Word_any _ _), hK _ ?_⟩); clear hK K)
          refine wpStill_nil ?_
          change wpList _ _ _ _ _ (World.drew _)
          go_wp2_with fail
          go_roundw
          case rel => exact ⟨k + 1, _, by omega, by omega, by go_num, (HM.out.set (by omega) _ (by rw [HWW.out, ← X16.out, ← X15.out, ← X7.out, ← X2.out]; exact sum4 _ _ _ _)).drewN _⟩
          case measure => simp [intOf]; omega
        · obtain rfl : k = 64 := by omega
          obtain ⟨w2, hw2⟩ : ∃ x, x = wr := ⟨_, rfl⟩
          subst hw2
          clear hk hlt hk0 hi hz0 hz1 hz2
          rw [show ((64 : Nat) : Int) = 64 from rfl]
          obtain ⟨i1, hi, hz0, hz1, hz2⟩ := info_parts infoInt6
          have HV2 := Lib.hid (HV.out.below HM.out.below hB)
          have hzw := HM.out.below.size
          have hcap := HV.out.2.2.1
          go_wp2_with (at_builtin; go_must (refine wpList_app_rd _ rfl _ _ _ rfl w2.heap.size 3 i1 _ 1 8 Tryz.underlying42 hi hz0 hz1 hz2 rfl (by decide) (.slice (some ⟨w2.heap.size, 0, none⟩) 0 0) 0 [] rfl (by exact World.ownsRow_lit w2 #[] 0 (Nat.le_refl _) (by decide) rfl) B A 8 c (v.l.flatMap I1) rfl (by exact (HV2.out.alloc (by omega) _).2) (I1_one _) (by unfold maxLen; omega) (by omega) (by first | (simp; done) | (simp; omega)) ?_))
          intro v1 w4 hown hgrow _
          (try simp only [Nat.zero_add, List.nil_append] at hown)
          have hb4 : Below w2.heap.size w2 w4 := ((Below.refl _ _).alloc (Nat.le_refl _) _).grown hgrow (by simp) (fun k hk => by simp [Value.ownBlock] at hk; omega)
          obtain ⟨A1, c1, rfl, ho⟩ := OwnL.of_own (f := I1) rfl hown
          have HO4 : Hid (RdL I1 1 w4 w4.heap.size A1 8 c1 v.l) := OwnL.rd (f := I1) (size := 1) (fun _ => rfl) ho
          have HM4 := Lib.hid (HM.out.grow hb4)
          clear hown hgrow ho hb4
          go_wp2_with fail
          go_loopw [12, 13] (fun u i wr => ∃ (k : Nat) (A : Option Addr) (c : Nat) (r : St), k ≤ 64 ∧ i = .int .i64 k ∧ u = .slice A 8 c ∧ r = rds s.data.toList v k ∧ RdL I1 1 wr wr.heap.size A 8 c r.l ∧ RefMem w wr cur 64 s.data.toList) (fun _ i _ => 64 - (intOf i).toNat)
          case atStart => exact ⟨0, A1, c1, v, by omega, rfl, rfl, rfl, HO4.out, HM4.out⟩
          case round =>
            obtain ⟨k, A2, c2, r, hk, rfl, rfl, hr, hrd, M⟩ := hrel
            have HR := Lib.hid hr; have HM := Lib.hid M; have HRD := Lib.hid hrd
            have hz5 := M.row.lt
            clear hr M hrd
            by_cases hlt : k < 64
            · obtain ⟨b2, o2, rfl, hb2, hc2⟩ := I1_cells HRD.out (by decide)
              have tK : wr.cell? ⟨bk, ok + k, none⟩ = some (.int .i64 (kW k).toNat) := by
                rw [HM.out.below.cell (p := ⟨bk, ok + k, none⟩) (show bk < w.heap.size by omega), HCK.out k hlt]
                simp [List.getD_eq_getElem?_getD, hlt]
              obtain ⟨x, X, tW⟩ : ∃ x : W32, Hid (x = wS s.data.toList k) ∧ wr.cell? ⟨w.heap.size, k, none⟩ = some (.int .i64 x.toNat) := ⟨_, rfl, HM.out.cell _ (by omega)⟩
              generalize hK : kW k = y at tK
              have HK := Lib.hid hK; clear hK
              have g0 : wr.cell? ⟨b2, o2 + 0, none⟩ = some (.int .i64 r.a.toNat) := hc2 0 (by decide)
              have g1 : wr.cell? ⟨b2, o2 + 1, none⟩ = some (.int .i64 r.b.toNat) := hc2 1 (by decide)
              have g2 : wr.cell? ⟨b2, o2 + 2, none⟩ = some (.int .i64 r.c.toNat) := hc2 2 (by decide)
              have g3 : wr.cell? ⟨b2, o2 + 3, none⟩ = some (.int .i64 r.d.toNat) := hc2 3 (by decide)
              have g4 : wr.cell? ⟨b2, o2 + 4, none⟩ = some (.int .i64 r.e.toNat) := hc2 4 (by decide)
              have g5 : wr.cell? ⟨b2, o2 + 5, none⟩ = some (.int .i64 r.f.toNat) := hc2 5 (by decide)
              have g6 : wr.cell? ⟨b2, o2 + 6, none⟩ = some (.int .i64 r.g.toNat) := hc2 6 (by decide)
              have g7 : wr.cell? ⟨b2, o2 + 7, none⟩ = some (.int .i64 r.h.toNat) := hc2 7 (by decide)
              have g0' : wr.cell? ⟨b2, o2, none⟩ = some (.int .i64 r.a.toNat) := g0
              clear hc2
              have r0 : 0 ≤ (k : Int) := by omega
              have r1 : (k : Int) < 64 := by omega
              go_wp2_with fail
              go_big_quiet (first | (go_at_call 109; (with_reducible refine (l3Right7 _ _).mono ?_); rintro e w' ⟨rfl, rfl⟩; exact ⟨rfl, _, rfl⟩) | (go_at_call 109; (with_reducible refine (l3Right18 _ _).mono ?_); rintro e w' ⟨rfl, rfl⟩; exact ⟨rfl, _, rfl⟩) | (go_at_call 109; (with_reducible refine (l3Right17 _ _).mono ?_); rintro e w' ⟨rfl, rfl⟩; exact ⟨rfl, _, rfl⟩) | (go_at_call 109; (with_reducible refine (l3Right19 _ _).mono ?_); rintro e w' ⟨rfl, rfl⟩; exact ⟨rfl, _, rfl⟩) | (go_at_call 109; (with_reducible refine (l3Right6 _ _).mono ?_); rintro e w' ⟨rfl, rfl⟩; exact ⟨rfl, _, rfl⟩) | (go_at_call 109; (with_reducible refine (l3Right11 _ _).mono ?_); rintro e w' ⟨rfl, rfl⟩; exact ⟨rfl, _, rfl⟩) | (go_at_call 109; (with_reducible refine (l3Right25 _ _).mono ?_); rintro e w' ⟨rfl, rfl⟩; exact ⟨rfl, _, rfl⟩) | (go_at_call 109; (with_reducible refine (l3Right2 _ _).mono ?_); rintro e w' ⟨rfl, rfl⟩; exact ⟨rfl, _, rfl⟩) | (go_at_call 109; (with_reducible refine (l3Right13 _ _).mono ?_); rintro e w' ⟨rfl, rfl⟩; exact ⟨rfl, _, rfl⟩) | (go_at_call 109; (with_reducible refine (l3Right22 _ _).mono ?_); rintro e w' ⟨rfl, rfl⟩; exact ⟨rfl, _, rfl⟩) | (go_at_call 110; (with_reducible refine (l3Word_any _ _).mono ?_); rintro e w' ⟨rfl, rfl⟩; exact ⟨rfl, _, rfl⟩))
              go_wp2_with fail
              go_big_quiet (first | (go_at_call 109; (with_reducible refine (l3Right7 _ _).mono ?_); rintro e w' ⟨rfl, rfl⟩; exact ⟨rfl, _, rfl⟩) | (go_at_call 109; (with_reducible refine (l3Right18 _ _).mono ?_); rintro e w' ⟨rfl, rfl⟩; exact ⟨rfl, _, rfl⟩) | (go_at_call 109; (with_reducible refine (l3Right17 _ _).mono ?_); rintro e w' ⟨rfl, rfl⟩; exact ⟨rfl, _, rfl⟩) | (go_at_call 109; (with_reducible refine (l3Right19 _ _).mono ?_); rintro e w' ⟨rfl, rfl⟩; exact ⟨rfl, _, rfl⟩) | (go_at_call 109; (with_reducible refine (l3Right6 _ _).mono ?_); rintro e w' ⟨rfl, rfl⟩; exact ⟨rfl, _, rfl⟩) | (go_at_call 109; (with_reducible refine (l3Right11 _ _).mono ?_); rintro e w' ⟨rfl, rfl⟩; exact ⟨rfl, _, rfl⟩) | (go_at_call 109; (with_reducible refine (l3Right25 _ _).mono ?_); rintro e w' ⟨rfl, rfl⟩; exact ⟨rfl, _, rfl⟩) | (go_at_call 109; (with_reducible refine (l3Right2 _ _).mono ?_); rintro e w' ⟨rfl, rfl⟩; exact ⟨rfl, _, rfl⟩) | (go_at_call 109; (with_reducible refine (l3Right13 _ _).mono ?_); rintro e w' ⟨rfl, rfl⟩; exact ⟨rfl, _, rfl⟩) | (go_at_call 109; (with_reducible refine (l3Right22 _ _).mono ?_); rintro e w' ⟨rfl, rfl⟩; exact ⟨rfl, _, rfl⟩) | (go_at_call 110; (with_reducible refine (l3Word_any _ _).mono ?_); rintro e w' ⟨rfl, rfl⟩; exact ⟨rfl, _, rfl⟩))
              go_wp2_with fail
              refine wp_region_still_tail 28 (by kernel_rfl) (by kernel_rfl) ?_
              simp only [List.take_succ_cons, List.take_zero, List.drop_succ_cons, List.drop_zero]
              change wpStill _ _ (World.drew _) _ _ _
              repeat (refine wpStill_step (fun K hK => ?_); go_simp; (try go_bits); first | (refine hK _ ?_) | (refine ⟨_, still_of (l3Word_any _ _), hK _ ?_⟩); clear hK K)
              refine wpStill_nil ?_
              change wpList _ _ _ _ _ (World.drew _)
              go_wp2_with fail
              go_roundw
              case rel =>
                refine ⟨k + 1, _, _, rnd r y x, by omega, by go_num, rfl, ?_, ?_, (HM.out.drewN _).alloc _⟩
                · show _ = rnd (rds s.data.toList v k) (kW k) (wS s.data.toList k)
                  rw [← HR.out, HK.out, ← X.out]
                · simp only [xor64', and64', nt64, s64a, s64b]
                  exact I1_lit8 (wr.drewN _) (rnd r y x) _ (by rw [World.size_alloc]; exact Nat.lt_succ_self _)
              case measure => simp [intOf]; omega
            · obtain rfl : k = 64 := by omega
              obtain ⟨w5, hw5⟩ : ∃ x, x = wr := ⟨_, rfl⟩
              subst hw5
              clear hk hlt
              rw [show ((64 : Nat) : Int) = 64 from rfl]
              have HB5 := Lib.hid HM.out.below
              obtain ⟨b2, o2, rfl, hb2, hc2⟩ := I1_cells HRD.out (by decide)
              have HC2 := Lib.hid hc2
              obtain ⟨b3, o3, rfl, hb3, hc3⟩ := I1_cells HV.out (by decide)
              have HC3 := Lib.hid hc3
              clear hc2 hc3
              have hzw5 := HB5.out.size
              go_wp2_with fail
              go_loopw [18, 19] (fun u i wr => ∃ (k : Nat), k ≤ 8 ∧ i = .int .i64 k ∧ wr.ownsRow w5.heap.size 3 1 u k (((List.range k).map fun j => wp (v.l.getD j 0) (r.l.getD j 0)).flatMap I1) ∧ Below w5.heap.size w5 wr) (fun _ i _ => 8 - (intOf i).toNat)
              case atStart => exact ⟨0, by omega, rfl, World.ownsRow_lit w5 #[] 0 (Nat.le_refl _) (by decide) rfl, (Below.refl _ _).alloc (Nat.le_refl _) _⟩
              case round =>
                obtain ⟨k, hk, rfl, hown, hb⟩ := hrel
                have HO := Lib.hid hown; have HB := Lib.hid hb
                have hz6 := hb.size
                clear hown hb
                by_cases hlt : k < 8
                · have tv : wr.cell? ⟨b3, o3 + k, none⟩ = some (.int .i64 (v.l.getD k 0).toNat) := by
                    rw [HB.out.cell (p := ⟨b3, o3 + k, none⟩) (show b3 < w5.heap.size by omega), HB5.out.cell (p := ⟨b3, o3 + k, none⟩) (show b3 < w.heap.size by omega)]
                    exact HC3.out k hlt
                  have tr : wr.cell? ⟨b2, o2 + k, none⟩ = some (.int .i64 (r.l.getD k 0).toNat) := by
                    rw [HB.out.cell (p := ⟨b2, o2 + k, none⟩) hb2]
                    exact HC2.out k hlt
                  have HN := Lib.hid (outL_next v r k hlt)
                  generalize hv : v.l.getD k 0 = p at tv HN
                  generalize hr : r.l.getD k 0 = q at tr HN
                  clear hv hr
                  have r0 : 0 ≤ (k : Int) := by omega
                  have r1 : (k : Int) < 8 := by omega
                  have fw : IntKind.i64.wrap ((p.toNat : Int) + q.toNat) % 4294967296 = ((wp p q).toNat : Int) := by rw [IntWalk.i64_in _ (by omega)]; exact add32' p q
                  generalize hl : ((List.range k).map fun j => wp (v.l.getD j 0) (r.l.getD j 0)) = lk at *
                  have hll : lk.length = k := by rw [← hl]; simp
                  clear hl
                  go_wp2_with fail
                  go_region_law (first
                    | (go_simp; go_at_call 110; (with_reducible refine (l3Word_any _ _).mono ?_); rintro e w' ⟨rfl, rfl⟩; simp only [fw])
                    | ((refine step_app_rd _ rfl _ _ _ rfl w5.heap.size 3 i1 _ 1 8 Tryz.underlying42 hi hz0 hz1 hz2 rfl (by decide) u18 k (lk.flatMap I1) rfl (by exact (show World.ownsRow wr.drew _ _ _ _ _ _ from HO.out).alloc _) (wr.heap.size + 1) (some ⟨wr.heap.size, 0, none⟩) 1 1 [.int .i64 (wp p q).toNat] rfl (by exact Rd_oneI _ #[.int .i64 (wp p q).toNat] 3 1 rfl _ rfl) (by simp [Value.oneCell']) (by unfold maxLen; omega) (by omega) (by first | (simp; done) | omega | (simp; omega)) ?_)
                       intro v3 w6 hown hg hat
                       have HO3 : Hid (w6.ownsRow w5.heap.size 3 1 v3 (k + 1) ((lk ++ [wp p q]).flatMap I1)) := by
                         show World.ownsRow _ _ _ _ _ _ _
                         have e : (lk ++ [wp p q]).flatMap I1 = lk.flatMap I1 ++ [.int .i64 (wp p q).toNat] := by rw [List.flatMap_append]; rfl
                         rw [e]
                         exact hown
                       have HB6 : Hid (Below w5.heap.size w5 w6) := by
                         refine Below.grown (a := w5) ?_ hg ?_ ?_
                         · exact (HB.out.drew).alloc hz6 _
                         · first | omega | (simp; done) | (simp; omega)
                         · exact fun g h => (HO.out.lt g h).1
                       clear hown hg hat))
                  all_goals
                    go_wp2_with fail
                    go_roundw
                    case rel => exact ⟨k + 1, by omega, by go_num, by rw [HN.out]; exact HO3.out, HB6.out⟩
                    case measure => simp [intOf]; omega
                · obtain rfl : k = 8 := by omega
                  have hlist : ((List.range 8).map fun j => wp (v.l.getD j 0) (r.l.getD j 0)) = (v.plus r).l := rfl
                  rw [hlist] at HO
                  obtain ⟨A9, c9, rfl, ho⟩ := OwnL.of_own (f := I1) rfl HO.out
                  have HO9 : Hid (RdL I1 1 wr wr.heap.size A9 8 c9 (v.plus r).l) := OwnL.rd (f := I1) (size := 1) (fun _ => rfl) ho
                  clear ho hlist
                  go_wp2_with fail
                  go_ret
                  refine ⟨A9, c9, rfl, ?_, ?_⟩
                  · have : v.plus r = blkS s.data.toList v := by rw [HR.out]; rfl
                    rw [← this]; exact HO9.out
                  · exact HB5.out.trans (HB.out.mono hzw5)
end Go.Proofs.YtelnnegfkdfpiaaGreatDoor
