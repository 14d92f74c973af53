/- The program's block of the hash. (printed by mk3.py) -/
import Derived.Test.YtelnnegfkdfpiaaGreatDoorSha2
import Derived.StillTailTactics
import Derived.WalkKit
import Derived.WalkSpells
import Derived.WalkLawsBesides
import Derived.Lib.Hide
namespace Go.Proofs.YtelnnegfkdfpiaaGreatDoor
open Go.RowKit

theorem extract_drop' (s : ByteArray) (a : Nat) : (s.extract a s.size).data.toList = s.data.toList.drop a := by
  rw [ByteArray.data_extract, Array.toList_extract]
  rw [List.extract_eq_take_drop, List.take_of_length_le]
  simp
theorem blk_newAt (w : World) (n : Nat) (cs : Array Value) (t : TypeId) (h : w.heap.size = n) : Blk (w.alloc (.cells cs t)) n t cs := by
  subst h; exact heap_alloc_new w _
theorem wordAt_take (l : List UInt8) (m : Nat) (h : 4 ≤ m) : wordAt (l.take m) = wordAt l := by
  have e : ∀ j, j < 4 → (l.take m).getD j 0 = l.getD j 0 := by
    intro j hj
    rw [List.getD_eq_getElem?_getD, List.getD_eq_getElem?_getD, List.getElem?_take, if_pos (by omega)]
  unfold wordAt
  rw [e 0 (by omega), e 1 (by omega), e 2 (by omega), e 3 (by omega)]

/-- what lies there while a block is reckoned -/
structure ShaMem (w wr : World) (c1 cur : Array Value) (k : Nat) (l : List UInt8) : Prop where
  below : Below w.heap.size w wr
  res : Blk wr (w.heap.size + 1) 130 c1
  ressz : c1.size = 8
  row : Blk wr (w.heap.size + 1 + 1) 135 cur
  rowsz : cur.size = 64
  told : ∀ j, j < k → cur[j]? = some (.int .u32 (wS l j).toNat)
theorem ShaMem.set {w wr : World} {c1 cur : Array Value} {k : Nat} {l : List UInt8} (h : ShaMem w wr c1 cur k l) (hk : k < 64) (x : Int) (hx : x = (wS l k).toNat) :
    ShaMem w (wr.setCell ⟨w.heap.size + 1 + 1, k, none⟩ (.int .u32 x)) c1 (cur.setIfInBounds k (.int .u32 x)) (k + 1) l := by
  refine ⟨h.below.setCell (by simp; omega) _, h.res.far (by simp) _, h.ressz, h.row.set_ _ _, by simpa using h.rowsz, fun j hj => ?_⟩
  rw [Array.getElem?_setIfInBounds]
  by_cases e : k = j
  · subst e; rw [if_pos rfl, if_pos (by rw [h.rowsz]; exact hk), hx]
  · rw [if_neg e]; exact h.told j (by omega)
theorem ShaMem.drewN {w wr : World} {c1 cur : Array Value} {k : Nat} {l : List UInt8} (h : ShaMem w wr c1 cur k l) (n : Nat) : ShaMem w (wr.drewN n) c1 cur k l :=
  ⟨belN h.below n, h.res, h.ressz, h.row, h.rowsz, h.told⟩
theorem ShaMem.drew {w wr : World} {c1 cur : Array Value} {k : Nat} {l : List UInt8} (h : ShaMem w wr c1 cur k l) : ShaMem w wr.drew c1 cur k l :=
  ⟨h.below.drew, h.res, h.ressz, h.row, h.rowsz, h.told⟩
theorem ShaMem.cell {w wr : World} {c1 cur : Array Value} {k : Nat} {l : List UInt8} (h : ShaMem w wr c1 cur k l) (j : Nat) (hj : j < k) : wr.cell? ⟨w.heap.size + 1 + 1, j, none⟩ = some (.int .u32 (wS l j).toNat) := by
  rw [h.row.cell, h.told j hj]
theorem ShaMem.far {w wr : World} {c1 cur : Array Value} {k : Nat} {l : List UInt8} (h : ShaMem w wr c1 cur k l) {p : Addr} (h1 : w.heap.size ≤ p.block) (h2 : w.heap.size + 1 ≠ p.block) (h3 : w.heap.size + 1 + 1 ≠ p.block) (u : Value) : ShaMem w (wr.setCell p u) c1 cur k l :=
  ⟨h.below.setCell h1 u, h.res.far h2 u, h.ressz, h.row.far h3 u, h.rowsz, h.told⟩
theorem ShaMem.alloc {w wr : World} {c1 cur : Array Value} {k : Nat} {l : List UInt8} (h : ShaMem w wr c1 cur k l) (o : Obj) : ShaMem w (wr.alloc o) c1 cur k l :=
  ⟨h.below.alloc h.below.size _, h.res.alloc _, h.ressz, h.row.alloc _, h.rowsz, h.told⟩
theorem Blk.set8 {w : World} {g : Nat} {t : TypeId} {c0 c1 c2 c3 c4 c5 c6 c7 : Value} (h : Blk w g t #[c0, c1, c2, c3, c4, c5, c6, c7]) (u0 u1 u2 u3 u4 u5 u6 u7 : Value) : Blk ((((((((w.setCell ⟨g, 0, none⟩ u0).setCell ⟨g, 1, none⟩ u1).setCell ⟨g, 2, none⟩ u2).setCell ⟨g, 3, none⟩ u3).setCell ⟨g, 4, none⟩ u4).setCell ⟨g, 5, none⟩ u5).setCell ⟨g, 6, none⟩ u6).setCell ⟨g, 7, none⟩ u7) g t #[u0, u1, u2, u3, u4, u5, u6, u7] := by
  have := (((((((h.set_ 0 u0).set_ 1 u1).set_ 2 u2).set_ 3 u3).set_ 4 u4).set_ 5 u5).set_ 6 u6).set_ 7 u7
  simpa using this
theorem Blk.far8 {w : World} {g g' : Nat} {t : TypeId} {cs : Array Value} (h : Blk w g t cs) (hg : g ≠ g') (u0 u1 u2 u3 u4 u5 u6 u7 : Value) : Blk ((((((((w.setCell ⟨g', 0, none⟩ u0).setCell ⟨g', 1, none⟩ u1).setCell ⟨g', 2, none⟩ u2).setCell ⟨g', 3, none⟩ u3).setCell ⟨g', 4, none⟩ u4).setCell ⟨g', 5, none⟩ u5).setCell ⟨g', 6, none⟩ u6).setCell ⟨g', 7, none⟩ u7) g t cs :=
  (((((((h.far hg u0).far hg u1).far hg u2).far hg u3).far hg u4).far hg u5).far hg u6).far hg u7
theorem ShaMem.far8 {w wr : World} {c1 cur : Array Value} {k : Nat} {l : List UInt8} (h : ShaMem w wr c1 cur k l) {g : Nat} (h1 : w.heap.size ≤ g) (h2 : w.heap.size + 1 ≠ g) (h3 : w.heap.size + 1 + 1 ≠ g) (u0 u1 u2 u3 u4 u5 u6 u7 : Value) : ShaMem w ((((((((wr.setCell ⟨g, 0, none⟩ u0).setCell ⟨g, 1, none⟩ u1).setCell ⟨g, 2, none⟩ u2).setCell ⟨g, 3, none⟩ u3).setCell ⟨g, 4, none⟩ u4).setCell ⟨g, 5, none⟩ u5).setCell ⟨g, 6, none⟩ u6).setCell ⟨g, 7, none⟩ u7) c1 cur k l :=
  (((((((h.far h1 h2 h3 u0).far h1 h2 h3 u1).far h1 h2 h3 u2).far h1 h2 h3 u3).far h1 h2 h3 u4).far h1 h2 h3 u5).far h1 h2 h3 u6).far h1 h2 h3 u7
theorem list8 {l : List Value} (h : l.length = 8) : ∃ c0 c1 c2 c3 c4 c5 c6 c7, l = [c0, c1, c2, c3, c4, c5, c6, c7] := by
  match l, h with
  | [c0, c1, c2, c3, c4, c5, c6, c7], _ => exact ⟨c0, c1, c2, c3, c4, c5, c6, c7, rfl⟩
theorem St.at8 (v : St) (j : Nat) (h : j < 8) : (#[.int .u32 v.a.toNat, .int .u32 v.b.toNat, .int .u32 v.c.toNat, .int .u32 v.d.toNat, .int .u32 v.e.toNat, .int .u32 v.f.toNat, .int .u32 v.g.toNat, .int .u32 v.h.toNat] : Array Value)[j]? = some (.int .u32 (v.l.getD j 0).toNat) := by
  rcases (by omega : j = 0 ∨ j = 1 ∨ j = 2 ∨ j = 3 ∨ j = 4 ∨ j = 5 ∨ j = 6 ∨ j = 7) with rfl | rfl | rfl | rfl | rfl | rfl | rfl | rfl <;> rfl

set_option maxRecDepth 100000 in
set_option maxHeartbeats 4000000 in
theorem shaBlock_any (v : St) (s : ByteArray) (w : World) (hs : s.size = 64) (ht : Tab w) :
    Calls Tryz.prog 112 #[.agg #[.int .u32 v.a.toNat, .int .u32 v.b.toNat, .int .u32 v.c.toNat, .int .u32 v.d.toNat, .int .u32 v.e.toNat, .int .u32 v.f.toNat, .int .u32 v.g.toNat, .int .u32 v.h.toNat], .string s] w fun e w' =>
      ∃ r : St, r = blkS s.data.toList v ∧ e = .returned (.agg #[.int .u32 r.a.toNat, .int .u32 r.b.toNat, .int .u32 r.c.toNat, .int .u32 r.d.toNat, .int .u32 r.e.toNat, .int .u32 r.f.toNat, .int .u32 r.g.toNat, .int .u32 r.h.toNat]) ∧ Below w.heap.size w w' := by
  have HT := Lib.hid ht
  have hw0 := ht.pos
  have HS := Lib.hid hs; clear hs ht
  go_enter Tryz.func112, Tryz.ntmps112
  go_wp2_with fail
  go_loopw [22] (fun i wr => ∃ (k : Nat) (cur : Array Value) (c1 : Array Value), k ≤ 16 ∧ i = .int .i64 k ∧ Blk wr w.heap.size 130 #[.int .u32 v.a.toNat, .int .u32 v.b.toNat, .int .u32 v.c.toNat, .int .u32 v.d.toNat, .int .u32 v.e.toNat, .int .u32 v.f.toNat, .int .u32 v.g.toNat, .int .u32 v.h.toNat] ∧ ShaMem w wr c1 cur k s.data.toList) (fun i _ => 16 - (intOf i).toNat)
  case atStart =>
    refine ⟨0, _, _, by omega, rfl, (((blk_newAt w _ _ _ rfl).alloc _).alloc _), ⟨?_, (blk_newAt (w.alloc _) _ _ _ (World.size_alloc _ _)).alloc _, ?_, blk_newAt ((w.alloc _).alloc _) _ _ _ (by rw [World.size_alloc, World.size_alloc]), ?_, fun j hj => absurd hj (by omega)⟩⟩
    · repeat with_reducible refine Below.alloc ?_ (by first | exact Nat.le_refl _ | (simp; done) | (simp; omega)) _
      with_reducible exact Below.refl _ _
    · rfl
    · rfl
  case round =>
    obtain ⟨k, cur, c1, hk, rfl, B0, M⟩ := hrel
    have H0 := Lib.hid B0; have HM := Lib.hid M
    have hz := M.row.lt
    have hs64 : s.size = 64 := HS.out
    clear B0 M
    by_cases hlt : k < 16
    · have q5 := HM.out.row.has k (by rw [HM.out.rowsz]; omega)
      have qf := HM.out.row.frozen
      have HE := Lib.hid (extract_drop' s (4 * k))
      go_wp2_with (go_at_call 120; (with_reducible refine (word_any _ _ (by rw [ByteArray.size_extract]; omega)).mono ?_); rintro e w' ⟨rfl, rfl⟩)
      go_roundw
      case rel => exact ⟨k + 1, _, c1, by omega, by go_num, (H0.out.far (by simp; omega) _).drew, (HM.out.set (by omega) _ (by rw [wS_lo _ _ hlt, wordAt_take _ _ (by omega)])).drew⟩
      case measure => simp [intOf]; omega
    · obtain rfl : k = 16 := by omega
      clear hk hlt
      rw [show ((16 : Nat) : Int) = 16 from rfl]
      have HW0 := Lib.hid HM.out.below.size
      go_wp2_with fail
      go_loopw [7] (fun i wr => ∃ (k : Nat) (cur : Array Value), 16 ≤ k ∧ k ≤ 64 ∧ i = .int .i64 k ∧ Blk wr w.heap.size 130 #[.int .u32 v.a.toNat, .int .u32 v.b.toNat, .int .u32 v.c.toNat, .int .u32 v.d.toNat, .int .u32 v.e.toNat, .int .u32 v.f.toNat, .int .u32 v.g.toNat, .int .u32 v.h.toNat] ∧ ShaMem w wr c1 cur k s.data.toList) (fun i _ => 64 - (intOf i).toNat)
      case atStart => exact ⟨16, cur, by omega, by omega, rfl, H0.out, HM.out⟩
      case round =>
        clear hz
        obtain ⟨k, cur, hk0, hk, rfl, B0, M⟩ := hrel
        have H0 := Lib.hid B0; have HM := Lib.hid M
        have hz := M.row.lt
        clear B0 M
        by_cases hlt : k < 64
        · obtain ⟨x16, X16, q16⟩ : ∃ x : W32, Hid (x = wS s.data.toList (k - 16)) ∧ wr.cell? ⟨w.heap.size + 1 + 1, k - 16, none⟩ = some (.int .u32 x.toNat) := ⟨_, rfl, HM.out.cell _ (by omega)⟩
          obtain ⟨x15, X15, q15⟩ : ∃ x : W32, Hid (x = wS s.data.toList (k - 15)) ∧ wr.cell? ⟨w.heap.size + 1 + 1, k - 15, none⟩ = some (.int .u32 x.toNat) := ⟨_, rfl, HM.out.cell _ (by omega)⟩
          obtain ⟨x7, X7, q7⟩ : ∃ x : W32, Hid (x = wS s.data.toList (k - 7)) ∧ wr.cell? ⟨w.heap.size + 1 + 1, k - 7, none⟩ = some (.int .u32 x.toNat) := ⟨_, rfl, HM.out.cell _ (by omega)⟩
          obtain ⟨x2, X2, q2⟩ : ∃ x : W32, Hid (x = wS s.data.toList (k - 2)) ∧ wr.cell? ⟨w.heap.size + 1 + 1, k - 2, none⟩ = some (.int .u32 x.toNat) := ⟨_, rfl, HM.out.cell _ (by omega)⟩
          have q5 := HM.out.row.has k (by rw [HM.out.rowsz]; omega)
          have qf := HM.out.row.frozen
          have HWW := Lib.hid (wS_hi s.data.toList k (by omega))
          go_wp2_with fail
          go_region
          go_wp2_with (first | (go_at_call 121; (with_reducible refine (rot7 _ _).mono ?_); rintro e w' ⟨rfl, rfl⟩) | (go_at_call 121; (with_reducible refine (rot18 _ _).mono ?_); rintro e w' ⟨rfl, rfl⟩) | (go_at_call 121; (with_reducible refine (rot17 _ _).mono ?_); rintro e w' ⟨rfl, rfl⟩) | (go_at_call 121; (with_reducible refine (rot19 _ _).mono ?_); rintro e w' ⟨rfl, rfl⟩) | (go_at_call 121; (with_reducible refine (rot6 _ _).mono ?_); rintro e w' ⟨rfl, rfl⟩) | (go_at_call 121; (with_reducible refine (rot11 _ _).mono ?_); rintro e w' ⟨rfl, rfl⟩) | (go_at_call 121; (with_reducible refine (rot25 _ _).mono ?_); rintro e w' ⟨rfl, rfl⟩) | (go_at_call 121; (with_reducible refine (rot2 _ _).mono ?_); rintro e w' ⟨rfl, rfl⟩) | (go_at_call 121; (with_reducible refine (rot13 _ _).mono ?_); rintro e w' ⟨rfl, rfl⟩) | (go_at_call 121; (with_reducible refine (rot22 _ _).mono ?_); rintro e w' ⟨rfl, rfl⟩))
          go_region
          go_wp2_with fail
          go_roundw
          case rel => exact ⟨k + 1, _, by omega, by omega, by go_num, (H0.out.far (by simp; omega) _).drew.drew, (HM.out.set (by omega) _ (by rw [HWW.out, ← X16.out, ← X15.out, ← X7.out, ← X2.out]; unfold sig0 sig1; simp only [xor32', shr8, shr1024]; exact sum4 _ _ _ _)).drew.drew⟩
          case measure => simp [intOf]; omega
        · obtain rfl : k = 64 := by omega
          obtain ⟨w2, hw2⟩ : ∃ x, x = wr := ⟨_, rfl⟩
          subst hw2
          clear hk hlt hk0
          rw [show ((64 : Nat) : Int) = 64 from rfl]
          have a0 : w2.cell? ⟨w.heap.size, 0, none⟩ = some (.int .u32 v.a.toNat) := (H0.out.cell 0).trans rfl
          have a1 : w2.cell? ⟨w.heap.size, 1, none⟩ = some (.int .u32 v.b.toNat) := (H0.out.cell 1).trans rfl
          have a2 : w2.cell? ⟨w.heap.size, 2, none⟩ = some (.int .u32 v.c.toNat) := (H0.out.cell 2).trans rfl
          have a3 : w2.cell? ⟨w.heap.size, 3, none⟩ = some (.int .u32 v.d.toNat) := (H0.out.cell 3).trans rfl
          have a4 : w2.cell? ⟨w.heap.size, 4, none⟩ = some (.int .u32 v.e.toNat) := (H0.out.cell 4).trans rfl
          have a5 : w2.cell? ⟨w.heap.size, 5, none⟩ = some (.int .u32 v.f.toNat) := (H0.out.cell 5).trans rfl
          have a6 : w2.cell? ⟨w.heap.size, 6, none⟩ = some (.int .u32 v.g.toNat) := (H0.out.cell 6).trans rfl
          have a7 : w2.cell? ⟨w.heap.size, 7, none⟩ = some (.int .u32 v.h.toNat) := (H0.out.cell 7).trans rfl
          go_wp2_with fail
          clear a0 a1 a2 a3 a4 a5 a6 a7
          go_loopw [77] (fun i wr => ∃ (k : Nat) (r : St), k ≤ 64 ∧ i = .int .i64 k ∧ r = rds s.data.toList v k ∧ Blk wr w.heap.size 130 #[.int .u32 v.a.toNat, .int .u32 v.b.toNat, .int .u32 v.c.toNat, .int .u32 v.d.toNat, .int .u32 v.e.toNat, .int .u32 v.f.toNat, .int .u32 v.g.toNat, .int .u32 v.h.toNat] ∧ Blk wr w2.heap.size 130 #[.int .u32 r.a.toNat, .int .u32 r.b.toNat, .int .u32 r.c.toNat, .int .u32 r.d.toNat, .int .u32 r.e.toNat, .int .u32 r.f.toNat, .int .u32 r.g.toNat, .int .u32 r.h.toNat] ∧ ShaMem w wr c1 cur 64 s.data.toList) (fun i _ => 64 - (intOf i).toNat)
          case atStart =>
            exact ⟨0, v, by omega, rfl, rfl, H0.out.alloc _, blk_newAt _ _ _ _ rfl, HM.out.alloc _⟩
          case round =>
            obtain ⟨k, r, hk, rfl, hr, B0, B1, M⟩ := hrel
            have HR := Lib.hid hr; have H0 := Lib.hid B0; have H1 := Lib.hid B1; have HM := Lib.hid M
            have hz3 := B1.lt
            have HTr := Lib.hid (HT.out.below M.below hw0)
            clear hr B0 B1 M
            by_cases hlt : k < 64
            · have tK := HTr.out k hlt
              obtain ⟨x, X, tW⟩ : ∃ x : W32, Hid (x = wS s.data.toList k) ∧ wr.cell? ⟨w.heap.size + 1 + 1, k, none⟩ = some (.int .u32 x.toNat) := ⟨_, rfl, HM.out.cell _ (by omega)⟩
              have g0 : wr.cell? ⟨w2.heap.size, 0, none⟩ = some (.int .u32 r.a.toNat) := (H1.out.cell 0).trans rfl
              have g1 : wr.cell? ⟨w2.heap.size, 1, none⟩ = some (.int .u32 r.b.toNat) := (H1.out.cell 1).trans rfl
              have g2 : wr.cell? ⟨w2.heap.size, 2, none⟩ = some (.int .u32 r.c.toNat) := (H1.out.cell 2).trans rfl
              have g3 : wr.cell? ⟨w2.heap.size, 3, none⟩ = some (.int .u32 r.d.toNat) := (H1.out.cell 3).trans rfl
              have g4 : wr.cell? ⟨w2.heap.size, 4, none⟩ = some (.int .u32 r.e.toNat) := (H1.out.cell 4).trans rfl
              have g5 : wr.cell? ⟨w2.heap.size, 5, none⟩ = some (.int .u32 r.f.toNat) := (H1.out.cell 5).trans rfl
              have g6 : wr.cell? ⟨w2.heap.size, 6, none⟩ = some (.int .u32 r.g.toNat) := (H1.out.cell 6).trans rfl
              have g7 : wr.cell? ⟨w2.heap.size, 7, none⟩ = some (.int .u32 r.h.toNat) := (H1.out.cell 7).trans rfl
              have cf := H1.out.frozen
              generalize hK : kW k = y at tK
              have HK := Lib.hid hK; clear hK
              have hsg : IntKind.u32.signed = false := rfl
              go_wp2_with fail
              go_region
              go_wp2_with (first | (go_at_call 121; (with_reducible refine (rot7 _ _).mono ?_); rintro e w' ⟨rfl, rfl⟩) | (go_at_call 121; (with_reducible refine (rot18 _ _).mono ?_); rintro e w' ⟨rfl, rfl⟩) | (go_at_call 121; (with_reducible refine (rot17 _ _).mono ?_); rintro e w' ⟨rfl, rfl⟩) | (go_at_call 121; (with_reducible refine (rot19 _ _).mono ?_); rintro e w' ⟨rfl, rfl⟩) | (go_at_call 121; (with_reducible refine (rot6 _ _).mono ?_); rintro e w' ⟨rfl, rfl⟩) | (go_at_call 121; (with_reducible refine (rot11 _ _).mono ?_); rintro e w' ⟨rfl, rfl⟩) | (go_at_call 121; (with_reducible refine (rot25 _ _).mono ?_); rintro e w' ⟨rfl, rfl⟩) | (go_at_call 121; (with_reducible refine (rot2 _ _).mono ?_); rintro e w' ⟨rfl, rfl⟩) | (go_at_call 121; (with_reducible refine (rot13 _ _).mono ?_); rintro e w' ⟨rfl, rfl⟩) | (go_at_call 121; (with_reducible refine (rot22 _ _).mono ?_); rintro e w' ⟨rfl, rfl⟩))
              go_region
              go_wp2_with (first | (go_at_call 121; (with_reducible refine (rot7 _ _).mono ?_); rintro e w' ⟨rfl, rfl⟩) | (go_at_call 121; (with_reducible refine (rot18 _ _).mono ?_); rintro e w' ⟨rfl, rfl⟩) | (go_at_call 121; (with_reducible refine (rot17 _ _).mono ?_); rintro e w' ⟨rfl, rfl⟩) | (go_at_call 121; (with_reducible refine (rot19 _ _).mono ?_); rintro e w' ⟨rfl, rfl⟩) | (go_at_call 121; (with_reducible refine (rot6 _ _).mono ?_); rintro e w' ⟨rfl, rfl⟩) | (go_at_call 121; (with_reducible refine (rot11 _ _).mono ?_); rintro e w' ⟨rfl, rfl⟩) | (go_at_call 121; (with_reducible refine (rot25 _ _).mono ?_); rintro e w' ⟨rfl, rfl⟩) | (go_at_call 121; (with_reducible refine (rot2 _ _).mono ?_); rintro e w' ⟨rfl, rfl⟩) | (go_at_call 121; (with_reducible refine (rot13 _ _).mono ?_); rintro e w' ⟨rfl, rfl⟩) | (go_at_call 121; (with_reducible refine (rot22 _ _).mono ?_); rintro e w' ⟨rfl, rfl⟩))
              go_roundw
              case rel =>
                refine ⟨k + 1, rnd r y x, by omega, by go_num, ?_, (H0.out.far8 (by omega) _ _ _ _ _ _ _ _).drew.drew, ?_, (HM.out.far8 (by omega) (by omega) (by omega) _ _ _ _ _ _ _ _).drew.drew⟩
                · show _ = rnd (rds s.data.toList v k) (kW k) (wS s.data.toList k)
                  rw [← HR.out, HK.out, ← X.out]
                · simp only [xor32', and32', notx32, sum7L, sum6]
                  exact (H1.out.set8 _ _ _ _ _ _ _ _).drew.drew
              case measure => simp [intOf]; omega
            · obtain rfl : k = 64 := by omega
              obtain ⟨w3, hw3⟩ : ∃ x, x = wr := ⟨_, rfl⟩
              subst hw3
              clear hk hlt
              rw [show ((64 : Nat) : Int) = 64 from rfl]
              have HF := Lib.hid HM.out.res
              have HC := Lib.hid HM.out.ressz
              have HB := Lib.hid HM.out.below
              go_wp2_with fail
              go_loopw [162] (fun i wr => ∃ (k : Nat) (cs : Array Value), k ≤ 8 ∧ i = .int .i64 k ∧ cs.size = 8 ∧ Blk wr w.heap.size 130 cs ∧ (∀ j, j < 8 → cs[j]? = some (.int .u32 (if j < k then wp (v.l.getD j 0) (r.l.getD j 0) else v.l.getD j 0).toNat)) ∧ Blk wr w2.heap.size 130 #[.int .u32 r.a.toNat, .int .u32 r.b.toNat, .int .u32 r.c.toNat, .int .u32 r.d.toNat, .int .u32 r.e.toNat, .int .u32 r.f.toNat, .int .u32 r.g.toNat, .int .u32 r.h.toNat] ∧ Blk wr (w.heap.size + 1) 130 c1 ∧ Below w.heap.size w wr) (fun i _ => 8 - (intOf i).toNat)
              case atStart => exact ⟨0, _, by omega, rfl, rfl, H0.out, fun j hj => by rw [if_neg (by omega)]; exact v.at8 j hj, H1.out, HF.out, HB.out⟩
              case round =>
                obtain ⟨k, cs, hk, rfl, hcs, B0, hcell, B1, B2, hb⟩ := hrel
                have HS0 := Lib.hid hcs; have H0 := Lib.hid B0; have H1 := Lib.hid B1; have HF := Lib.hid B2; have HCl := Lib.hid hcell
                have hz4 := B1.lt
                clear hcs B0 B1 B2 hcell
                by_cases hlt : k < 8
                · have tv : wr.cell? ⟨w.heap.size, k, none⟩ = some (.int .u32 (v.l.getD k 0).toNat) := by rw [H0.out.cell, HCl.out k hlt, if_neg (by omega)]
                  have tr : wr.cell? ⟨w2.heap.size, k, none⟩ = some (.int .u32 (r.l.getD k 0).toNat) := (H1.out.cell k).trans (r.at8 k hlt)
                  generalize hv : v.l.getD k 0 = p at tv
                  generalize hr : r.l.getD k 0 = q at tr
                  have HV := Lib.hid hv; have HR := Lib.hid hr; clear hv hr
                  have cf := H0.out.frozen
                  go_wp2_with fail
                  go_region
                  go_wp2_with fail
                  go_roundw
                  case rel =>
                    refine ⟨k + 1, _, by omega, by go_num, ?_, (H0.out.set_ k _).drew, ?_, (H1.out.far (by simp; omega) _).drew, (HF.out.far (by simp) _).drew, (hb.setCell (Nat.le_refl _) _).drew⟩
                    · simpa using HS0.out
                    · intro j hj
                      rw [Array.getElem?_setIfInBounds]
                      by_cases e : k = j
                      · subst e
                        rw [if_pos rfl, if_pos (by rw [HS0.out]; exact hlt), if_pos (by omega), HV.out, HR.out, ← add32']
                      · rw [if_neg e, HCl.out j hj]
                        by_cases h1 : j < k
                        · rw [if_pos h1, if_pos (by omega)]
                        · rw [if_neg h1, if_neg (by omega)]
                  case measure => simp [intOf]; omega
                · obtain rfl : k = 8 := by omega
                  have z0 : wr.cell? ⟨w.heap.size, 0, none⟩ = some (.int .u32 (wp v.a r.a).toNat) := by rw [H0.out.cell, HCl.out 0 (by omega)]; rfl
                  have z1 : wr.cell? ⟨w.heap.size, 1, none⟩ = some (.int .u32 (wp v.b r.b).toNat) := by rw [H0.out.cell, HCl.out 1 (by omega)]; rfl
                  have z2 : wr.cell? ⟨w.heap.size, 2, none⟩ = some (.int .u32 (wp v.c r.c).toNat) := by rw [H0.out.cell, HCl.out 2 (by omega)]; rfl
                  have z3 : wr.cell? ⟨w.heap.size, 3, none⟩ = some (.int .u32 (wp v.d r.d).toNat) := by rw [H0.out.cell, HCl.out 3 (by omega)]; rfl
                  have z4 : wr.cell? ⟨w.heap.size, 4, none⟩ = some (.int .u32 (wp v.e r.e).toNat) := by rw [H0.out.cell, HCl.out 4 (by omega)]; rfl
                  have z5 : wr.cell? ⟨w.heap.size, 5, none⟩ = some (.int .u32 (wp v.f r.f).toNat) := by rw [H0.out.cell, HCl.out 5 (by omega)]; rfl
                  have z6 : wr.cell? ⟨w.heap.size, 6, none⟩ = some (.int .u32 (wp v.g r.g).toNat) := by rw [H0.out.cell, HCl.out 6 (by omega)]; rfl
                  have z7 : wr.cell? ⟨w.heap.size, 7, none⟩ = some (.int .u32 (wp v.h r.h).toNat) := by rw [H0.out.cell, HCl.out 7 (by omega)]; rfl
                  have hz5 := HF.out.lt
                  obtain ⟨c1⟩ := c1
                  obtain ⟨b0, b1, b2, b3, b4, b5, b6, b7, hc8⟩ := list8 (show c1.length = 8 from HC.out)
                  subst hc8
                  have cf := HF.out.frozen
                  have y0 : wr.cell? ⟨w.heap.size + 1, 0, none⟩ = some b0 := (HF.out.cell 0).trans rfl
                  have y1 : wr.cell? ⟨w.heap.size + 1, 1, none⟩ = some b1 := (HF.out.cell 1).trans rfl
                  have y2 : wr.cell? ⟨w.heap.size + 1, 2, none⟩ = some b2 := (HF.out.cell 2).trans rfl
                  have y3 : wr.cell? ⟨w.heap.size + 1, 3, none⟩ = some b3 := (HF.out.cell 3).trans rfl
                  have y4 : wr.cell? ⟨w.heap.size + 1, 4, none⟩ = some b4 := (HF.out.cell 4).trans rfl
                  have y5 : wr.cell? ⟨w.heap.size + 1, 5, none⟩ = some b5 := (HF.out.cell 5).trans rfl
                  have y6 : wr.cell? ⟨w.heap.size + 1, 6, none⟩ = some b6 := (HF.out.cell 6).trans rfl
                  have y7 : wr.cell? ⟨w.heap.size + 1, 7, none⟩ = some b7 := (HF.out.cell 7).trans rfl
                  go_wp2_with fail
                  have HZ := Lib.hid (HF.out.set8 (.int .u32 (wp v.a r.a).toNat) (.int .u32 (wp v.b r.b).toNat) (.int .u32 (wp v.c r.c).toNat) (.int .u32 (wp v.d r.d).toNat) (.int .u32 (wp v.e r.e).toNat) (.int .u32 (wp v.f r.f).toNat) (.int .u32 (wp v.g r.g).toNat) (.int .u32 (wp v.h r.h).toNat))
                  have HBZ : Hid (Below w.heap.size w ((((((((wr.setCell ⟨w.heap.size + 1, 0, none⟩ (.int .u32 (wp v.a r.a).toNat)).setCell ⟨w.heap.size + 1, 1, none⟩ (.int .u32 (wp v.b r.b).toNat)).setCell ⟨w.heap.size + 1, 2, none⟩ (.int .u32 (wp v.c r.c).toNat)).setCell ⟨w.heap.size + 1, 3, none⟩ (.int .u32 (wp v.d r.d).toNat)).setCell ⟨w.heap.size + 1, 4, none⟩ (.int .u32 (wp v.e r.e).toNat)).setCell ⟨w.heap.size + 1, 5, none⟩ (.int .u32 (wp v.f r.f).toNat)).setCell ⟨w.heap.size + 1, 6, none⟩ (.int .u32 (wp v.g r.g).toNat)).setCell ⟨w.heap.size + 1, 7, none⟩ (.int .u32 (wp v.h r.h).toNat))) := by
                    show Below _ _ _
                    repeat with_reducible refine Below.setCell ?_ (by simp) _
                    with_reducible exact hb
                  generalize ((((((((wr.setCell ⟨w.heap.size + 1, 0, none⟩ (.int .u32 (wp v.a r.a).toNat)).setCell ⟨w.heap.size + 1, 1, none⟩ (.int .u32 (wp v.b r.b).toNat)).setCell ⟨w.heap.size + 1, 2, none⟩ (.int .u32 (wp v.c r.c).toNat)).setCell ⟨w.heap.size + 1, 3, none⟩ (.int .u32 (wp v.d r.d).toNat)).setCell ⟨w.heap.size + 1, 4, none⟩ (.int .u32 (wp v.e r.e).toNat)).setCell ⟨w.heap.size + 1, 5, none⟩ (.int .u32 (wp v.f r.f).toNat)).setCell ⟨w.heap.size + 1, 6, none⟩ (.int .u32 (wp v.g r.g).toNat)).setCell ⟨w.heap.size + 1, 7, none⟩ (.int .u32 (wp v.h r.h).toNat)) = wz at *
                  have t0 : wz.cell? ⟨w.heap.size + 1, 0, none⟩ = some (.int .u32 (wp v.a r.a).toNat) := (HZ.out.cell 0).trans rfl
                  have t1 : wz.cell? ⟨w.heap.size + 1, 1, none⟩ = some (.int .u32 (wp v.b r.b).toNat) := (HZ.out.cell 1).trans rfl
                  have t2 : wz.cell? ⟨w.heap.size + 1, 2, none⟩ = some (.int .u32 (wp v.c r.c).toNat) := (HZ.out.cell 2).trans rfl
                  have t3 : wz.cell? ⟨w.heap.size + 1, 3, none⟩ = some (.int .u32 (wp v.d r.d).toNat) := (HZ.out.cell 3).trans rfl
                  have t4 : wz.cell? ⟨w.heap.size + 1, 4, none⟩ = some (.int .u32 (wp v.e r.e).toNat) := (HZ.out.cell 4).trans rfl
                  have t5 : wz.cell? ⟨w.heap.size + 1, 5, none⟩ = some (.int .u32 (wp v.f r.f).toNat) := (HZ.out.cell 5).trans rfl
                  have t6 : wz.cell? ⟨w.heap.size + 1, 6, none⟩ = some (.int .u32 (wp v.g r.g).toNat) := (HZ.out.cell 6).trans rfl
                  have t7 : wz.cell? ⟨w.heap.size + 1, 7, none⟩ = some (.int .u32 (wp v.h r.h).toNat) := (HZ.out.cell 7).trans rfl
                  clear z0 z1 z2 z3 z4 z5 z6 z7 y0 y1 y2 y3 y4 y5 y6 y7
                  exact bodyPost_ret (v := .agg #[.int .u32 (wp v.a r.a).toNat, .int .u32 (wp v.b r.b).toNat, .int .u32 (wp v.c r.c).toNat, .int .u32 (wp v.d r.d).toNat, .int .u32 (wp v.e r.e).toNat, .int .u32 (wp v.f r.f).toNat, .int .u32 (wp v.g r.g).toNat, .int .u32 (wp v.h r.h).toNat]) (by simp [results, Tryz.results112, go_sem, t0, t1, t2, t3, t4, t5, t6, t7]) rfl ⟨v.plus r, by rw [HR.out]; rfl, rfl, HBZ.out⟩
end Go.Proofs.YtelnnegfkdfpiaaGreatDoor
