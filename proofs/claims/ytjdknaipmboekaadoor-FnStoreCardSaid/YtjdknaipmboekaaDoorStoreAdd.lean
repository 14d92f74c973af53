/- StoreAdd of the program and of the reference (printed by wip/storefun.py). -/
import Derived.Test.YtjdknaipmboekaaDoorStoreFun2
import Derived.WalkKit
import Derived.WalkSpells
import Derived.WalkLawsBesides
import Derived.Lib.Hide
namespace Go.Proofs.YtjdknaipmboekaaDoor
open Go.RowKit

def addY (l : List HeaderD) (y : Int) (_v : HeaderD) : Int := if storeB l y = true then y else 0
def addL (l : List HeaderD) (y : Int) (v : HeaderD) : List HeaderD := if storeB l y = true then (if storeB (l ++ [v]) y = true then l ++ [v] else l) else []
def addB (l : List HeaderD) (y : Int) (v : HeaderD) : Bool := storeB l y && storeB (l ++ [v]) y
theorem StoreAdd_len (y : Int) (l : List HeaderD) (v : HeaderD) : (addL l y v).length ≤ l.length + 1 := by
  unfold addL; split
  · split <;> simp
  · simp

set_option maxHeartbeats 4000000 in
theorem StoreAdd_any (y : Int) (A : Option Addr) (c : Nat) (l : List HeaderD) (v : HeaderD) (w : World) (hl : RdL headC 6 w w.heap.size A l.length c l) (ht : Tab w) :
    Calls Tryd.prog 27 #[.agg #[.slice A l.length c, .int .i64 y], .agg #[.int .i64 v.h, .int .i64 v.t, .string v.last, .string v.vals, .string v.next, .string v.data]] w (StoreOutK (addY l y v) (addL l y v) (.bool (addB l y v)) w) := by
  have HL := Lib.hid hl
  clear hl
  have HT := Lib.hid ht
  clear ht
  cases hB : storeB l y
  · skip
    have E1 : Hid (addY l y v = 0) := by show _ = _; simp [addY, hB]
    have E2 : Hid (addL l y v = []) := by show _ = _; simp [addL, hB]
    have E3 : Hid (addB l y v = false) := by show _ = _; simp [addB, hB]
    have HBB := Lib.hid hB
    clear hB
    have BP0 : Blk (((w.alloc (.cells #[.slice A l.length c, .int .i64 y] 29)).alloc (.cells #[.int .i64 v.h, .int .i64 v.t, .string v.last, .string v.vals, .string v.next, .string v.data] 34)).alloc (.cells #[.slice none 0 0, .int .i64 0] 29)) w.heap.size 29 #[.slice A l.length c, .int .i64 y] := Blk.alloc (Blk.alloc (heap_alloc_new w _) _) _
    have BH0 : Blk (((w.alloc (.cells #[.slice A l.length c, .int .i64 y] 29)).alloc (.cells #[.int .i64 v.h, .int .i64 v.t, .string v.last, .string v.vals, .string v.next, .string v.data] 34)).alloc (.cells #[.slice none 0 0, .int .i64 0] 29)) (w.heap.size + 1) 34 #[.int .i64 v.h, .int .i64 v.t, .string v.last, .string v.vals, .string v.next, .string v.data] := Blk.alloc (blk_newAt (w.alloc (.cells #[.slice A l.length c, .int .i64 y] 29)) (w.heap.size + 1) _ _ (World.size_alloc _ _)) _
    have BR0 : Blk (((w.alloc (.cells #[.slice A l.length c, .int .i64 y] 29)).alloc (.cells #[.int .i64 v.h, .int .i64 v.t, .string v.last, .string v.vals, .string v.next, .string v.data] 34)).alloc (.cells #[.slice none 0 0, .int .i64 0] 29)) (w.heap.size + 1 + 1) 29 #[.slice none 0 0, .int .i64 0] := blk_newAt ((w.alloc (.cells #[.slice A l.length c, .int .i64 y] 29)).alloc (.cells #[.int .i64 v.h, .int .i64 v.t, .string v.last, .string v.vals, .string v.next, .string v.data] 34)) (w.heap.size + 1 + 1) _ _ (by rw [World.size_alloc, World.size_alloc])
    have HB0 : Hid (Below w.heap.size w (((w.alloc (.cells #[.slice A l.length c, .int .i64 y] 29)).alloc (.cells #[.int .i64 v.h, .int .i64 v.t, .string v.last, .string v.vals, .string v.next, .string v.data] 34)).alloc (.cells #[.slice none 0 0, .int .i64 0] 29))) := (((Below.refl _ _).alloc (Nat.le_refl _) _).alloc (by rw [World.size_alloc]; omega) _).alloc (by rw [World.size_alloc, World.size_alloc]; omega) _
    have HR0 : Hid (RdL headC 6 (((w.alloc (.cells #[.slice A l.length c, .int .i64 y] 29)).alloc (.cells #[.int .i64 v.h, .int .i64 v.t, .string v.last, .string v.vals, .string v.next, .string v.data] 34)).alloc (.cells #[.slice none 0 0, .int .i64 0] 29)) (((w.alloc (.cells #[.slice A l.length c, .int .i64 y] 29)).alloc (.cells #[.int .i64 v.h, .int .i64 v.t, .string v.last, .string v.vals, .string v.next, .string v.data] 34)).alloc (.cells #[.slice none 0 0, .int .i64 0] 29)).heap.size A l.length c l) := (HL.out.below HB0.out (Nat.le_refl _)).more HB0.out.size
    go_enter Tryd.func27, Tryd.ntmps27
    go_wp2_with fail
    refine (StoreOk_any A l.length c l _ _ (by exact HR0.out) (by exact HT.out.below HB0.out HT.out.pos)).mono ?_
    rw [HBB.out]
    rintro e w1 ⟨rfl, hb⟩
    have BP1 := BP0.below hb BP0.lt
    have BH1 := BH0.below hb BH0.lt
    have BR1 := BR0.below hb BR0.lt
    have HB1 := Lib.hid (HB0.out.trans (hb.mono HB0.out.size))
    clear hb BP0 BH0 BR0
    have tr0 : w1.cell? ⟨w.heap.size + 1 + 1, 0, none⟩ = some (.slice none 0 0) := (Blk.cell BR1 0).trans rfl
    have tr1 : w1.cell? ⟨w.heap.size + 1 + 1, 1, none⟩ = some (.int .i64 0) := (Blk.cell BR1 1).trans rfl
    have fr := BR1.frozen
    go_wp2
    refine bodyPost_ret (v := .tuple #[.agg #[.slice none 0 0, .int .i64 0], .bool false]) (by simp [results, Tryd.results27, go_sem, tr0, tr1]) rfl ?_
    rw [E1.out, E2.out, E3.out]
    refine ⟨none, 0, rfl, ⟨rfl, .inl ⟨rfl, rfl, rfl⟩⟩, ?_⟩
    (repeat (first | with_reducible refine Below.setCell ?_ (by first | exact Nat.le_refl _ | (simp; done) | (simp; omega)) _ | with_reducible refine Below.alloc ?_ (by first | exact Nat.le_refl _ | (simp; done) | (simp; omega)) _ | with_reducible refine Below.drew ?_)); (with_reducible exact HB1.out)
  · obtain ⟨hn20, hy0, hy1⟩ := storeB_facts hB
    have HBB := Lib.hid hB
    obtain ⟨i0, hi, hz0, hz1, hz2⟩ := info_parts infoHeader
    have E1 : Hid (addY l y v = y) := by show _ = _; simp [addY, hB]
    have E2 : Hid (addL l y v = if storeB (l ++ [v]) y = true then l ++ [v] else l) := by show _ = _; simp [addL, hB]
    have E3 : Hid (addB l y v = storeB (l ++ [v]) y) := by show _ = _; simp [addB, hB]
    clear hB
    have BP0 : Blk (((w.alloc (.cells #[.slice A l.length c, .int .i64 y] 29)).alloc (.cells #[.int .i64 v.h, .int .i64 v.t, .string v.last, .string v.vals, .string v.next, .string v.data] 34)).alloc (.cells #[.slice none 0 0, .int .i64 0] 29)) w.heap.size 29 #[.slice A l.length c, .int .i64 y] := Blk.alloc (Blk.alloc (heap_alloc_new w _) _) _
    have BH0 : Blk (((w.alloc (.cells #[.slice A l.length c, .int .i64 y] 29)).alloc (.cells #[.int .i64 v.h, .int .i64 v.t, .string v.last, .string v.vals, .string v.next, .string v.data] 34)).alloc (.cells #[.slice none 0 0, .int .i64 0] 29)) (w.heap.size + 1) 34 #[.int .i64 v.h, .int .i64 v.t, .string v.last, .string v.vals, .string v.next, .string v.data] := Blk.alloc (blk_newAt (w.alloc (.cells #[.slice A l.length c, .int .i64 y] 29)) (w.heap.size + 1) _ _ (World.size_alloc _ _)) _
    have BR0 : Blk (((w.alloc (.cells #[.slice A l.length c, .int .i64 y] 29)).alloc (.cells #[.int .i64 v.h, .int .i64 v.t, .string v.last, .string v.vals, .string v.next, .string v.data] 34)).alloc (.cells #[.slice none 0 0, .int .i64 0] 29)) (w.heap.size + 1 + 1) 29 #[.slice none 0 0, .int .i64 0] := blk_newAt ((w.alloc (.cells #[.slice A l.length c, .int .i64 y] 29)).alloc (.cells #[.int .i64 v.h, .int .i64 v.t, .string v.last, .string v.vals, .string v.next, .string v.data] 34)) (w.heap.size + 1 + 1) _ _ (by rw [World.size_alloc, World.size_alloc])
    have HB0 : Hid (Below w.heap.size w (((w.alloc (.cells #[.slice A l.length c, .int .i64 y] 29)).alloc (.cells #[.int .i64 v.h, .int .i64 v.t, .string v.last, .string v.vals, .string v.next, .string v.data] 34)).alloc (.cells #[.slice none 0 0, .int .i64 0] 29))) := (((Below.refl _ _).alloc (Nat.le_refl _) _).alloc (by rw [World.size_alloc]; omega) _).alloc (by rw [World.size_alloc, World.size_alloc]; omega) _
    have HR0 : Hid (RdL headC 6 (((w.alloc (.cells #[.slice A l.length c, .int .i64 y] 29)).alloc (.cells #[.int .i64 v.h, .int .i64 v.t, .string v.last, .string v.vals, .string v.next, .string v.data] 34)).alloc (.cells #[.slice none 0 0, .int .i64 0] 29)) (((w.alloc (.cells #[.slice A l.length c, .int .i64 y] 29)).alloc (.cells #[.int .i64 v.h, .int .i64 v.t, .string v.last, .string v.vals, .string v.next, .string v.data] 34)).alloc (.cells #[.slice none 0 0, .int .i64 0] 29)).heap.size A l.length c l) := (HL.out.below HB0.out (Nat.le_refl _)).more HB0.out.size
    go_enter Tryd.func27, Tryd.ntmps27
    go_wp2_with fail
    refine (StoreOk_any A l.length c l _ _ (by exact HR0.out) (by exact HT.out.below HB0.out HT.out.pos)).mono ?_
    rw [HBB.out]
    rintro e w1 ⟨rfl, hb⟩
    have BP1 := BP0.below hb BP0.lt
    have BH1 := BH0.below hb BH0.lt
    have BR1 := BR0.below hb BR0.lt
    have HB1 := Lib.hid (HB0.out.trans (hb.mono HB0.out.size))
    clear hb BP0 BH0 BR0
    have ta0 : w1.cell? ⟨w.heap.size, 0, none⟩ = some (.slice A l.length c) := (Blk.cell BP1 0).trans rfl
    have ta1 : w1.cell? ⟨w.heap.size, 1, none⟩ = some (.int .i64 y) := (Blk.cell BP1 1).trans rfl
    go_wp2_with fail
    refine (copyStore_any _ A l.length c l _ (by exact (HL.out.below HB1.out (Nat.le_refl _)).more HB1.out.size) (by omega)).mono ?_
    rintro e w2 ⟨A2, n2, c2, rfl, ho, hb⟩
    obtain rfl : l.length = n2 := ho.1
    have HO := Lib.hid ho
    have BP2 := BP1.below hb BP1.lt
    have BH2 := BH1.below hb BH1.lt
    have BR2 := BR1.below hb BR1.lt
    have s12 := hb.size
    have s1 := BR1.lt
    have HB2 := Lib.hid (HB1.out.trans (hb.mono HB1.out.size))
    clear ho hb BP1 BR1 BH1 ta0 ta1
    have th0 : w2.cell? ⟨w.heap.size + 1, 0, none⟩ = some (.int .i64 v.h) := (Blk.cell BH2 0).trans rfl
    have th1 : w2.cell? ⟨w.heap.size + 1, 1, none⟩ = some (.int .i64 v.t) := (Blk.cell BH2 1).trans rfl
    have th2 : w2.cell? ⟨w.heap.size + 1, 2, none⟩ = some (.string v.last) := (Blk.cell BH2 2).trans rfl
    have th3 : w2.cell? ⟨w.heap.size + 1, 3, none⟩ = some (.string v.vals) := (Blk.cell BH2 3).trans rfl
    have th4 : w2.cell? ⟨w.heap.size + 1, 4, none⟩ = some (.string v.next) := (Blk.cell BH2 4).trans rfl
    have th5 : w2.cell? ⟨w.heap.size + 1, 5, none⟩ = some (.string v.data) := (Blk.cell BH2 5).trans rfl
    have s2 := BR2.lt
    have s21 : w.heap.size + 1 < w2.heap.size := by omega
    have s20 : w.heap.size < w2.heap.size := by omega
    have hneh : (w.heap.size + 1 = w2.heap.size) = False := by simp; omega
    have hneh2 : (w2.heap.size = w.heap.size + 1) = False := by simp; omega
    have VX0 : Blk ((w2.alloc (.cells #[.slice A2 l.length c2, .int .i64 y] 29)).alloc (.cells #[.int .i64 v.h, .int .i64 v.t, .string v.last, .string v.vals, .string v.next, .string v.data] 34)) w2.heap.size 29 #[.slice A2 l.length c2, .int .i64 y] := Blk.alloc (heap_alloc_new w2 _) _
    have BR2' := (BR2.alloc (.cells #[.slice A2 l.length c2, .int .i64 y] 29)).alloc (.cells #[.int .i64 v.h, .int .i64 v.t, .string v.last, .string v.vals, .string v.next, .string v.data] 34)
    have BP2' := (BP2.alloc (.cells #[.slice A2 l.length c2, .int .i64 y] 29)).alloc (.cells #[.int .i64 v.h, .int .i64 v.t, .string v.last, .string v.vals, .string v.next, .string v.data] 34)
    have HBX : Hid (Below w.heap.size w ((w2.alloc (.cells #[.slice A2 l.length c2, .int .i64 y] 29)).alloc (.cells #[.int .i64 v.h, .int .i64 v.t, .string v.last, .string v.vals, .string v.next, .string v.data] 34))) := (HB2.out.alloc (by omega) _).alloc (by rw [World.size_alloc]; omega) _
    have HOWN : Hid (World.ownsRow ((w2.alloc (.cells #[.slice A2 l.length c2, .int .i64 y] 29)).alloc (.cells #[.int .i64 v.h, .int .i64 v.t, .string v.last, .string v.vals, .string v.next, .string v.data] 34)) w1.heap.size 34 6 (.slice A2 l.length c2) l.length (l.flatMap headC)) := ((HO.out.owns headC_len).alloc _).alloc _
    have HONE : Hid (Rd ((w2.alloc (.cells #[.slice A2 l.length c2, .int .i64 y] 29)).alloc (.cells #[.int .i64 v.h, .int .i64 v.t, .string v.last, .string v.vals, .string v.next, .string v.data] 34)) (w2.heap.size + 1 + 1) (some ⟨w2.heap.size + 1, 0, none⟩) 1 1 6 ([v].flatMap headC)) := by
      have h := Rd_oneI (w2.alloc (.cells #[.slice A2 l.length c2, .int .i64 y] 29)) #[.int .i64 v.h, .int .i64 v.t, .string v.last, .string v.vals, .string v.next, .string v.data] 34 6 rfl (w2.heap.size + 1) (World.size_alloc _ _).symm
      rw [World.size_alloc] at h
      exact h
    clear BR2 BP2 BH2
    go_wp2_with (at_builtin; refine wpList_app_rd _ rfl _ _ _ rfl w1.heap.size 34 i0 _ 6 80 Tryd.underlying27 hi hz0 hz1 hz2 rfl (by decide) (.slice A2 l.length c2) l.length (l.flatMap headC) rfl (by exact HOWN.out) (w2.heap.size + 1 + 1) (some ⟨w2.heap.size + 1, 0, none⟩) 1 1 ([v].flatMap headC) rfl (by exact HONE.out) (headC_one _) (by unfold maxLen; omega) (by omega) (by first | (simp; done) | omega | (simp; omega)) ?_)
    intro v3 w3 hown hg hat
    have hown : w3.ownsRow w1.heap.size 34 6 v3 (l.length + 1) ((l ++ [v]).flatMap headC) := by rw [List.flatMap_append]; simpa using hown
    obtain ⟨A3, c3, rfl, ho⟩ := OwnL.of_own (f := headC) (l := l ++ [v]) (n := l.length + 1) (by simp) hown
    have HO3 := Lib.hid ho
    have C3 : Hid (Chg w1.heap.size w2.heap.size ((w2.alloc (.cells #[.slice A2 l.length c2, .int .i64 y] 29)).alloc (.cells #[.int .i64 v.h, .int .i64 v.t, .string v.last, .string v.vals, .string v.next, .string v.data] 34)) w3) := grown_chg hg (fun g e => HO.out.block g e)
    have HNE : Hid (∀ g, Value.ownBlock (.slice A3 (l.length + 1) c3) = some g → g ≠ w2.heap.size) := by
      intro g e
      rcases hat with h | h
      · rw [h] at e; have := HO.out.block g e; omega
      · rw [h] at e; simp at e; omega
    clear hown ho hg hat th0 th1 th2 th3 th4 th5
    have s23 : w2.heap.size + 2 ≤ w3.heap.size := by have h := C3.out.size; rw [World.size_alloc, World.size_alloc] at h; omega
    have BX3 : Blk w3 w2.heap.size 29 #[.slice A2 l.length c2, .int .i64 y] := (C3.out.block _ (by simp; omega) (.inr (Nat.le_refl _))).trans VX0
    have BR3 : Blk w3 (w.heap.size + 1 + 1) 29 #[.slice none 0 0, .int .i64 0] := (C3.out.block _ (by simp; omega) (.inl (by omega))).trans BR2'
    have BP3 : Blk w3 w.heap.size 29 #[.slice A l.length c, .int .i64 y] := (C3.out.block _ (by simp; omega) (.inl (by omega))).trans BP2'
    have HB3 := Lib.hid (HBX.out.trans (C3.out.below (by omega) (by simp; omega)))
    clear VX0 BR2' BP2'
    have xr0 : w3.cell? ⟨w2.heap.size, 0, none⟩ = some (.slice A2 l.length c2) := (Blk.cell BX3 0).trans rfl
    have xr1 : w3.cell? ⟨w2.heap.size, 1, none⟩ = some (.int .i64 y) := (Blk.cell BX3 1).trans rfl
    have fx := BX3.frozen
    have s30 : w2.heap.size < w3.heap.size := by omega
    have HS3 := Lib.hid (show w3.heap.size = w3.heap.size from rfl)
    obtain ⟨w4, hw4⟩ : ∃ q, q = w3.setCell ⟨w2.heap.size, 0, none⟩ (.slice A3 (l.length + 1) c3) := ⟨_, rfl⟩
    have BX4 : Blk w4 w2.heap.size 29 #[.slice A3 (l.length + 1) c3, .int .i64 y] := by
      rw [hw4]
      have hb := BX3.set_ 0 (.slice A3 (l.length + 1) c3)
      simp only [List.setIfInBounds_toArray, List.set_cons_zero] at hb
      exact hb
    have BR4 : Blk w4 (w.heap.size + 1 + 1) 29 #[.slice none 0 0, .int .i64 0] := by
      rw [hw4]
      exact BR3.far (by show w.heap.size + 1 + 1 ≠ w2.heap.size; omega) _
    have BP4 : Blk w4 w.heap.size 29 #[.slice A l.length c, .int .i64 y] := by
      rw [hw4]
      exact BP3.far (by show w.heap.size ≠ w2.heap.size; omega) _
    have C4 : Hid (Chg w2.heap.size (w2.heap.size + 1) w3 w4) := by
      show Chg _ _ _ _
      rw [hw4]
      (repeat (first | with_reducible refine Chg.setCell ?_ (by first | exact Nat.le_refl _ | (simp; done) | (simp; omega)) (by first | (simp; done) | (simp; omega)) _ | with_reducible refine Chg.alloc ?_ _ | with_reducible refine Chg.drew ?_)); (with_reducible exact Chg.refl _ _ _)
    have s34 : w3.heap.size ≤ w4.heap.size := C4.out.size
    have HO4 : Hid (OwnL headC 6 34 w4 w1.heap.size w4.heap.size A3 (l.length + 1) c3 (l ++ [v])) := (HO3.out.keep (fun g _ _ e => by rw [hw4]; exact Below.heap_setCell w3 _ _ g (HNE.out g e))).wide (Nat.le_refl _) s34
    have HB4 := Lib.hid (HB3.out.trans (C4.out.below (by omega) (by omega)))
    have HR4 : Hid (RdL headC 6 w4 w4.heap.size A3 (l.length + 1) c3 (l ++ [v])) := HO4.out.rd headC_len
    cases hB2 : storeB (l ++ [v]) y
    · have HB22 := Lib.hid hB2
      go_wp2_with fail
      rw [← hw4]
      refine (StoreOk_any A3 (l.length + 1) c3 (l ++ [v]) _ _ (by exact HR4.out) (by exact HT.out.below HB4.out HT.out.pos)).mono ?_
      rw [HB22.out]
      rintro e w5 ⟨rfl, hb⟩
      have BX5 := BX4.below hb BX4.lt
      have BR5 := BR4.below hb BR4.lt
      have BP5 := BP4.below hb BP4.lt
      have s45 : w4.heap.size ≤ w5.heap.size := hb.size
      have HO5 := Lib.hid (HO4.out.below hb (Nat.le_refl _))
      have HB5 := Lib.hid (HB4.out.trans (hb.mono HB4.out.size))
      clear hb BX4 BR4 BP4 hw4 xr0 xr1 fx s30
      have ta0 : w5.cell? ⟨w.heap.size, 0, none⟩ = some (.slice A l.length c) := (Blk.cell BP5 0).trans rfl
      have ta1 : w5.cell? ⟨w.heap.size, 1, none⟩ = some (.int .i64 y) := (Blk.cell BP5 1).trans rfl
      go_wp2_with fail
      refine (copyStore_any _ A l.length c l _ (by exact (HL.out.below HB5.out (Nat.le_refl _)).more HB5.out.size) (by omega)).mono ?_
      rintro e w6 ⟨A6, n6, c6, rfl, ho, hb⟩
      obtain rfl : l.length = n6 := ho.1
      have HO6 := Lib.hid ho
      have BR6 := BR5.below hb BR5.lt
      have s56 := hb.size
      have HB6 := Lib.hid (HB5.out.trans (hb.mono HB5.out.size))
      clear ho hb BX5 BR5 BP5 ta0 ta1
      have tr0 : w6.cell? ⟨w.heap.size + 1 + 1, 0, none⟩ = some (.slice none 0 0) := (Blk.cell BR6 0).trans rfl
      have tr1 : w6.cell? ⟨w.heap.size + 1 + 1, 1, none⟩ = some (.int .i64 0) := (Blk.cell BR6 1).trans rfl
      have fr := BR6.frozen
      have s6 := BR6.lt
      clear BR6
      go_wp2
      refine bodyPost_ret (v := .tuple #[.agg #[.slice A6 l.length c6, .int .i64 y], .bool false]) (by simp [results, Tryd.results27, go_sem, tr0, tr1]) rfl ?_
      rw [E1.out, E2.out, E3.out, hB2, if_neg (by decide)]
      refine ⟨A6, c6, rfl, ?_, ?_⟩
      · refine ((HO6.out.chg (lo' := w.heap.size) (hi' := w.heap.size + 3) ?_ (.inr (by omega))).wide (by omega) (by simp))
        (repeat (first | with_reducible refine Chg.setCell ?_ (by first | exact Nat.le_refl _ | (simp; done) | (simp; omega)) (by first | (simp; done) | (simp; omega)) _ | with_reducible refine Chg.alloc ?_ _ | with_reducible refine Chg.drew ?_)); (with_reducible exact Chg.refl _ _ _)
      · (repeat (first | with_reducible refine Below.setCell ?_ (by first | exact Nat.le_refl _ | (simp; done) | (simp; omega)) _ | with_reducible refine Below.alloc ?_ (by first | exact Nat.le_refl _ | (simp; done) | (simp; omega)) _ | with_reducible refine Below.drew ?_)); (with_reducible exact HB6.out)
    · have HB22 := Lib.hid hB2
      go_wp2_with fail
      rw [← hw4]
      refine (StoreOk_any A3 (l.length + 1) c3 (l ++ [v]) _ _ (by exact HR4.out) (by exact HT.out.below HB4.out HT.out.pos)).mono ?_
      rw [HB22.out]
      rintro e w5 ⟨rfl, hb⟩
      have BX5 := BX4.below hb BX4.lt
      have BR5 := BR4.below hb BR4.lt
      have BP5 := BP4.below hb BP4.lt
      have s45 : w4.heap.size ≤ w5.heap.size := hb.size
      have HO5 := Lib.hid (HO4.out.below hb (Nat.le_refl _))
      have HB5 := Lib.hid (HB4.out.trans (hb.mono HB4.out.size))
      clear hb BX4 BR4 BP4 hw4 xr0 xr1 fx s30
      have xr0 : w5.cell? ⟨w2.heap.size, 0, none⟩ = some (.slice A3 (l.length + 1) c3) := (Blk.cell BX5 0).trans rfl
      have xr1 : w5.cell? ⟨w2.heap.size, 1, none⟩ = some (.int .i64 y) := (Blk.cell BX5 1).trans rfl
      have tr0 : w5.cell? ⟨w.heap.size + 1 + 1, 0, none⟩ = some (.slice none 0 0) := (Blk.cell BR5 0).trans rfl
      have tr1 : w5.cell? ⟨w.heap.size + 1 + 1, 1, none⟩ = some (.int .i64 0) := (Blk.cell BR5 1).trans rfl
      have fr := BR5.frozen
      have s5 := BR5.lt
      have s52 := BX5.lt
      have hn1 : (w.heap.size + 1 + 1 = w2.heap.size) = False := by simp; omega
      have hn2 : (w2.heap.size = w.heap.size + 1 + 1) = False := by simp; omega
      clear BX5 BR5 BP5
      go_wp2
      refine bodyPost_ret (v := .tuple #[.agg #[.slice A3 (l.length + 1) c3, .int .i64 y], .bool true]) (by simp [results, Tryd.results27, go_sem, tr0, tr1]) rfl ?_
      rw [E1.out, E2.out, E3.out, hB2, if_pos rfl]
      refine ⟨A3, c3, by rw [List.length_append]; rfl, ?_, ?_⟩
      · rw [List.length_append]
        refine ((HO5.out.chg (lo' := w.heap.size) (hi' := w.heap.size + 3) ?_ (.inr (by omega))).wide (by omega) (by simp; omega))
        (repeat (first | with_reducible refine Chg.setCell ?_ (by first | exact Nat.le_refl _ | (simp; done) | (simp; omega)) (by first | (simp; done) | (simp; omega)) _ | with_reducible refine Chg.alloc ?_ _ | with_reducible refine Chg.drew ?_)); (with_reducible exact Chg.refl _ _ _)
      · (repeat (first | with_reducible refine Below.setCell ?_ (by first | exact Nat.le_refl _ | (simp; done) | (simp; omega)) _ | with_reducible refine Below.alloc ?_ (by first | exact Nat.le_refl _ | (simp; done) | (simp; omega)) _ | with_reducible refine Below.drew ?_)); (with_reducible exact HB5.out)

set_option maxHeartbeats 4000000 in
theorem sStoreAdd_any (y : Int) (A : Option Addr) (c : Nat) (l : List HeaderD) (v : HeaderD) (w : World) (hl : RdL headC 6 w w.heap.size A l.length c l) :
    Calls Tryd.prog 25 #[.agg #[.slice A l.length c, .int .i64 y], .agg #[.int .i64 v.h, .int .i64 v.t, .string v.last, .string v.vals, .string v.next, .string v.data]] w (StoreOutK (addY l y v) (addL l y v) (.bool (addB l y v)) w) := by
  have HL := Lib.hid hl
  clear hl
  cases hB : storeB l y
  · skip
    have E1 : Hid (addY l y v = 0) := by show _ = _; simp [addY, hB]
    have E2 : Hid (addL l y v = []) := by show _ = _; simp [addL, hB]
    have E3 : Hid (addB l y v = false) := by show _ = _; simp [addB, hB]
    have HBB := Lib.hid hB
    clear hB
    have BP0 : Blk (((w.alloc (.cells #[.slice A l.length c, .int .i64 y] 29)).alloc (.cells #[.int .i64 v.h, .int .i64 v.t, .string v.last, .string v.vals, .string v.next, .string v.data] 34)).alloc (.cells #[.slice none 0 0, .int .i64 0] 29)) w.heap.size 29 #[.slice A l.length c, .int .i64 y] := Blk.alloc (Blk.alloc (heap_alloc_new w _) _) _
    have BH0 : Blk (((w.alloc (.cells #[.slice A l.length c, .int .i64 y] 29)).alloc (.cells #[.int .i64 v.h, .int .i64 v.t, .string v.last, .string v.vals, .string v.next, .string v.data] 34)).alloc (.cells #[.slice none 0 0, .int .i64 0] 29)) (w.heap.size + 1) 34 #[.int .i64 v.h, .int .i64 v.t, .string v.last, .string v.vals, .string v.next, .string v.data] := Blk.alloc (blk_newAt (w.alloc (.cells #[.slice A l.length c, .int .i64 y] 29)) (w.heap.size + 1) _ _ (World.size_alloc _ _)) _
    have BR0 : Blk (((w.alloc (.cells #[.slice A l.length c, .int .i64 y] 29)).alloc (.cells #[.int .i64 v.h, .int .i64 v.t, .string v.last, .string v.vals, .string v.next, .string v.data] 34)).alloc (.cells #[.slice none 0 0, .int .i64 0] 29)) (w.heap.size + 1 + 1) 29 #[.slice none 0 0, .int .i64 0] := blk_newAt ((w.alloc (.cells #[.slice A l.length c, .int .i64 y] 29)).alloc (.cells #[.int .i64 v.h, .int .i64 v.t, .string v.last, .string v.vals, .string v.next, .string v.data] 34)) (w.heap.size + 1 + 1) _ _ (by rw [World.size_alloc, World.size_alloc])
    have HB0 : Hid (Below w.heap.size w (((w.alloc (.cells #[.slice A l.length c, .int .i64 y] 29)).alloc (.cells #[.int .i64 v.h, .int .i64 v.t, .string v.last, .string v.vals, .string v.next, .string v.data] 34)).alloc (.cells #[.slice none 0 0, .int .i64 0] 29))) := (((Below.refl _ _).alloc (Nat.le_refl _) _).alloc (by rw [World.size_alloc]; omega) _).alloc (by rw [World.size_alloc, World.size_alloc]; omega) _
    have HR0 : Hid (RdL headC 6 (((w.alloc (.cells #[.slice A l.length c, .int .i64 y] 29)).alloc (.cells #[.int .i64 v.h, .int .i64 v.t, .string v.last, .string v.vals, .string v.next, .string v.data] 34)).alloc (.cells #[.slice none 0 0, .int .i64 0] 29)) (((w.alloc (.cells #[.slice A l.length c, .int .i64 y] 29)).alloc (.cells #[.int .i64 v.h, .int .i64 v.t, .string v.last, .string v.vals, .string v.next, .string v.data] 34)).alloc (.cells #[.slice none 0 0, .int .i64 0] 29)).heap.size A l.length c l) := (HL.out.below HB0.out (Nat.le_refl _)).more HB0.out.size
    go_enter Tryd.func25, Tryd.ntmps25
    go_wp2_with fail
    refine (sStoreOk_any A l.length c l _ _ (by exact HR0.out)).mono ?_
    rw [HBB.out]
    rintro e w1 ⟨rfl, hb⟩
    have BP1 := BP0.below hb BP0.lt
    have BH1 := BH0.below hb BH0.lt
    have BR1 := BR0.below hb BR0.lt
    have HB1 := Lib.hid (HB0.out.trans (hb.mono HB0.out.size))
    clear hb BP0 BH0 BR0
    have tr0 : w1.cell? ⟨w.heap.size + 1 + 1, 0, none⟩ = some (.slice none 0 0) := (Blk.cell BR1 0).trans rfl
    have tr1 : w1.cell? ⟨w.heap.size + 1 + 1, 1, none⟩ = some (.int .i64 0) := (Blk.cell BR1 1).trans rfl
    have fr := BR1.frozen
    go_wp2
    refine bodyPost_ret (v := .tuple #[.agg #[.slice none 0 0, .int .i64 0], .bool false]) (by simp [results, Tryd.results25, go_sem, tr0, tr1]) rfl ?_
    rw [E1.out, E2.out, E3.out]
    refine ⟨none, 0, rfl, ⟨rfl, .inl ⟨rfl, rfl, rfl⟩⟩, ?_⟩
    (repeat (first | with_reducible refine Below.setCell ?_ (by first | exact Nat.le_refl _ | (simp; done) | (simp; omega)) _ | with_reducible refine Below.alloc ?_ (by first | exact Nat.le_refl _ | (simp; done) | (simp; omega)) _ | with_reducible refine Below.drew ?_)); (with_reducible exact HB1.out)
  · obtain ⟨hn20, hy0, hy1⟩ := storeB_facts hB
    have HBB := Lib.hid hB
    obtain ⟨i0, hi, hz0, hz1, hz2⟩ := info_parts infoHeader
    have E1 : Hid (addY l y v = y) := by show _ = _; simp [addY, hB]
    have E2 : Hid (addL l y v = if storeB (l ++ [v]) y = true then l ++ [v] else l) := by show _ = _; simp [addL, hB]
    have E3 : Hid (addB l y v = storeB (l ++ [v]) y) := by show _ = _; simp [addB, hB]
    clear hB
    have BP0 : Blk (((w.alloc (.cells #[.slice A l.length c, .int .i64 y] 29)).alloc (.cells #[.int .i64 v.h, .int .i64 v.t, .string v.last, .string v.vals, .string v.next, .string v.data] 34)).alloc (.cells #[.slice none 0 0, .int .i64 0] 29)) w.heap.size 29 #[.slice A l.length c, .int .i64 y] := Blk.alloc (Blk.alloc (heap_alloc_new w _) _) _
    have BH0 : Blk (((w.alloc (.cells #[.slice A l.length c, .int .i64 y] 29)).alloc (.cells #[.int .i64 v.h, .int .i64 v.t, .string v.last, .string v.vals, .string v.next, .string v.data] 34)).alloc (.cells #[.slice none 0 0, .int .i64 0] 29)) (w.heap.size + 1) 34 #[.int .i64 v.h, .int .i64 v.t, .string v.last, .string v.vals, .string v.next, .string v.data] := Blk.alloc (blk_newAt (w.alloc (.cells #[.slice A l.length c, .int .i64 y] 29)) (w.heap.size + 1) _ _ (World.size_alloc _ _)) _
    have BR0 : Blk (((w.alloc (.cells #[.slice A l.length c, .int .i64 y] 29)).alloc (.cells #[.int .i64 v.h, .int .i64 v.t, .string v.last, .string v.vals, .string v.next, .string v.data] 34)).alloc (.cells #[.slice none 0 0, .int .i64 0] 29)) (w.heap.size + 1 + 1) 29 #[.slice none 0 0, .int .i64 0] := blk_newAt ((w.alloc (.cells #[.slice A l.length c, .int .i64 y] 29)).alloc (.cells #[.int .i64 v.h, .int .i64 v.t, .string v.last, .string v.vals, .string v.next, .string v.data] 34)) (w.heap.size + 1 + 1) _ _ (by rw [World.size_alloc, World.size_alloc])
    have HB0 : Hid (Below w.heap.size w (((w.alloc (.cells #[.slice A l.length c, .int .i64 y] 29)).alloc (.cells #[.int .i64 v.h, .int .i64 v.t, .string v.last, .string v.vals, .string v.next, .string v.data] 34)).alloc (.cells #[.slice none 0 0, .int .i64 0] 29))) := (((Below.refl _ _).alloc (Nat.le_refl _) _).alloc (by rw [World.size_alloc]; omega) _).alloc (by rw [World.size_alloc, World.size_alloc]; omega) _
    have HR0 : Hid (RdL headC 6 (((w.alloc (.cells #[.slice A l.length c, .int .i64 y] 29)).alloc (.cells #[.int .i64 v.h, .int .i64 v.t, .string v.last, .string v.vals, .string v.next, .string v.data] 34)).alloc (.cells #[.slice none 0 0, .int .i64 0] 29)) (((w.alloc (.cells #[.slice A l.length c, .int .i64 y] 29)).alloc (.cells #[.int .i64 v.h, .int .i64 v.t, .string v.last, .string v.vals, .string v.next, .string v.data] 34)).alloc (.cells #[.slice none 0 0, .int .i64 0] 29)).heap.size A l.length c l) := (HL.out.below HB0.out (Nat.le_refl _)).more HB0.out.size
    go_enter Tryd.func25, Tryd.ntmps25
    go_wp2_with fail
    refine (sStoreOk_any A l.length c l _ _ (by exact HR0.out)).mono ?_
    rw [HBB.out]
    rintro e w1 ⟨rfl, hb⟩
    have BP1 := BP0.below hb BP0.lt
    have BH1 := BH0.below hb BH0.lt
    have BR1 := BR0.below hb BR0.lt
    have HB1 := Lib.hid (HB0.out.trans (hb.mono HB0.out.size))
    clear hb BP0 BH0 BR0
    have ta0 : w1.cell? ⟨w.heap.size, 0, none⟩ = some (.slice A l.length c) := (Blk.cell BP1 0).trans rfl
    have ta1 : w1.cell? ⟨w.heap.size, 1, none⟩ = some (.int .i64 y) := (Blk.cell BP1 1).trans rfl
    go_wp2_with fail
    refine (l15Copy_any _ A l.length c l _ (by exact (HL.out.below HB1.out (Nat.le_refl _)).more HB1.out.size) (by omega)).mono ?_
    rintro e w2 ⟨A2, n2, c2, rfl, ho, hb⟩
    obtain rfl : l.length = n2 := ho.1
    have HO := Lib.hid ho
    have BP2 := BP1.below hb BP1.lt
    have BH2 := BH1.below hb BH1.lt
    have BR2 := BR1.below hb BR1.lt
    have s12 := hb.size
    have s1 := BR1.lt
    have HB2 := Lib.hid (HB1.out.trans (hb.mono HB1.out.size))
    clear ho hb BP1 BR1 BH1 ta0 ta1
    have th0 : w2.cell? ⟨w.heap.size + 1, 0, none⟩ = some (.int .i64 v.h) := (Blk.cell BH2 0).trans rfl
    have th1 : w2.cell? ⟨w.heap.size + 1, 1, none⟩ = some (.int .i64 v.t) := (Blk.cell BH2 1).trans rfl
    have th2 : w2.cell? ⟨w.heap.size + 1, 2, none⟩ = some (.string v.last) := (Blk.cell BH2 2).trans rfl
    have th3 : w2.cell? ⟨w.heap.size + 1, 3, none⟩ = some (.string v.vals) := (Blk.cell BH2 3).trans rfl
    have th4 : w2.cell? ⟨w.heap.size + 1, 4, none⟩ = some (.string v.next) := (Blk.cell BH2 4).trans rfl
    have th5 : w2.cell? ⟨w.heap.size + 1, 5, none⟩ = some (.string v.data) := (Blk.cell BH2 5).trans rfl
    have s2 := BR2.lt
    have s21 : w.heap.size + 1 < w2.heap.size := by omega
    have s20 : w.heap.size < w2.heap.size := by omega
    have hneh : (w.heap.size + 1 = w2.heap.size) = False := by simp; omega
    have hneh2 : (w2.heap.size = w.heap.size + 1) = False := by simp; omega
    have VX0 : Blk ((w2.alloc (.cells #[.slice A2 l.length c2, .int .i64 y] 29)).alloc (.cells #[.int .i64 v.h, .int .i64 v.t, .string v.last, .string v.vals, .string v.next, .string v.data] 34)) w2.heap.size 29 #[.slice A2 l.length c2, .int .i64 y] := Blk.alloc (heap_alloc_new w2 _) _
    have BR2' := (BR2.alloc (.cells #[.slice A2 l.length c2, .int .i64 y] 29)).alloc (.cells #[.int .i64 v.h, .int .i64 v.t, .string v.last, .string v.vals, .string v.next, .string v.data] 34)
    have BP2' := (BP2.alloc (.cells #[.slice A2 l.length c2, .int .i64 y] 29)).alloc (.cells #[.int .i64 v.h, .int .i64 v.t, .string v.last, .string v.vals, .string v.next, .string v.data] 34)
    have HBX : Hid (Below w.heap.size w ((w2.alloc (.cells #[.slice A2 l.length c2, .int .i64 y] 29)).alloc (.cells #[.int .i64 v.h, .int .i64 v.t, .string v.last, .string v.vals, .string v.next, .string v.data] 34))) := (HB2.out.alloc (by omega) _).alloc (by rw [World.size_alloc]; omega) _
    have HOWN : Hid (World.ownsRow ((w2.alloc (.cells #[.slice A2 l.length c2, .int .i64 y] 29)).alloc (.cells #[.int .i64 v.h, .int .i64 v.t, .string v.last, .string v.vals, .string v.next, .string v.data] 34)) w1.heap.size 34 6 (.slice A2 l.length c2) l.length (l.flatMap headC)) := ((HO.out.owns headC_len).alloc _).alloc _
    have HONE : Hid (Rd ((w2.alloc (.cells #[.slice A2 l.length c2, .int .i64 y] 29)).alloc (.cells #[.int .i64 v.h, .int .i64 v.t, .string v.last, .string v.vals, .string v.next, .string v.data] 34)) (w2.heap.size + 1 + 1) (some ⟨w2.heap.size + 1, 0, none⟩) 1 1 6 ([v].flatMap headC)) := by
      have h := Rd_oneI (w2.alloc (.cells #[.slice A2 l.length c2, .int .i64 y] 29)) #[.int .i64 v.h, .int .i64 v.t, .string v.last, .string v.vals, .string v.next, .string v.data] 34 6 rfl (w2.heap.size + 1) (World.size_alloc _ _).symm
      rw [World.size_alloc] at h
      exact h
    clear BR2 BP2 BH2
    go_wp2_with (at_builtin; refine wpList_app_rd _ rfl _ _ _ rfl w1.heap.size 34 i0 _ 6 80 Tryd.underlying27 hi hz0 hz1 hz2 rfl (by decide) (.slice A2 l.length c2) l.length (l.flatMap headC) rfl (by exact HOWN.out) (w2.heap.size + 1 + 1) (some ⟨w2.heap.size + 1, 0, none⟩) 1 1 ([v].flatMap headC) rfl (by exact HONE.out) (headC_one _) (by unfold maxLen; omega) (by omega) (by first | (simp; done) | omega | (simp; omega)) ?_)
    intro v3 w3 hown hg hat
    have hown : w3.ownsRow w1.heap.size 34 6 v3 (l.length + 1) ((l ++ [v]).flatMap headC) := by rw [List.flatMap_append]; simpa using hown
    obtain ⟨A3, c3, rfl, ho⟩ := OwnL.of_own (f := headC) (l := l ++ [v]) (n := l.length + 1) (by simp) hown
    have HO3 := Lib.hid ho
    have C3 : Hid (Chg w1.heap.size w2.heap.size ((w2.alloc (.cells #[.slice A2 l.length c2, .int .i64 y] 29)).alloc (.cells #[.int .i64 v.h, .int .i64 v.t, .string v.last, .string v.vals, .string v.next, .string v.data] 34)) w3) := grown_chg hg (fun g e => HO.out.block g e)
    have HNE : Hid (∀ g, Value.ownBlock (.slice A3 (l.length + 1) c3) = some g → g ≠ w2.heap.size) := by
      intro g e
      rcases hat with h | h
      · rw [h] at e; have := HO.out.block g e; omega
      · rw [h] at e; simp at e; omega
    clear hown ho hg hat th0 th1 th2 th3 th4 th5
    have s23 : w2.heap.size + 2 ≤ w3.heap.size := by have h := C3.out.size; rw [World.size_alloc, World.size_alloc] at h; omega
    have BX3 : Blk w3 w2.heap.size 29 #[.slice A2 l.length c2, .int .i64 y] := (C3.out.block _ (by simp; omega) (.inr (Nat.le_refl _))).trans VX0
    have BR3 : Blk w3 (w.heap.size + 1 + 1) 29 #[.slice none 0 0, .int .i64 0] := (C3.out.block _ (by simp; omega) (.inl (by omega))).trans BR2'
    have BP3 : Blk w3 w.heap.size 29 #[.slice A l.length c, .int .i64 y] := (C3.out.block _ (by simp; omega) (.inl (by omega))).trans BP2'
    have HB3 := Lib.hid (HBX.out.trans (C3.out.below (by omega) (by simp; omega)))
    clear VX0 BR2' BP2'
    have xr0 : w3.cell? ⟨w2.heap.size, 0, none⟩ = some (.slice A2 l.length c2) := (Blk.cell BX3 0).trans rfl
    have xr1 : w3.cell? ⟨w2.heap.size, 1, none⟩ = some (.int .i64 y) := (Blk.cell BX3 1).trans rfl
    have fx := BX3.frozen
    have s30 : w2.heap.size < w3.heap.size := by omega
    have HS3 := Lib.hid (show w3.heap.size = w3.heap.size from rfl)
    obtain ⟨w4, hw4⟩ : ∃ q, q = w3.setCell ⟨w2.heap.size, 0, none⟩ (.slice A3 (l.length + 1) c3) := ⟨_, rfl⟩
    have BX4 : Blk w4 w2.heap.size 29 #[.slice A3 (l.length + 1) c3, .int .i64 y] := by
      rw [hw4]
      have hb := BX3.set_ 0 (.slice A3 (l.length + 1) c3)
      simp only [List.setIfInBounds_toArray, List.set_cons_zero] at hb
      exact hb
    have BR4 : Blk w4 (w.heap.size + 1 + 1) 29 #[.slice none 0 0, .int .i64 0] := by
      rw [hw4]
      exact BR3.far (by show w.heap.size + 1 + 1 ≠ w2.heap.size; omega) _
    have BP4 : Blk w4 w.heap.size 29 #[.slice A l.length c, .int .i64 y] := by
      rw [hw4]
      exact BP3.far (by show w.heap.size ≠ w2.heap.size; omega) _
    have C4 : Hid (Chg w2.heap.size (w2.heap.size + 1) w3 w4) := by
      show Chg _ _ _ _
      rw [hw4]
      (repeat (first | with_reducible refine Chg.setCell ?_ (by first | exact Nat.le_refl _ | (simp; done) | (simp; omega)) (by first | (simp; done) | (simp; omega)) _ | with_reducible refine Chg.alloc ?_ _ | with_reducible refine Chg.drew ?_)); (with_reducible exact Chg.refl _ _ _)
    have s34 : w3.heap.size ≤ w4.heap.size := C4.out.size
    have HO4 : Hid (OwnL headC 6 34 w4 w1.heap.size w4.heap.size A3 (l.length + 1) c3 (l ++ [v])) := (HO3.out.keep (fun g _ _ e => by rw [hw4]; exact Below.heap_setCell w3 _ _ g (HNE.out g e))).wide (Nat.le_refl _) s34
    have HB4 := Lib.hid (HB3.out.trans (C4.out.below (by omega) (by omega)))
    have HR4 : Hid (RdL headC 6 w4 w4.heap.size A3 (l.length + 1) c3 (l ++ [v])) := HO4.out.rd headC_len
    cases hB2 : storeB (l ++ [v]) y
    · have HB22 := Lib.hid hB2
      go_wp2_with fail
      rw [← hw4]
      refine (sStoreOk_any A3 (l.length + 1) c3 (l ++ [v]) _ _ (by exact HR4.out)).mono ?_
      rw [HB22.out]
      rintro e w5 ⟨rfl, hb⟩
      have BX5 := BX4.below hb BX4.lt
      have BR5 := BR4.below hb BR4.lt
      have BP5 := BP4.below hb BP4.lt
      have s45 : w4.heap.size ≤ w5.heap.size := hb.size
      have HO5 := Lib.hid (HO4.out.below hb (Nat.le_refl _))
      have HB5 := Lib.hid (HB4.out.trans (hb.mono HB4.out.size))
      clear hb BX4 BR4 BP4 hw4 xr0 xr1 fx s30
      have ta0 : w5.cell? ⟨w.heap.size, 0, none⟩ = some (.slice A l.length c) := (Blk.cell BP5 0).trans rfl
      have ta1 : w5.cell? ⟨w.heap.size, 1, none⟩ = some (.int .i64 y) := (Blk.cell BP5 1).trans rfl
      go_wp2_with fail
      refine (l15Copy_any _ A l.length c l _ (by exact (HL.out.below HB5.out (Nat.le_refl _)).more HB5.out.size) (by omega)).mono ?_
      rintro e w6 ⟨A6, n6, c6, rfl, ho, hb⟩
      obtain rfl : l.length = n6 := ho.1
      have HO6 := Lib.hid ho
      have BR6 := BR5.below hb BR5.lt
      have s56 := hb.size
      have HB6 := Lib.hid (HB5.out.trans (hb.mono HB5.out.size))
      clear ho hb BX5 BR5 BP5 ta0 ta1
      have tr0 : w6.cell? ⟨w.heap.size + 1 + 1, 0, none⟩ = some (.slice none 0 0) := (Blk.cell BR6 0).trans rfl
      have tr1 : w6.cell? ⟨w.heap.size + 1 + 1, 1, none⟩ = some (.int .i64 0) := (Blk.cell BR6 1).trans rfl
      have fr := BR6.frozen
      have s6 := BR6.lt
      clear BR6
      go_wp2
      refine bodyPost_ret (v := .tuple #[.agg #[.slice A6 l.length c6, .int .i64 y], .bool false]) (by simp [results, Tryd.results25, go_sem, tr0, tr1]) rfl ?_
      rw [E1.out, E2.out, E3.out, hB2, if_neg (by decide)]
      refine ⟨A6, c6, rfl, ?_, ?_⟩
      · refine ((HO6.out.chg (lo' := w.heap.size) (hi' := w.heap.size + 3) ?_ (.inr (by omega))).wide (by omega) (by simp))
        (repeat (first | with_reducible refine Chg.setCell ?_ (by first | exact Nat.le_refl _ | (simp; done) | (simp; omega)) (by first | (simp; done) | (simp; omega)) _ | with_reducible refine Chg.alloc ?_ _ | with_reducible refine Chg.drew ?_)); (with_reducible exact Chg.refl _ _ _)
      · (repeat (first | with_reducible refine Below.setCell ?_ (by first | exact Nat.le_refl _ | (simp; done) | (simp; omega)) _ | with_reducible refine Below.alloc ?_ (by first | exact Nat.le_refl _ | (simp; done) | (simp; omega)) _ | with_reducible refine Below.drew ?_)); (with_reducible exact HB6.out)
    · have HB22 := Lib.hid hB2
      go_wp2_with fail
      rw [← hw4]
      refine (sStoreOk_any A3 (l.length + 1) c3 (l ++ [v]) _ _ (by exact HR4.out)).mono ?_
      rw [HB22.out]
      rintro e w5 ⟨rfl, hb⟩
      have BX5 := BX4.below hb BX4.lt
      have BR5 := BR4.below hb BR4.lt
      have BP5 := BP4.below hb BP4.lt
      have s45 : w4.heap.size ≤ w5.heap.size := hb.size
      have HO5 := Lib.hid (HO4.out.below hb (Nat.le_refl _))
      have HB5 := Lib.hid (HB4.out.trans (hb.mono HB4.out.size))
      clear hb BX4 BR4 BP4 hw4 xr0 xr1 fx s30
      have xr0 : w5.cell? ⟨w2.heap.size, 0, none⟩ = some (.slice A3 (l.length + 1) c3) := (Blk.cell BX5 0).trans rfl
      have xr1 : w5.cell? ⟨w2.heap.size, 1, none⟩ = some (.int .i64 y) := (Blk.cell BX5 1).trans rfl
      have tr0 : w5.cell? ⟨w.heap.size + 1 + 1, 0, none⟩ = some (.slice none 0 0) := (Blk.cell BR5 0).trans rfl
      have tr1 : w5.cell? ⟨w.heap.size + 1 + 1, 1, none⟩ = some (.int .i64 0) := (Blk.cell BR5 1).trans rfl
      have fr := BR5.frozen
      have s5 := BR5.lt
      have s52 := BX5.lt
      have hn1 : (w.heap.size + 1 + 1 = w2.heap.size) = False := by simp; omega
      have hn2 : (w2.heap.size = w.heap.size + 1 + 1) = False := by simp; omega
      clear BX5 BR5 BP5
      go_wp2
      refine bodyPost_ret (v := .tuple #[.agg #[.slice A3 (l.length + 1) c3, .int .i64 y], .bool true]) (by simp [results, Tryd.results25, go_sem, tr0, tr1]) rfl ?_
      rw [E1.out, E2.out, E3.out, hB2, if_pos rfl]
      refine ⟨A3, c3, by rw [List.length_append]; rfl, ?_, ?_⟩
      · rw [List.length_append]
        refine ((HO5.out.chg (lo' := w.heap.size) (hi' := w.heap.size + 3) ?_ (.inr (by omega))).wide (by omega) (by simp; omega))
        (repeat (first | with_reducible refine Chg.setCell ?_ (by first | exact Nat.le_refl _ | (simp; done) | (simp; omega)) (by first | (simp; done) | (simp; omega)) _ | with_reducible refine Chg.alloc ?_ _ | with_reducible refine Chg.drew ?_)); (with_reducible exact Chg.refl _ _ _)
      · (repeat (first | with_reducible refine Below.setCell ?_ (by first | exact Nat.le_refl _ | (simp; done) | (simp; omega)) _ | with_reducible refine Below.alloc ?_ (by first | exact Nat.le_refl _ | (simp; done) | (simp; omega)) _ | with_reducible refine Below.drew ?_)); (with_reducible exact HB5.out)
end Go.Proofs.YtjdknaipmboekaaDoor
