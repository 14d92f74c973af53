/- StoreSync of the program and of the reference (printed by wip/storefun.py). -/
import Derived.Test.YtjdknaipmboekaaDoorStoreFun2
import Derived.WalkKit
import Derived.WalkSpells
import Derived.WalkLawsBesides
import Derived.Lib.Hide
namespace Go.Proofs.YtjdknaipmboekaaDoor
open Go.RowKit

def syncY (l : List HeaderD) (y : Int) : Int := if storeB l y = true then l.length else 0
def syncL (l : List HeaderD) (y : Int) : List HeaderD := if storeB l y = true then l else []
def syncB (l : List HeaderD) (y : Int) : Bool := storeB l y
theorem StoreSync_len (y : Int) (l : List HeaderD) : (syncL l y).length ≤ l.length + 1 := by unfold syncL; split <;> simp

set_option maxHeartbeats 4000000 in
theorem StoreSync_any (y : Int) (A : Option Addr) (c : Nat) (l : List HeaderD) (w : World) (hl : RdL headC 6 w w.heap.size A l.length c l) (ht : Tab w) :
    Calls Tryd.prog 19 #[.agg #[.slice A l.length c, .int .i64 y]] w (StoreOutK (syncY l y) (syncL l y) (.bool (syncB l y)) w) := by
  have HL := Lib.hid hl
  clear hl
  have HT := Lib.hid ht
  clear ht
  cases hB : storeB l y
  · skip
    have E1 : Hid (syncY l y = 0) := by show _ = _; simp [syncY, hB]
    have E2 : Hid (syncL l y = []) := by show _ = _; simp [syncL, hB]
    have E3 : Hid (syncB l y = false) := by show _ = _; simp [syncB, hB]
    have HBB := Lib.hid hB
    clear hB
    have BP0 : Blk ((w.alloc (.cells #[.slice A l.length c, .int .i64 y] 29)).alloc (.cells #[.slice none 0 0, .int .i64 0] 29)) w.heap.size 29 #[.slice A l.length c, .int .i64 y] := Blk.alloc (heap_alloc_new w _) _
    have BR0 : Blk ((w.alloc (.cells #[.slice A l.length c, .int .i64 y] 29)).alloc (.cells #[.slice none 0 0, .int .i64 0] 29)) (w.heap.size + 1) 29 #[.slice none 0 0, .int .i64 0] := blk_newAt (w.alloc (.cells #[.slice A l.length c, .int .i64 y] 29)) (w.heap.size + 1) _ _ (World.size_alloc _ _)
    have HB0 : Hid (Below w.heap.size w ((w.alloc (.cells #[.slice A l.length c, .int .i64 y] 29)).alloc (.cells #[.slice none 0 0, .int .i64 0] 29))) := ((Below.refl _ _).alloc (Nat.le_refl _) _).alloc (by rw [World.size_alloc]; omega) _
    have HR0 : Hid (RdL headC 6 ((w.alloc (.cells #[.slice A l.length c, .int .i64 y] 29)).alloc (.cells #[.slice none 0 0, .int .i64 0] 29)) ((w.alloc (.cells #[.slice A l.length c, .int .i64 y] 29)).alloc (.cells #[.slice none 0 0, .int .i64 0] 29)).heap.size A l.length c l) := (HL.out.below HB0.out (Nat.le_refl _)).more HB0.out.size
    go_enter Tryd.func19, Tryd.ntmps19
    go_wp2_with fail
    refine (StoreOk_any A l.length c l _ _ (by exact HR0.out) (by exact HT.out.below HB0.out HT.out.pos)).mono ?_
    rw [HBB.out]
    rintro e w1 ⟨rfl, hb⟩
    have BP1 := BP0.below hb BP0.lt
    have BR1 := BR0.below hb BR0.lt
    have HB1 := Lib.hid (HB0.out.trans (hb.mono HB0.out.size))
    clear hb BP0 BR0
    have tr0 : w1.cell? ⟨w.heap.size + 1, 0, none⟩ = some (.slice none 0 0) := (Blk.cell BR1 0).trans rfl
    have tr1 : w1.cell? ⟨w.heap.size + 1, 1, none⟩ = some (.int .i64 0) := (Blk.cell BR1 1).trans rfl
    have fr := BR1.frozen
    go_wp2
    refine bodyPost_ret (v := .tuple #[.agg #[.slice none 0 0, .int .i64 0], .bool false]) (by simp [results, Tryd.results19, go_sem, tr0, tr1]) rfl ?_
    rw [E1.out, E2.out, E3.out]
    refine ⟨none, 0, rfl, ⟨rfl, .inl ⟨rfl, rfl, rfl⟩⟩, ?_⟩
    (repeat (first | with_reducible refine Below.setCell ?_ (by first | exact Nat.le_refl _ | (simp; done) | (simp; omega)) _ | with_reducible refine Below.alloc ?_ (by first | exact Nat.le_refl _ | (simp; done) | (simp; omega)) _ | with_reducible refine Below.drew ?_)); (with_reducible exact HB1.out)
  · obtain ⟨hn20, hy0, hy1⟩ := storeB_facts hB
    have E1 : Hid (syncY l y = l.length) := by show _ = _; simp [syncY, hB]
    have E2 : Hid (syncL l y = l) := by show _ = _; simp [syncL, hB]
    have E3 : Hid (syncB l y = true) := by show _ = _; simp [syncB, hB]
    have HBB := Lib.hid hB
    clear hB
    have BP0 : Blk ((w.alloc (.cells #[.slice A l.length c, .int .i64 y] 29)).alloc (.cells #[.slice none 0 0, .int .i64 0] 29)) w.heap.size 29 #[.slice A l.length c, .int .i64 y] := Blk.alloc (heap_alloc_new w _) _
    have BR0 : Blk ((w.alloc (.cells #[.slice A l.length c, .int .i64 y] 29)).alloc (.cells #[.slice none 0 0, .int .i64 0] 29)) (w.heap.size + 1) 29 #[.slice none 0 0, .int .i64 0] := blk_newAt (w.alloc (.cells #[.slice A l.length c, .int .i64 y] 29)) (w.heap.size + 1) _ _ (World.size_alloc _ _)
    have HB0 : Hid (Below w.heap.size w ((w.alloc (.cells #[.slice A l.length c, .int .i64 y] 29)).alloc (.cells #[.slice none 0 0, .int .i64 0] 29))) := ((Below.refl _ _).alloc (Nat.le_refl _) _).alloc (by rw [World.size_alloc]; omega) _
    have HR0 : Hid (RdL headC 6 ((w.alloc (.cells #[.slice A l.length c, .int .i64 y] 29)).alloc (.cells #[.slice none 0 0, .int .i64 0] 29)) ((w.alloc (.cells #[.slice A l.length c, .int .i64 y] 29)).alloc (.cells #[.slice none 0 0, .int .i64 0] 29)).heap.size A l.length c l) := (HL.out.below HB0.out (Nat.le_refl _)).more HB0.out.size
    go_enter Tryd.func19, Tryd.ntmps19
    go_wp2_with fail
    refine (StoreOk_any A l.length c l _ _ (by exact HR0.out) (by exact HT.out.below HB0.out HT.out.pos)).mono ?_
    rw [HBB.out]
    rintro e w1 ⟨rfl, hb⟩
    have BP1 := BP0.below hb BP0.lt
    have BR1 := BR0.below hb BR0.lt
    have HB1 := Lib.hid (HB0.out.trans (hb.mono HB0.out.size))
    clear hb BP0 BR0
    have ta0 : w1.cell? ⟨w.heap.size, 0, none⟩ = some (.slice A l.length c) := (Blk.cell BP1 0).trans rfl
    have ta1 : w1.cell? ⟨w.heap.size, 1, none⟩ = some (.int .i64 y) := (Blk.cell BP1 1).trans rfl
    go_wp2_with fail
    refine (copyStore_any _ A l.length c l _ (by exact (HL.out.below HB1.out (Nat.le_refl _)).more HB1.out.size) (by omega)).mono ?_
    rintro e w2 ⟨A2, n2, c2, rfl, ho, hb⟩
    obtain rfl : l.length = n2 := ho.1
    have HO := Lib.hid ho
    have BP2 := BP1.below hb BP1.lt
    have BR2 := BR1.below hb BR1.lt
    have s12 := hb.size
    have s1 := BR1.lt
    have HB2 := Lib.hid (HB1.out.trans (hb.mono HB1.out.size))
    clear ho hb BP1 BR1
    clear ta0 ta1
    have tr0 : w2.cell? ⟨w.heap.size + 1, 0, none⟩ = some (.slice none 0 0) := (Blk.cell BR2 0).trans rfl
    have tr1 : w2.cell? ⟨w.heap.size + 1, 1, none⟩ = some (.int .i64 0) := (Blk.cell BR2 1).trans rfl
    have fr := BR2.frozen
    have s2 := BR2.lt
    have hne : (w.heap.size + 1 = w2.heap.size) = False := by simp; omega
    clear BP2 BR2
    go_wp2
    refine bodyPost_ret (v := .tuple #[.agg #[.slice A2 l.length c2, .int .i64 l.length], .bool true]) (by simp [results, Tryd.results19, go_sem, tr0, tr1, s2]) rfl ?_
    rw [E1.out, E2.out, E3.out]
    refine ⟨A2, c2, rfl, ?_, ?_⟩
    · refine ((HO.out.chg (lo' := w.heap.size) (hi' := w.heap.size + 2) ?_ (.inr (by omega))).wide (by omega) (by simp))
      (repeat (first | with_reducible refine Chg.setCell ?_ (by first | exact Nat.le_refl _ | (simp; done) | (simp; omega)) (by first | (simp; done) | (simp; omega)) _ | with_reducible refine Chg.alloc ?_ _ | with_reducible refine Chg.drew ?_)); (with_reducible exact Chg.refl _ _ _)
    · (repeat (first | with_reducible refine Below.setCell ?_ (by first | exact Nat.le_refl _ | (simp; done) | (simp; omega)) _ | with_reducible refine Below.alloc ?_ (by first | exact Nat.le_refl _ | (simp; done) | (simp; omega)) _ | with_reducible refine Below.drew ?_)); (with_reducible exact HB2.out)

set_option maxHeartbeats 4000000 in
theorem sStoreSync_any (y : Int) (A : Option Addr) (c : Nat) (l : List HeaderD) (w : World) (hl : RdL headC 6 w w.heap.size A l.length c l) :
    Calls Tryd.prog 18 #[.agg #[.slice A l.length c, .int .i64 y]] w (StoreOutK (syncY l y) (syncL l y) (.bool (syncB l y)) w) := by
  have HL := Lib.hid hl
  clear hl
  cases hB : storeB l y
  · skip
    have E1 : Hid (syncY l y = 0) := by show _ = _; simp [syncY, hB]
    have E2 : Hid (syncL l y = []) := by show _ = _; simp [syncL, hB]
    have E3 : Hid (syncB l y = false) := by show _ = _; simp [syncB, hB]
    have HBB := Lib.hid hB
    clear hB
    have BP0 : Blk ((w.alloc (.cells #[.slice A l.length c, .int .i64 y] 29)).alloc (.cells #[.slice none 0 0, .int .i64 0] 29)) w.heap.size 29 #[.slice A l.length c, .int .i64 y] := Blk.alloc (heap_alloc_new w _) _
    have BR0 : Blk ((w.alloc (.cells #[.slice A l.length c, .int .i64 y] 29)).alloc (.cells #[.slice none 0 0, .int .i64 0] 29)) (w.heap.size + 1) 29 #[.slice none 0 0, .int .i64 0] := blk_newAt (w.alloc (.cells #[.slice A l.length c, .int .i64 y] 29)) (w.heap.size + 1) _ _ (World.size_alloc _ _)
    have HB0 : Hid (Below w.heap.size w ((w.alloc (.cells #[.slice A l.length c, .int .i64 y] 29)).alloc (.cells #[.slice none 0 0, .int .i64 0] 29))) := ((Below.refl _ _).alloc (Nat.le_refl _) _).alloc (by rw [World.size_alloc]; omega) _
    have HR0 : Hid (RdL headC 6 ((w.alloc (.cells #[.slice A l.length c, .int .i64 y] 29)).alloc (.cells #[.slice none 0 0, .int .i64 0] 29)) ((w.alloc (.cells #[.slice A l.length c, .int .i64 y] 29)).alloc (.cells #[.slice none 0 0, .int .i64 0] 29)).heap.size A l.length c l) := (HL.out.below HB0.out (Nat.le_refl _)).more HB0.out.size
    go_enter Tryd.func18, Tryd.ntmps18
    go_wp2_with fail
    refine (sStoreOk_any A l.length c l _ _ (by exact HR0.out)).mono ?_
    rw [HBB.out]
    rintro e w1 ⟨rfl, hb⟩
    have BP1 := BP0.below hb BP0.lt
    have BR1 := BR0.below hb BR0.lt
    have HB1 := Lib.hid (HB0.out.trans (hb.mono HB0.out.size))
    clear hb BP0 BR0
    have tr0 : w1.cell? ⟨w.heap.size + 1, 0, none⟩ = some (.slice none 0 0) := (Blk.cell BR1 0).trans rfl
    have tr1 : w1.cell? ⟨w.heap.size + 1, 1, none⟩ = some (.int .i64 0) := (Blk.cell BR1 1).trans rfl
    have fr := BR1.frozen
    go_wp2
    refine bodyPost_ret (v := .tuple #[.agg #[.slice none 0 0, .int .i64 0], .bool false]) (by simp [results, Tryd.results18, go_sem, tr0, tr1]) rfl ?_
    rw [E1.out, E2.out, E3.out]
    refine ⟨none, 0, rfl, ⟨rfl, .inl ⟨rfl, rfl, rfl⟩⟩, ?_⟩
    (repeat (first | with_reducible refine Below.setCell ?_ (by first | exact Nat.le_refl _ | (simp; done) | (simp; omega)) _ | with_reducible refine Below.alloc ?_ (by first | exact Nat.le_refl _ | (simp; done) | (simp; omega)) _ | with_reducible refine Below.drew ?_)); (with_reducible exact HB1.out)
  · obtain ⟨hn20, hy0, hy1⟩ := storeB_facts hB
    have E1 : Hid (syncY l y = l.length) := by show _ = _; simp [syncY, hB]
    have E2 : Hid (syncL l y = l) := by show _ = _; simp [syncL, hB]
    have E3 : Hid (syncB l y = true) := by show _ = _; simp [syncB, hB]
    have HBB := Lib.hid hB
    clear hB
    have BP0 : Blk ((w.alloc (.cells #[.slice A l.length c, .int .i64 y] 29)).alloc (.cells #[.slice none 0 0, .int .i64 0] 29)) w.heap.size 29 #[.slice A l.length c, .int .i64 y] := Blk.alloc (heap_alloc_new w _) _
    have BR0 : Blk ((w.alloc (.cells #[.slice A l.length c, .int .i64 y] 29)).alloc (.cells #[.slice none 0 0, .int .i64 0] 29)) (w.heap.size + 1) 29 #[.slice none 0 0, .int .i64 0] := blk_newAt (w.alloc (.cells #[.slice A l.length c, .int .i64 y] 29)) (w.heap.size + 1) _ _ (World.size_alloc _ _)
    have HB0 : Hid (Below w.heap.size w ((w.alloc (.cells #[.slice A l.length c, .int .i64 y] 29)).alloc (.cells #[.slice none 0 0, .int .i64 0] 29))) := ((Below.refl _ _).alloc (Nat.le_refl _) _).alloc (by rw [World.size_alloc]; omega) _
    have HR0 : Hid (RdL headC 6 ((w.alloc (.cells #[.slice A l.length c, .int .i64 y] 29)).alloc (.cells #[.slice none 0 0, .int .i64 0] 29)) ((w.alloc (.cells #[.slice A l.length c, .int .i64 y] 29)).alloc (.cells #[.slice none 0 0, .int .i64 0] 29)).heap.size A l.length c l) := (HL.out.below HB0.out (Nat.le_refl _)).more HB0.out.size
    go_enter Tryd.func18, Tryd.ntmps18
    go_wp2_with fail
    refine (sStoreOk_any A l.length c l _ _ (by exact HR0.out)).mono ?_
    rw [HBB.out]
    rintro e w1 ⟨rfl, hb⟩
    have BP1 := BP0.below hb BP0.lt
    have BR1 := BR0.below hb BR0.lt
    have HB1 := Lib.hid (HB0.out.trans (hb.mono HB0.out.size))
    clear hb BP0 BR0
    have ta0 : w1.cell? ⟨w.heap.size, 0, none⟩ = some (.slice A l.length c) := (Blk.cell BP1 0).trans rfl
    have ta1 : w1.cell? ⟨w.heap.size, 1, none⟩ = some (.int .i64 y) := (Blk.cell BP1 1).trans rfl
    go_wp2_with fail
    refine (l15Copy_any _ A l.length c l _ (by exact (HL.out.below HB1.out (Nat.le_refl _)).more HB1.out.size) (by omega)).mono ?_
    rintro e w2 ⟨A2, n2, c2, rfl, ho, hb⟩
    obtain rfl : l.length = n2 := ho.1
    have HO := Lib.hid ho
    have BP2 := BP1.below hb BP1.lt
    have BR2 := BR1.below hb BR1.lt
    have s12 := hb.size
    have s1 := BR1.lt
    have HB2 := Lib.hid (HB1.out.trans (hb.mono HB1.out.size))
    clear ho hb BP1 BR1
    clear ta0 ta1
    have tr0 : w2.cell? ⟨w.heap.size + 1, 0, none⟩ = some (.slice none 0 0) := (Blk.cell BR2 0).trans rfl
    have tr1 : w2.cell? ⟨w.heap.size + 1, 1, none⟩ = some (.int .i64 0) := (Blk.cell BR2 1).trans rfl
    have fr := BR2.frozen
    have s2 := BR2.lt
    have hne : (w.heap.size + 1 = w2.heap.size) = False := by simp; omega
    clear BP2 BR2
    go_wp2
    refine bodyPost_ret (v := .tuple #[.agg #[.slice A2 l.length c2, .int .i64 l.length], .bool true]) (by simp [results, Tryd.results18, go_sem, tr0, tr1, s2]) rfl ?_
    rw [E1.out, E2.out, E3.out]
    refine ⟨A2, c2, rfl, ?_, ?_⟩
    · refine ((HO.out.chg (lo' := w.heap.size) (hi' := w.heap.size + 2) ?_ (.inr (by omega))).wide (by omega) (by simp))
      (repeat (first | with_reducible refine Chg.setCell ?_ (by first | exact Nat.le_refl _ | (simp; done) | (simp; omega)) (by first | (simp; done) | (simp; omega)) _ | with_reducible refine Chg.alloc ?_ _ | with_reducible refine Chg.drew ?_)); (with_reducible exact Chg.refl _ _ _)
    · (repeat (first | with_reducible refine Below.setCell ?_ (by first | exact Nat.le_refl _ | (simp; done) | (simp; omega)) _ | with_reducible refine Below.alloc ?_ (by first | exact Nat.le_refl _ | (simp; done) | (simp; omega)) _ | with_reducible refine Below.drew ?_)); (with_reducible exact HB2.out)
end Go.Proofs.YtjdknaipmboekaaDoor
