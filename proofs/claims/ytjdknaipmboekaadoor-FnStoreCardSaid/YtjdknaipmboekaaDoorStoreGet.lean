/- StoreGet of the program and of the reference (printed by wip/sget.py). -/
import Derived.Test.YtjdknaipmboekaaDoorStoreFam
import Derived.WalkKit
import Derived.WalkSpells
import Derived.WalkLawsBesides
import Derived.Lib.Hide
namespace Go.Proofs.YtjdknaipmboekaaDoor
open Go.RowKit

def headZ : HeaderD := ⟨0, 0, ⟨#[]⟩, ⟨#[]⟩, ⟨#[]⟩, ⟨#[]⟩⟩
def getO (l : List HeaderD) (y k : Int) : Option HeaderD := if storeB l y = true then l.find? (fun x => x.h == k) else none
def getG (o : Option HeaderD) : HeaderD := o.getD headZ
theorem find_no {l : List HeaderD} {j : Nat} {x : HeaderD} {k : Int} (hk : l[j]? = some x) (h : (x.h == k) = false) : (l.drop j).find? (fun x => x.h == k) = (l.drop (j + 1)).find? (fun x => x.h == k) := by
  obtain ⟨hj, rfl⟩ := List.getElem?_eq_some_iff.1 hk
  rw [List.drop_eq_getElem_cons hj, List.find?_cons, h]
theorem find_yes {l : List HeaderD} {j : Nat} {x : HeaderD} {k : Int} (hk : l[j]? = some x) (h : (x.h == k) = true) : (l.drop j).find? (fun x => x.h == k) = some x := by
  obtain ⟨hj, rfl⟩ := List.getElem?_eq_some_iff.1 hk
  rw [List.drop_eq_getElem_cons hj, List.find?_cons, h]

set_option maxHeartbeats 4000000 in
theorem StoreGet_any (y : Int) (A : Option Addr) (c : Nat) (l : List HeaderD) (k : Int) (w : World) (hl : RdL headC 6 w w.heap.size A l.length c l) (ht : Tab w) :
    Calls Tryd.prog 16 #[.agg #[.slice A l.length c, .int .i64 y], .int .i64 k] w fun e w' => e = .returned (.tuple #[.agg #[.int .i64 (getG (getO l y k)).h, .int .i64 (getG (getO l y k)).t, .string (getG (getO l y k)).last, .string (getG (getO l y k)).vals, .string (getG (getO l y k)).next, .string (getG (getO l y k)).data], .bool (getO l y k).isSome]) ∧ Below w.heap.size w w' := by
  have hn := hl.le
  have HL := Lib.hid hl
  clear hl
  have HT := Lib.hid ht
  clear ht
  have BP0 : Blk ((w.alloc (.cells #[.slice A l.length c, .int .i64 y] 29)).alloc (.cells #[.int .i64 0, .int .i64 0, .string ⟨#[]⟩, .string ⟨#[]⟩, .string ⟨#[]⟩, .string ⟨#[]⟩] 34)) w.heap.size 29 #[.slice A l.length c, .int .i64 y] := Blk.alloc (heap_alloc_new w _) _
  have BR0 : Blk ((w.alloc (.cells #[.slice A l.length c, .int .i64 y] 29)).alloc (.cells #[.int .i64 0, .int .i64 0, .string ⟨#[]⟩, .string ⟨#[]⟩, .string ⟨#[]⟩, .string ⟨#[]⟩] 34)) (w.heap.size + 1) 34 #[.int .i64 0, .int .i64 0, .string ⟨#[]⟩, .string ⟨#[]⟩, .string ⟨#[]⟩, .string ⟨#[]⟩] := blk_newAt (w.alloc (.cells #[.slice A l.length c, .int .i64 y] 29)) (w.heap.size + 1) _ _ (World.size_alloc _ _)
  have HB0 : Hid (Below w.heap.size w ((w.alloc (.cells #[.slice A l.length c, .int .i64 y] 29)).alloc (.cells #[.int .i64 0, .int .i64 0, .string ⟨#[]⟩, .string ⟨#[]⟩, .string ⟨#[]⟩, .string ⟨#[]⟩] 34))) := ((Below.refl _ _).alloc (Nat.le_refl _) _).alloc (by rw [World.size_alloc]; omega) _
  have HR0 : Hid (RdL headC 6 ((w.alloc (.cells #[.slice A l.length c, .int .i64 y] 29)).alloc (.cells #[.int .i64 0, .int .i64 0, .string ⟨#[]⟩, .string ⟨#[]⟩, .string ⟨#[]⟩, .string ⟨#[]⟩] 34)) ((w.alloc (.cells #[.slice A l.length c, .int .i64 y] 29)).alloc (.cells #[.int .i64 0, .int .i64 0, .string ⟨#[]⟩, .string ⟨#[]⟩, .string ⟨#[]⟩, .string ⟨#[]⟩] 34)).heap.size A l.length c l) := (HL.out.below HB0.out (Nat.le_refl _)).more HB0.out.size
  cases hB : storeB l y
  · have HG : Hid (getO l y k = none) := by show _ = _; simp [getO, hB]
    have HBB := Lib.hid hB
    clear hB
    go_enter Tryd.func16, Tryd.ntmps16
    go_wp2_with fail
    refine (StoreOk_any A l.length c l y _ (by exact HR0.out) (by exact HT.out.below HB0.out HT.out.pos)).mono ?_
    rw [HBB.out]
    rintro e w1 ⟨rfl, hb⟩
    have BR1 := BR0.below hb BR0.lt
    have HB1 := Lib.hid (HB0.out.trans (hb.mono HB0.out.size))
    clear hb BP0 BR0
    have tr0 : w1.cell? ⟨w.heap.size + 1, 0, none⟩ = some (.int .i64 0) := (Blk.cell BR1 0).trans rfl
    have tr1 : w1.cell? ⟨w.heap.size + 1, 1, none⟩ = some (.int .i64 0) := (Blk.cell BR1 1).trans rfl
    have tr2 : w1.cell? ⟨w.heap.size + 1, 2, none⟩ = some (.string ⟨#[]⟩) := (Blk.cell BR1 2).trans rfl
    have tr3 : w1.cell? ⟨w.heap.size + 1, 3, none⟩ = some (.string ⟨#[]⟩) := (Blk.cell BR1 3).trans rfl
    have tr4 : w1.cell? ⟨w.heap.size + 1, 4, none⟩ = some (.string ⟨#[]⟩) := (Blk.cell BR1 4).trans rfl
    have tr5 : w1.cell? ⟨w.heap.size + 1, 5, none⟩ = some (.string ⟨#[]⟩) := (Blk.cell BR1 5).trans rfl
    have fr := Blk.frozen BR1
    go_wp2
    refine bodyPost_ret (v := .tuple #[.agg #[.int .i64 0, .int .i64 0, .string ⟨#[]⟩, .string ⟨#[]⟩, .string ⟨#[]⟩, .string ⟨#[]⟩], .bool false]) (by simp [results, Tryd.results16, go_sem, tr0, tr1, tr2, tr3, tr4, tr5]) rfl ⟨by rw [HG.out]; rfl, ?_⟩
    (repeat (first | with_reducible refine Below.setCell ?_ (by first | exact Nat.le_refl _ | (simp; done) | (simp; omega)) _ | with_reducible refine Below.alloc ?_ (by first | exact Nat.le_refl _ | (simp; done) | (simp; omega)) _ | with_reducible refine Below.drew ?_)); (with_reducible exact HB1.out)
  · have HBB := Lib.hid hB
    have HGE : Hid (getO l y k = l.find? (fun x => x.h == k)) := by show _ = _; simp [getO, hB]
    clear hB
    go_enter Tryd.func16, Tryd.ntmps16
    go_wp2_with fail
    refine (StoreOk_any A l.length c l y _ (by exact HR0.out) (by exact HT.out.below HB0.out HT.out.pos)).mono ?_
    rw [HBB.out]
    rintro e w1 ⟨rfl, hb⟩
    have BP1 := BP0.below hb BP0.lt
    have BR1 := BR0.below hb BR0.lt
    have HB1 := Lib.hid (HB0.out.trans (hb.mono HB0.out.size))
    clear hb BP0 BR0
    have ta0 : w1.cell? ⟨w.heap.size, 0, none⟩ = some (.slice A l.length c) := (Blk.cell BP1 0).trans rfl
    have ta1 : w1.cell? ⟨w.heap.size, 1, none⟩ = some (.int .i64 y) := (Blk.cell BP1 1).trans rfl
    have s1 := BR1.lt
    have HR1 := Lib.hid (HL.out.below HB1.out (Nat.le_refl _))
    go_wp2_with fail
    go_loopw [15] (fun i wr => ∃ j : Nat, j ≤ l.length ∧ i = .int .i64 j ∧ Below w1.heap.size w1 wr ∧ l.find? (fun x => x.h == k) = (l.drop j).find? (fun x => x.h == k)) (fun i _ => l.length - (intOf i).toNat)
    case atStart => exact ⟨0, by omega, rfl, Below.refl _ _, rfl⟩
    case round =>
      obtain ⟨j, hj, rfl, hb, he⟩ := hrel
      have HE := Lib.hid he; clear he
      have hz := hb.size
      have HB := Lib.hid hb; clear hb
      have HBW : Hid (Below w.heap.size w wr) := HB1.out.trans (HB.out.mono (by omega))
      by_cases hjn : j < l.length
      · obtain ⟨b, off, p, rfl, hb1, hp, c0, c1, c2, c3, c4, c5⟩ := head_cells (HR1.out.below HB.out (by omega)) hjn
        have HP := Lib.hid hp; clear hp
        cases hv : (p.h == k)
        · have HE2 := Lib.hid (HE.out.trans (find_no HP.out hv))
          go_wp2_with fail
          go_roundw
          case rel => exact ⟨j + 1, by omega, by go_num, HB.out.alloc hz _, HE2.out⟩
          case measure => simp [intOf]; omega
        · have HG := Lib.hid (HGE.out.trans (HE.out.trans (find_yes HP.out hv)))
          have BR := BR1.below HB.out BR1.lt
          have tr0 : wr.cell? ⟨w.heap.size + 1, 0, none⟩ = some (.int .i64 0) := (Blk.cell BR 0).trans rfl
          have tr1 : wr.cell? ⟨w.heap.size + 1, 1, none⟩ = some (.int .i64 0) := (Blk.cell BR 1).trans rfl
          have tr2 : wr.cell? ⟨w.heap.size + 1, 2, none⟩ = some (.string ⟨#[]⟩) := (Blk.cell BR 2).trans rfl
          have tr3 : wr.cell? ⟨w.heap.size + 1, 3, none⟩ = some (.string ⟨#[]⟩) := (Blk.cell BR 3).trans rfl
          have tr4 : wr.cell? ⟨w.heap.size + 1, 4, none⟩ = some (.string ⟨#[]⟩) := (Blk.cell BR 4).trans rfl
          have tr5 : wr.cell? ⟨w.heap.size + 1, 5, none⟩ = some (.string ⟨#[]⟩) := (Blk.cell BR 5).trans rfl
          have fr := Blk.frozen BR
          have s2 : w.heap.size + 1 < wr.heap.size := BR.lt
          have hne : (w.heap.size + 1 = wr.heap.size) = False := by simp; omega
          have hne2 : (wr.heap.size = w.heap.size + 1) = False := by simp; omega
          have HBZ := Lib.hid (HBW.out.alloc (by omega) (.cells #[.int .i64 p.h, .int .i64 p.t, .string p.last, .string p.vals, .string p.next, .string p.data] 34))
          go_wp2
          refine bodyPost_ret (v := .tuple #[.agg #[.int .i64 p.h, .int .i64 p.t, .string p.last, .string p.vals, .string p.next, .string p.data], .bool true]) (by simp [results, Tryd.results16, go_sem, tr0, tr1, tr2, tr3, tr4, tr5, s2]) rfl ⟨by rw [HG.out]; rfl, ?_⟩
          (repeat (first | with_reducible refine Below.setCell ?_ (by first | exact Nat.le_refl _ | (simp; done) | (simp; omega)) _ | with_reducible refine Below.alloc ?_ (by first | exact Nat.le_refl _ | (simp; done) | (simp; omega)) _ | with_reducible refine Below.drew ?_)); (with_reducible exact HBW.out)
      · obtain rfl : j = l.length := by omega
        have HG : Hid (getO l y k = none) := HGE.out.trans (HE.out.trans (by rw [List.drop_length]; rfl))
        have BR := BR1.below HB.out BR1.lt
        have tr0 : wr.cell? ⟨w.heap.size + 1, 0, none⟩ = some (.int .i64 0) := (Blk.cell BR 0).trans rfl
        have tr1 : wr.cell? ⟨w.heap.size + 1, 1, none⟩ = some (.int .i64 0) := (Blk.cell BR 1).trans rfl
        have tr2 : wr.cell? ⟨w.heap.size + 1, 2, none⟩ = some (.string ⟨#[]⟩) := (Blk.cell BR 2).trans rfl
        have tr3 : wr.cell? ⟨w.heap.size + 1, 3, none⟩ = some (.string ⟨#[]⟩) := (Blk.cell BR 3).trans rfl
        have tr4 : wr.cell? ⟨w.heap.size + 1, 4, none⟩ = some (.string ⟨#[]⟩) := (Blk.cell BR 4).trans rfl
        have tr5 : wr.cell? ⟨w.heap.size + 1, 5, none⟩ = some (.string ⟨#[]⟩) := (Blk.cell BR 5).trans rfl
        have fr := Blk.frozen BR
        go_wp2
        refine bodyPost_ret (v := .tuple #[.agg #[.int .i64 0, .int .i64 0, .string ⟨#[]⟩, .string ⟨#[]⟩, .string ⟨#[]⟩, .string ⟨#[]⟩], .bool false]) (by simp [results, Tryd.results16, go_sem, tr0, tr1, tr2, tr3, tr4, tr5]) rfl ⟨by rw [HG.out]; rfl, ?_⟩
        (repeat (first | with_reducible refine Below.setCell ?_ (by first | exact Nat.le_refl _ | (simp; done) | (simp; omega)) _ | with_reducible refine Below.alloc ?_ (by first | exact Nat.le_refl _ | (simp; done) | (simp; omega)) _ | with_reducible refine Below.drew ?_)); (with_reducible exact HBW.out)

set_option maxHeartbeats 4000000 in
theorem sStoreGet_any (y : Int) (A : Option Addr) (c : Nat) (l : List HeaderD) (k : Int) (w : World) (hl : RdL headC 6 w w.heap.size A l.length c l) :
    Calls Tryd.prog 15 #[.agg #[.slice A l.length c, .int .i64 y], .int .i64 k] w fun e w' => e = .returned (.tuple #[.agg #[.int .i64 (getG (getO l y k)).h, .int .i64 (getG (getO l y k)).t, .string (getG (getO l y k)).last, .string (getG (getO l y k)).vals, .string (getG (getO l y k)).next, .string (getG (getO l y k)).data], .bool (getO l y k).isSome]) ∧ Below w.heap.size w w' := by
  have hn := hl.le
  have HL := Lib.hid hl
  clear hl
  have BP0 : Blk ((w.alloc (.cells #[.slice A l.length c, .int .i64 y] 29)).alloc (.cells #[.int .i64 0, .int .i64 0, .string ⟨#[]⟩, .string ⟨#[]⟩, .string ⟨#[]⟩, .string ⟨#[]⟩] 34)) w.heap.size 29 #[.slice A l.length c, .int .i64 y] := Blk.alloc (heap_alloc_new w _) _
  have BR0 : Blk ((w.alloc (.cells #[.slice A l.length c, .int .i64 y] 29)).alloc (.cells #[.int .i64 0, .int .i64 0, .string ⟨#[]⟩, .string ⟨#[]⟩, .string ⟨#[]⟩, .string ⟨#[]⟩] 34)) (w.heap.size + 1) 34 #[.int .i64 0, .int .i64 0, .string ⟨#[]⟩, .string ⟨#[]⟩, .string ⟨#[]⟩, .string ⟨#[]⟩] := blk_newAt (w.alloc (.cells #[.slice A l.length c, .int .i64 y] 29)) (w.heap.size + 1) _ _ (World.size_alloc _ _)
  have HB0 : Hid (Below w.heap.size w ((w.alloc (.cells #[.slice A l.length c, .int .i64 y] 29)).alloc (.cells #[.int .i64 0, .int .i64 0, .string ⟨#[]⟩, .string ⟨#[]⟩, .string ⟨#[]⟩, .string ⟨#[]⟩] 34))) := ((Below.refl _ _).alloc (Nat.le_refl _) _).alloc (by rw [World.size_alloc]; omega) _
  have HR0 : Hid (RdL headC 6 ((w.alloc (.cells #[.slice A l.length c, .int .i64 y] 29)).alloc (.cells #[.int .i64 0, .int .i64 0, .string ⟨#[]⟩, .string ⟨#[]⟩, .string ⟨#[]⟩, .string ⟨#[]⟩] 34)) ((w.alloc (.cells #[.slice A l.length c, .int .i64 y] 29)).alloc (.cells #[.int .i64 0, .int .i64 0, .string ⟨#[]⟩, .string ⟨#[]⟩, .string ⟨#[]⟩, .string ⟨#[]⟩] 34)).heap.size A l.length c l) := (HL.out.below HB0.out (Nat.le_refl _)).more HB0.out.size
  cases hB : storeB l y
  · have HG : Hid (getO l y k = none) := by show _ = _; simp [getO, hB]
    have HBB := Lib.hid hB
    clear hB
    by_cases hl0 : l.length = 0
    · obtain rfl := List.length_eq_zero_iff.1 hl0
      go_enter Tryd.func15, Tryd.ntmps15
      go_wp2_with fail
      go_loopw [6] (fun i wr => i = .int .i64 0 ∧ Below ((w.alloc (.cells #[.slice A [].length c, .int .i64 y] 29)).alloc (.cells #[.int .i64 0, .int .i64 0, .string ⟨#[]⟩, .string ⟨#[]⟩, .string ⟨#[]⟩, .string ⟨#[]⟩] 34)).heap.size ((w.alloc (.cells #[.slice A [].length c, .int .i64 y] 29)).alloc (.cells #[.int .i64 0, .int .i64 0, .string ⟨#[]⟩, .string ⟨#[]⟩, .string ⟨#[]⟩, .string ⟨#[]⟩] 34)) wr) (fun _ _ => 0)
      case atStart => exact ⟨rfl, Below.refl _ _⟩
      case round =>
        obtain ⟨rfl, hb⟩ := hrel
        have BP := BP0.below hb BP0.lt
        have BR := BR0.below hb BR0.lt
        have HBW : Hid (Below w.heap.size w wr) := HB0.out.trans (hb.mono HB0.out.size)
        have ta0 : wr.cell? ⟨w.heap.size, 0, none⟩ = some (.slice A 0 c) := (Blk.cell BP 0).trans rfl
        have ta1 : wr.cell? ⟨w.heap.size, 1, none⟩ = some (.int .i64 y) := (Blk.cell BP 1).trans rfl
        clear BP hb
        have tr0 : wr.cell? ⟨w.heap.size + 1, 0, none⟩ = some (.int .i64 0) := (Blk.cell BR 0).trans rfl
        have tr1 : wr.cell? ⟨w.heap.size + 1, 1, none⟩ = some (.int .i64 0) := (Blk.cell BR 1).trans rfl
        have tr2 : wr.cell? ⟨w.heap.size + 1, 2, none⟩ = some (.string ⟨#[]⟩) := (Blk.cell BR 2).trans rfl
        have tr3 : wr.cell? ⟨w.heap.size + 1, 3, none⟩ = some (.string ⟨#[]⟩) := (Blk.cell BR 3).trans rfl
        have tr4 : wr.cell? ⟨w.heap.size + 1, 4, none⟩ = some (.string ⟨#[]⟩) := (Blk.cell BR 4).trans rfl
        have tr5 : wr.cell? ⟨w.heap.size + 1, 5, none⟩ = some (.string ⟨#[]⟩) := (Blk.cell BR 5).trans rfl
        have fr := Blk.frozen BR
        go_wp2
        refine bodyPost_ret (v := .tuple #[.agg #[.int .i64 0, .int .i64 0, .string ⟨#[]⟩, .string ⟨#[]⟩, .string ⟨#[]⟩, .string ⟨#[]⟩], .bool false]) (by simp [results, Tryd.results15, go_sem, tr0, tr1, tr2, tr3, tr4, tr5]) rfl ⟨by rw [HG.out]; rfl, ?_⟩
        (repeat (first | with_reducible refine Below.setCell ?_ (by first | exact Nat.le_refl _ | (simp; done) | (simp; omega)) _ | with_reducible refine Below.alloc ?_ (by first | exact Nat.le_refl _ | (simp; done) | (simp; omega)) _ | with_reducible refine Below.drew ?_)); (with_reducible exact HBW.out)
    · go_enter Tryd.func15, Tryd.ntmps15
      go_wp2_with fail
      go_loopw [6] (fun i wr => i = .int .i64 0 ∧ Below ((w.alloc (.cells #[.slice A l.length c, .int .i64 y] 29)).alloc (.cells #[.int .i64 0, .int .i64 0, .string ⟨#[]⟩, .string ⟨#[]⟩, .string ⟨#[]⟩, .string ⟨#[]⟩] 34)).heap.size ((w.alloc (.cells #[.slice A l.length c, .int .i64 y] 29)).alloc (.cells #[.int .i64 0, .int .i64 0, .string ⟨#[]⟩, .string ⟨#[]⟩, .string ⟨#[]⟩, .string ⟨#[]⟩] 34)) wr) (fun _ _ => 0)
      case atStart => exact ⟨rfl, Below.refl _ _⟩
      case round =>
        obtain ⟨rfl, hb⟩ := hrel
        have BP := BP0.below hb BP0.lt
        have BR := BR0.below hb BR0.lt
        have HBW : Hid (Below w.heap.size w wr) := HB0.out.trans (hb.mono HB0.out.size)
        have HRW : Hid (RdL headC 6 wr wr.heap.size A l.length c l) := (HL.out.below HBW.out (Nat.le_refl _)).more HBW.out.size
        have hlp : (0 : Int) < l.length := by omega
        have hlq : 0 < l.length := by omega
        have ta0 : wr.cell? ⟨w.heap.size, 0, none⟩ = some (.slice A l.length c) := (Blk.cell BP 0).trans rfl
        have ta1 : wr.cell? ⟨w.heap.size, 1, none⟩ = some (.int .i64 y) := (Blk.cell BP 1).trans rfl
        clear hb BP
        go_wp2_with fail
        refine (sStoreOk_any A l.length c l y _ (by exact HRW.out)).mono ?_
        rw [HBB.out]
        rintro e w1 ⟨rfl, hb⟩
        have BR1 := BR.below hb BR.lt
        have HB1 := Lib.hid (HBW.out.trans (hb.mono HBW.out.size))
        clear hb BP0 BR0 BR
        have tr0 : w1.cell? ⟨w.heap.size + 1, 0, none⟩ = some (.int .i64 0) := (Blk.cell BR1 0).trans rfl
        have tr1 : w1.cell? ⟨w.heap.size + 1, 1, none⟩ = some (.int .i64 0) := (Blk.cell BR1 1).trans rfl
        have tr2 : w1.cell? ⟨w.heap.size + 1, 2, none⟩ = some (.string ⟨#[]⟩) := (Blk.cell BR1 2).trans rfl
        have tr3 : w1.cell? ⟨w.heap.size + 1, 3, none⟩ = some (.string ⟨#[]⟩) := (Blk.cell BR1 3).trans rfl
        have tr4 : w1.cell? ⟨w.heap.size + 1, 4, none⟩ = some (.string ⟨#[]⟩) := (Blk.cell BR1 4).trans rfl
        have tr5 : w1.cell? ⟨w.heap.size + 1, 5, none⟩ = some (.string ⟨#[]⟩) := (Blk.cell BR1 5).trans rfl
        have fr := Blk.frozen BR1
        go_wp2
        refine bodyPost_ret (v := .tuple #[.agg #[.int .i64 0, .int .i64 0, .string ⟨#[]⟩, .string ⟨#[]⟩, .string ⟨#[]⟩, .string ⟨#[]⟩], .bool false]) (by simp [results, Tryd.results15, go_sem, tr0, tr1, tr2, tr3, tr4, tr5]) rfl ⟨by rw [HG.out]; rfl, ?_⟩
        (repeat (first | with_reducible refine Below.setCell ?_ (by first | exact Nat.le_refl _ | (simp; done) | (simp; omega)) _ | with_reducible refine Below.alloc ?_ (by first | exact Nat.le_refl _ | (simp; done) | (simp; omega)) _ | with_reducible refine Below.drew ?_)); (with_reducible exact HB1.out)
  · have HBB := Lib.hid hB
    have HGE : Hid (getO l y k = l.find? (fun x => x.h == k)) := by show _ = _; simp [getO, hB]
    clear hB
    go_enter Tryd.func15, Tryd.ntmps15
    go_wp2_with fail
    go_loopw [6] (fun i wr => ∃ j : Nat, j ≤ l.length ∧ i = .int .i64 j ∧ Below ((w.alloc (.cells #[.slice A l.length c, .int .i64 y] 29)).alloc (.cells #[.int .i64 0, .int .i64 0, .string ⟨#[]⟩, .string ⟨#[]⟩, .string ⟨#[]⟩, .string ⟨#[]⟩] 34)).heap.size ((w.alloc (.cells #[.slice A l.length c, .int .i64 y] 29)).alloc (.cells #[.int .i64 0, .int .i64 0, .string ⟨#[]⟩, .string ⟨#[]⟩, .string ⟨#[]⟩, .string ⟨#[]⟩] 34)) wr ∧ l.find? (fun x => x.h == k) = (l.drop j).find? (fun x => x.h == k)) (fun i _ => l.length - (intOf i).toNat)
    case atStart => exact ⟨0, by omega, rfl, Below.refl _ _, rfl⟩
    case round =>
      obtain ⟨j, hj, rfl, hb, he⟩ := hrel
      have HE := Lib.hid he; clear he
      have BP := BP0.below hb BP0.lt
      have BR := BR0.below hb BR0.lt
      have HBW : Hid (Below w.heap.size w wr) := HB0.out.trans (hb.mono HB0.out.size)
      have HRW : Hid (RdL headC 6 wr wr.heap.size A l.length c l) := (HL.out.below HBW.out (Nat.le_refl _)).more HBW.out.size
      have HB := Lib.hid hb; clear hb
      have ta0 : wr.cell? ⟨w.heap.size, 0, none⟩ = some (.slice A l.length c) := (Blk.cell BP 0).trans rfl
      have ta1 : wr.cell? ⟨w.heap.size, 1, none⟩ = some (.int .i64 y) := (Blk.cell BP 1).trans rfl
      by_cases hjn : j < l.length
      · go_wp2_with fail
        refine (sStoreOk_any A l.length c l y _ (by exact HRW.out)).mono ?_
        rw [HBB.out]
        rintro e w1 ⟨rfl, hb⟩
        have BP1 := BP.below hb BP.lt
        have BR1 := BR.below hb BR.lt
        have HB1 := Lib.hid (HBW.out.trans (hb.mono HBW.out.size))
        have HBN := Lib.hid (HB.out.trans (hb.mono HB.out.size))
        have HR1 := Lib.hid (HL.out.below HB1.out (Nat.le_refl _))
        clear hb BP BR ta0 ta1
        obtain ⟨b, off, p, rfl, hb1, hp, c0, c1, c2, c3, c4, c5⟩ := head_cells HR1.out hjn
        have HP := Lib.hid hp; clear hp
        have s1 := BR1.lt
        have ta0 : w1.cell? ⟨w.heap.size, 0, none⟩ = some (.slice (some ⟨b, off, none⟩) l.length c) := (Blk.cell BP1 0).trans rfl
        have ta1 : w1.cell? ⟨w.heap.size, 1, none⟩ = some (.int .i64 y) := (Blk.cell BP1 1).trans rfl
        cases hv : (p.h == k)
        · have HE2 := Lib.hid (HE.out.trans (find_no HP.out hv))
          go_wp2_with fail
          go_roundw
          case rel => exact ⟨j + 1, by omega, by go_num, HBN.out, HE2.out⟩
          case measure => simp [intOf]; omega
        · have HG := Lib.hid (HGE.out.trans (HE.out.trans (find_yes HP.out hv)))
          have tr0 : w1.cell? ⟨w.heap.size + 1, 0, none⟩ = some (.int .i64 0) := (Blk.cell BR1 0).trans rfl
          have tr1 : w1.cell? ⟨w.heap.size + 1, 1, none⟩ = some (.int .i64 0) := (Blk.cell BR1 1).trans rfl
          have tr2 : w1.cell? ⟨w.heap.size + 1, 2, none⟩ = some (.string ⟨#[]⟩) := (Blk.cell BR1 2).trans rfl
          have tr3 : w1.cell? ⟨w.heap.size + 1, 3, none⟩ = some (.string ⟨#[]⟩) := (Blk.cell BR1 3).trans rfl
          have tr4 : w1.cell? ⟨w.heap.size + 1, 4, none⟩ = some (.string ⟨#[]⟩) := (Blk.cell BR1 4).trans rfl
          have tr5 : w1.cell? ⟨w.heap.size + 1, 5, none⟩ = some (.string ⟨#[]⟩) := (Blk.cell BR1 5).trans rfl
          have fr := Blk.frozen BR1
          go_wp2
          refine bodyPost_ret (v := .tuple #[.agg #[.int .i64 p.h, .int .i64 p.t, .string p.last, .string p.vals, .string p.next, .string p.data], .bool true]) (by simp [results, Tryd.results15, go_sem, tr0, tr1, tr2, tr3, tr4, tr5]) rfl ⟨by rw [HG.out]; rfl, ?_⟩
          (repeat (first | with_reducible refine Below.setCell ?_ (by first | exact Nat.le_refl _ | (simp; done) | (simp; omega)) _ | with_reducible refine Below.alloc ?_ (by first | exact Nat.le_refl _ | (simp; done) | (simp; omega)) _ | with_reducible refine Below.drew ?_)); (with_reducible exact HB1.out)
      · obtain rfl : j = l.length := by omega
        have HG : Hid (getO l y k = none) := HGE.out.trans (HE.out.trans (by rw [List.drop_length]; rfl))
        have tr0 : wr.cell? ⟨w.heap.size + 1, 0, none⟩ = some (.int .i64 0) := (Blk.cell BR 0).trans rfl
        have tr1 : wr.cell? ⟨w.heap.size + 1, 1, none⟩ = some (.int .i64 0) := (Blk.cell BR 1).trans rfl
        have tr2 : wr.cell? ⟨w.heap.size + 1, 2, none⟩ = some (.string ⟨#[]⟩) := (Blk.cell BR 2).trans rfl
        have tr3 : wr.cell? ⟨w.heap.size + 1, 3, none⟩ = some (.string ⟨#[]⟩) := (Blk.cell BR 3).trans rfl
        have tr4 : wr.cell? ⟨w.heap.size + 1, 4, none⟩ = some (.string ⟨#[]⟩) := (Blk.cell BR 4).trans rfl
        have tr5 : wr.cell? ⟨w.heap.size + 1, 5, none⟩ = some (.string ⟨#[]⟩) := (Blk.cell BR 5).trans rfl
        have fr := Blk.frozen BR
        go_wp2
        refine bodyPost_ret (v := .tuple #[.agg #[.int .i64 0, .int .i64 0, .string ⟨#[]⟩, .string ⟨#[]⟩, .string ⟨#[]⟩, .string ⟨#[]⟩], .bool false]) (by simp [results, Tryd.results15, go_sem, tr0, tr1, tr2, tr3, tr4, tr5]) rfl ⟨by rw [HG.out]; rfl, ?_⟩
        (repeat (first | with_reducible refine Below.setCell ?_ (by first | exact Nat.le_refl _ | (simp; done) | (simp; omega)) _ | with_reducible refine Below.alloc ?_ (by first | exact Nat.le_refl _ | (simp; done) | (simp; omega)) _ | with_reducible refine Below.drew ?_)); (with_reducible exact HBW.out)
end Go.Proofs.YtjdknaipmboekaaDoor
