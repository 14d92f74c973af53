/- StorePrune of the program and of the reference (printed by wip/storefun.py). -/
import Derived.Test.YtjdknaipmboekaaDoorStoreFun2
import Derived.WalkKit
import Derived.WalkSpells
import Derived.WalkLawsBesides
import Derived.Lib.Hide
namespace Go.Proofs.YtjdknaipmboekaaDoor
open Go.RowKit

theorem RdL.drop {α : Type} {f : α → List Value} {w : World} {B n c size b off : Nat} {l : List α} (hf : ∀ x, (f x).length = size) (h : RdL f size w B (some ⟨b, off, none⟩) n c l) {k : Nat} (hk : k ≤ n) : RdL f size w B (some ⟨b, off + k * size, none⟩) (n - k) (c - k) (l.drop k) := by
  obtain ⟨h1, h2, h3, h4, h5⟩ := h
  have hl : (l.drop k).length = n - k := by rw [List.length_drop]; omega
  refine ⟨hl, by rw [flat_len f size _ (fun x _ => hf x), hl], by omega, by omega, fun hn => ?_⟩
  obtain ⟨b', off', e, hb, hc⟩ := h5 (by omega)
  simp only [Option.some.injEq, Addr.mk.injEq, and_true] at e
  obtain ⟨rfl, rfl⟩ := e
  refine ⟨b, off + k * size, rfl, hb, fun j hj => ?_⟩
  have hm : k * size + j < n * size := by
    have : (n - k) * size = n * size - k * size := Nat.sub_mul _ _ _
    omega
  rw [Nat.add_assoc, hc _ hm]
  have hsp : l.flatMap f = (l.take k).flatMap f ++ (l.drop k).flatMap f := by rw [← List.flatMap_append, List.take_append_drop]
  have ht : ((l.take k).flatMap f).length = k * size := by rw [flat_len f size _ (fun x _ => hf x), List.length_take]; congr 1; omega
  rw [hsp, List.getElem?_append_right (by omega), ht]
  congr 1; omega
def pruneB (l : List HeaderD) (y k : Int) : Bool := storeB l y && inB k 1 ((l.length : Int) - 1)
def pruneL (l : List HeaderD) (y k : Int) : List HeaderD := if storeB l y = true then (if inB k 1 ((l.length : Int) - 1) = true then l.drop (l.length - k.toNat) else l) else []
def pruneY (l : List HeaderD) (y k : Int) : Int := if storeB l y = true then (if inB k 1 ((l.length : Int) - 1) = true then (if y - ((l.length : Int) - k) < 0 then 0 else y - ((l.length : Int) - k)) else y) else 0
theorem StorePrune_len (y : Int) (l : List HeaderD) (k : Int) : (pruneL l y k).length ≤ l.length + 1 := by
  unfold pruneL; split
  · split
    · rw [List.length_drop]; omega
    · simp
  · simp

set_option maxHeartbeats 4000000 in
theorem StorePrune_any (y : Int) (A : Option Addr) (c : Nat) (l : List HeaderD) (k : Int) (w : World) (hl : RdL headC 6 w w.heap.size A l.length c l) (ht : Tab w) :
    Calls Tryd.prog 29 #[.agg #[.slice A l.length c, .int .i64 y], .int .i64 k] w (StoreOutK (pruneY l y k) (pruneL l y k) (.bool (pruneB l y k)) w) := by
  have HL := Lib.hid hl
  clear hl
  have HT := Lib.hid ht
  clear ht
  cases hB : storeB l y
  · skip
    have E1 : Hid (pruneY l y k = 0) := by show _ = _; simp [pruneY, hB]
    have E2 : Hid (pruneL l y k = []) := by show _ = _; simp [pruneL, hB]
    have E3 : Hid (pruneB l y k = false) := by show _ = _; simp [pruneB, hB]
    have HBB := Lib.hid hB
    clear hB
    have BP0 : Blk ((w.alloc (.cells #[.slice A l.length c, .int .i64 y] 29)).alloc (.cells #[.slice none 0 0, .int .i64 0] 29)) w.heap.size 29 #[.slice A l.length c, .int .i64 y] := Blk.alloc (heap_alloc_new w _) _
    have BR0 : Blk ((w.alloc (.cells #[.slice A l.length c, .int .i64 y] 29)).alloc (.cells #[.slice none 0 0, .int .i64 0] 29)) (w.heap.size + 1) 29 #[.slice none 0 0, .int .i64 0] := blk_newAt (w.alloc (.cells #[.slice A l.length c, .int .i64 y] 29)) (w.heap.size + 1) _ _ (World.size_alloc _ _)
    have HB0 : Hid (Below w.heap.size w ((w.alloc (.cells #[.slice A l.length c, .int .i64 y] 29)).alloc (.cells #[.slice none 0 0, .int .i64 0] 29))) := ((Below.refl _ _).alloc (Nat.le_refl _) _).alloc (by rw [World.size_alloc]; omega) _
    have HR0 : Hid (RdL headC 6 ((w.alloc (.cells #[.slice A l.length c, .int .i64 y] 29)).alloc (.cells #[.slice none 0 0, .int .i64 0] 29)) ((w.alloc (.cells #[.slice A l.length c, .int .i64 y] 29)).alloc (.cells #[.slice none 0 0, .int .i64 0] 29)).heap.size A l.length c l) := (HL.out.below HB0.out (Nat.le_refl _)).more HB0.out.size
    go_enter Tryd.func29, Tryd.ntmps29
    go_wp2_with fail
    refine (StoreOk_any A l.length c l _ _ (by exact HR0.out) (by exact HT.out.below HB0.out HT.out.pos)).mono ?_
    rw [HBB.out]
    rintro e w1 ⟨rfl, hb⟩
    have BP1 := BP0.below hb BP0.lt
    have BR1 := BR0.below hb BR0.lt
    have HB1 := Lib.hid (HB0.out.trans (hb.mono HB0.out.size))
    clear hb BP0 BR0
    have tr0 : w1.cell? ⟨w.heap.size + 1, 0, none⟩ = some (.slice none 0 0) := (Blk.cell BR1 0).trans rfl
    have tr1 : w1.cell? ⟨w.heap.size + 1, 1, none⟩ = some (.int .i64 0) := (Blk.cell BR1 1).trans rfl
    have fr := BR1.frozen
    go_wp2
    refine bodyPost_ret (v := .tuple #[.agg #[.slice none 0 0, .int .i64 0], .bool false]) (by simp [results, Tryd.results29, go_sem, tr0, tr1]) rfl ?_
    rw [E1.out, E2.out, E3.out]
    refine ⟨none, 0, rfl, ⟨rfl, .inl ⟨rfl, rfl, rfl⟩⟩, ?_⟩
    (repeat (first | with_reducible refine Below.setCell ?_ (by first | exact Nat.le_refl _ | (simp; done) | (simp; omega)) _ | with_reducible refine Below.alloc ?_ (by first | exact Nat.le_refl _ | (simp; done) | (simp; omega)) _ | with_reducible refine Below.drew ?_)); (with_reducible exact HB1.out)
  · obtain ⟨hn20, hy0, hy1⟩ := storeB_facts hB
    have HBB := Lib.hid hB
    obtain ⟨i0, hi, hz0, hz1, hz2⟩ := info_parts infoHeader
    have BP0 : Blk ((w.alloc (.cells #[.slice A l.length c, .int .i64 y] 29)).alloc (.cells #[.slice none 0 0, .int .i64 0] 29)) w.heap.size 29 #[.slice A l.length c, .int .i64 y] := Blk.alloc (heap_alloc_new w _) _
    have BR0 : Blk ((w.alloc (.cells #[.slice A l.length c, .int .i64 y] 29)).alloc (.cells #[.slice none 0 0, .int .i64 0] 29)) (w.heap.size + 1) 29 #[.slice none 0 0, .int .i64 0] := blk_newAt (w.alloc (.cells #[.slice A l.length c, .int .i64 y] 29)) (w.heap.size + 1) _ _ (World.size_alloc _ _)
    have HB0 : Hid (Below w.heap.size w ((w.alloc (.cells #[.slice A l.length c, .int .i64 y] 29)).alloc (.cells #[.slice none 0 0, .int .i64 0] 29))) := ((Below.refl _ _).alloc (Nat.le_refl _) _).alloc (by rw [World.size_alloc]; omega) _
    have HR0 : Hid (RdL headC 6 ((w.alloc (.cells #[.slice A l.length c, .int .i64 y] 29)).alloc (.cells #[.slice none 0 0, .int .i64 0] 29)) ((w.alloc (.cells #[.slice A l.length c, .int .i64 y] 29)).alloc (.cells #[.slice none 0 0, .int .i64 0] 29)).heap.size A l.length c l) := (HL.out.below HB0.out (Nat.le_refl _)).more HB0.out.size
    cases hin : inB k 1 ((l.length : Int) - 1)
    · skip
      have E1 : Hid (pruneY l y k = y) := by show _ = _; simp [pruneY, hB, hin]
      have E2 : Hid (pruneL l y k = l) := by show _ = _; simp [pruneL, hB, hin]
      have E3 : Hid (pruneB l y k = false) := by show _ = _; simp [pruneB, hB, hin]
      clear hB
      go_enter Tryd.func29, Tryd.ntmps29
      go_wp2_with fail
      refine (StoreOk_any A l.length c l _ _ (by exact HR0.out) (by exact HT.out.below HB0.out HT.out.pos)).mono ?_
      rw [HBB.out]
      rintro e w1 ⟨rfl, hb⟩
      have BP1 := BP0.below hb BP0.lt
      have BR1 := BR0.below hb BR0.lt
      have HB1 := Lib.hid (HB0.out.trans (hb.mono HB0.out.size))
      clear hb BP0 BR0
      have ta0 : w1.cell? ⟨w.heap.size, 0, none⟩ = some (.slice A l.length c) := (Blk.cell BP1 0).trans rfl
      have ta1 : w1.cell? ⟨w.heap.size, 1, none⟩ = some (.int .i64 y) := (Blk.cell BP1 1).trans rfl
      go_wp2_with fail
      refine (copyStore_any _ A l.length c l _ (by exact (HL.out.below HB1.out (Nat.le_refl _)).more HB1.out.size) (by omega)).mono ?_
      rintro e w2 ⟨A2, n2, c2, rfl, ho, hb⟩
      obtain rfl : l.length = n2 := ho.1
      have HO := Lib.hid ho
      have BP2 := BP1.below hb BP1.lt
      have BR2 := BR1.below hb BR1.lt
      have s12 := hb.size
      have s1 := BR1.lt
      have HB2 := Lib.hid (HB1.out.trans (hb.mono HB1.out.size))
      clear ho hb BP1 BR1
      clear ta0 ta1
      have ta0 : w2.cell? ⟨w.heap.size, 0, none⟩ = some (.slice A l.length c) := (Blk.cell BP2 0).trans rfl
      have ta1 : w2.cell? ⟨w.heap.size, 1, none⟩ = some (.int .i64 y) := (Blk.cell BP2 1).trans rfl
      have s2 := BR2.lt
      have s20 : w.heap.size < w2.heap.size := by omega
      have hne : (w.heap.size + 1 = w2.heap.size) = False := by simp; omega
      have hne2 : (w.heap.size = w2.heap.size) = False := by simp; omega
      have tr0 : w2.cell? ⟨w.heap.size + 1, 0, none⟩ = some (.slice none 0 0) := (Blk.cell BR2 0).trans rfl
      have tr1 : w2.cell? ⟨w.heap.size + 1, 1, none⟩ = some (.int .i64 0) := (Blk.cell BR2 1).trans rfl
      have fr := BR2.frozen
      clear BP2 BR2
      go_wp2_with (go_at_call 43; (with_reducible refine (within_any _ _ _ _).mono ?_); rintro e w' ⟨rfl, rfl⟩)
      refine bodyPost_ret (v := .tuple #[.agg #[.slice A2 l.length c2, .int .i64 y], .bool false]) (by simp [results, Tryd.results29, go_sem, tr0, tr1, s2]) rfl ?_
      rw [E1.out, E2.out, E3.out]
      refine ⟨A2, c2, rfl, ?_, ?_⟩
      · refine ((HO.out.chg (lo' := w.heap.size) (hi' := w.heap.size + 2) ?_ (.inr (by omega))).wide (by omega) (by simp))
        (repeat (first | with_reducible refine Chg.setCell ?_ (by first | exact Nat.le_refl _ | (simp; done) | (simp; omega)) (by first | (simp; done) | (simp; omega)) _ | with_reducible refine Chg.alloc ?_ _ | with_reducible refine Chg.drew ?_)); (with_reducible exact Chg.refl _ _ _)
      · (repeat (first | with_reducible refine Below.setCell ?_ (by first | exact Nat.le_refl _ | (simp; done) | (simp; omega)) _ | with_reducible refine Below.alloc ?_ (by first | exact Nat.le_refl _ | (simp; done) | (simp; omega)) _ | with_reducible refine Below.drew ?_)); (with_reducible exact HB2.out)
    · obtain ⟨k1, k2⟩ := (inB_iff _ _ _).1 hin
      obtain ⟨m, rfl⟩ : ∃ m : Nat, k = (m : Int) := ⟨k.toNat, by omega⟩
      obtain ⟨g, hg⟩ : ∃ g : Nat, g + m = l.length := ⟨l.length - m, by omega⟩
      have g1 : 1 ≤ g := by omega
      have g2 : g < l.length := by omega
      have gz : (l.length : Int) - (m : Int) = (g : Int) := by omega
      have E2 : Hid (pruneL l y m = l.drop g) := by show _ = _; simp only [pruneL, hB, hin, if_true]; congr 1; omega
      have E3 : Hid (pruneB l y m = true) := by show _ = _; simp [pruneB, hB, hin]
      have HLN : Hid ((l.drop g).length = m) := by show _ = _; rw [List.length_drop]; omega
      have mg : l.length - g = m := by omega
      by_cases y1 : y - (g : Int) < 0
      · have E1 : Hid (pruneY l y m = 0) := by show _ = _; simp only [pruneY, hB, hin, if_true, gz, if_pos y1]
        clear hB
        go_enter Tryd.func29, Tryd.ntmps29
        go_wp2_with fail
        refine (StoreOk_any A l.length c l _ _ (by exact HR0.out) (by exact HT.out.below HB0.out HT.out.pos)).mono ?_
        rw [HBB.out]
        rintro e w1 ⟨rfl, hb⟩
        have BP1 := BP0.below hb BP0.lt
        have BR1 := BR0.below hb BR0.lt
        have HB1 := Lib.hid (HB0.out.trans (hb.mono HB0.out.size))
        clear hb BP0 BR0
        have ta0 : w1.cell? ⟨w.heap.size, 0, none⟩ = some (.slice A l.length c) := (Blk.cell BP1 0).trans rfl
        have ta1 : w1.cell? ⟨w.heap.size, 1, none⟩ = some (.int .i64 y) := (Blk.cell BP1 1).trans rfl
        go_wp2_with fail
        refine (copyStore_any _ A l.length c l _ (by exact (HL.out.below HB1.out (Nat.le_refl _)).more HB1.out.size) (by omega)).mono ?_
        rintro e w2 ⟨A2, n2, c2, rfl, ho, hb⟩
        obtain rfl : l.length = n2 := ho.1
        have HO := Lib.hid ho
        have BP2 := BP1.below hb BP1.lt
        have BR2 := BR1.below hb BR1.lt
        have s12 := hb.size
        have s1 := BR1.lt
        have HB2 := Lib.hid (HB1.out.trans (hb.mono HB1.out.size))
        clear ho hb BP1 BR1
        clear ta0 ta1
        have ta0 : w2.cell? ⟨w.heap.size, 0, none⟩ = some (.slice A l.length c) := (Blk.cell BP2 0).trans rfl
        have ta1 : w2.cell? ⟨w.heap.size, 1, none⟩ = some (.int .i64 y) := (Blk.cell BP2 1).trans rfl
        have s2 := BR2.lt
        have s20 : w.heap.size < w2.heap.size := by omega
        have hne : (w.heap.size + 1 = w2.heap.size) = False := by simp; omega
        have hne2 : (w.heap.size = w2.heap.size) = False := by simp; omega
        have HRA := Lib.hid (HL.out.below HB2.out (Nat.le_refl _))
        have hgc : g < c := Nat.lt_of_lt_of_le g2 HRA.out.2.2.1
        obtain ⟨b, off, hA, _⟩ := HRA.out.2.2.2.2 (by omega)
        subst hA
        have HDR := Lib.hid (RdL.drop headC_len HRA.out (Nat.le_of_lt g2))
        rw [mg] at HDR
        have VX0 : Blk (w2.alloc (.cells #[.slice A2 l.length c2, .int .i64 y] 29)) w2.heap.size 29 #[.slice A2 l.length c2, .int .i64 y] := heap_alloc_new w2 _
        have BX2 := BR2.alloc (.cells #[.slice A2 l.length c2, .int .i64 y] 29)
        have BY2 := BP2.alloc (.cells #[.slice A2 l.length c2, .int .i64 y] 29)
        have HBX : Hid (Below w.heap.size w (w2.alloc (.cells #[.slice A2 l.length c2, .int .i64 y] 29))) := HB2.out.alloc (by omega) _
        go_wp2_with (first | (go_at_call 43; (with_reducible refine (within_any _ _ _ _).mono ?_); rintro e w' ⟨rfl, rfl⟩) | (at_builtin; refine wpList_app_rd _ rfl _ _ _ rfl (w2.heap.size + 1) 34 i0 _ 6 80 Tryd.underlying27 hi hz0 hz1 hz2 rfl (by decide) (.slice none 0 0) 0 [] rfl ⟨by simp, .inl ⟨rfl, rfl⟩⟩ w2.heap.size (some ⟨b, off + g * 6, none⟩) m (c - g) ((l.drop g).flatMap headC) rfl (by exact (((HDR.out.more HB2.out.size).alloc (Nat.le_refl _) _)).2) (headC_one _) (by unfold maxLen; omega) (by omega) (by first | (simp; done) | (simp; omega)) ?_))
        intro v3 w3 hown hg hat
        clear hat
        (try simp only [Nat.zero_add, List.nil_append] at hown)
        obtain ⟨A3, c3, rfl, ho⟩ := OwnL.of_own (f := headC) (l := l.drop g) (n := m) HLN.out hown
        have HO3 := Lib.hid ho
        have hgb : Below (w2.heap.size + 1) (w2.alloc (.cells #[.slice A2 l.length c2, .int .i64 y] 29)) w3 := (Below.refl _ _).grown hg (by first | (simp; done) | (simp; omega)) (fun k hk => by cases hk)
        have BX3 := VX0.below hgb (by omega)
        have BR3 := BX2.below hgb (by omega)
        have BP3 := BY2.below hgb (by omega)
        have s23 : w2.heap.size + 1 ≤ w3.heap.size := by have h := hgb.size; rw [World.size_alloc] at h; exact h
        have HB3 := Lib.hid (HBX.out.trans (hgb.mono (by omega)))
        clear hown hg ho ta0 ta1 hgb VX0 BX2 BY2
        have xr0 : w3.cell? ⟨w2.heap.size, 0, none⟩ = some (.slice A2 l.length c2) := (Blk.cell BX3 0).trans rfl
        have xr1 : w3.cell? ⟨w2.heap.size, 1, none⟩ = some (.int .i64 y) := (Blk.cell BX3 1).trans rfl
        have tr0 : w3.cell? ⟨w.heap.size + 1, 0, none⟩ = some (.slice none 0 0) := (Blk.cell BR3 0).trans rfl
        have tr1 : w3.cell? ⟨w.heap.size + 1, 1, none⟩ = some (.int .i64 0) := (Blk.cell BR3 1).trans rfl
        have ta0 : w3.cell? ⟨w.heap.size, 0, none⟩ = some (.slice (some ⟨b, off, none⟩) l.length c) := (Blk.cell BP3 0).trans rfl
        have ta1 : w3.cell? ⟨w.heap.size, 1, none⟩ = some (.int .i64 y) := (Blk.cell BP3 1).trans rfl
        have fr := BR3.frozen
        have fx := BX3.frozen
        have s30 : w.heap.size + 1 < w3.heap.size := by omega
        have s31 : w2.heap.size < w3.heap.size := by omega
        have hne3 : (w2.heap.size = w.heap.size + 1) = False := by simp; omega
        have hne4 : (w2.heap.size = w.heap.size) = False := by simp; omega
        clear BP3 BP2 BR2
        clear BX3 BR3
        go_wp2
        refine bodyPost_ret (v := .tuple #[.agg #[.slice A3 m c3, .int .i64 (0)], .bool true]) (by simp [results, Tryd.results29, go_sem, tr0, tr1]) rfl ?_
        rw [E1.out, E2.out, E3.out]
        refine ⟨A3, c3, by rw [HLN.out], ?_, ?_⟩
        · rw [HLN.out]
          refine ((HO3.out.chg (lo' := w.heap.size) (hi' := w2.heap.size + 1) ?_ (.inr (by omega))).wide (by omega) (by simp))
          (repeat (first | with_reducible refine Chg.setCell ?_ (by first | exact Nat.le_refl _ | (simp; done) | (simp; omega)) (by first | (simp; done) | (simp; omega)) _ | with_reducible refine Chg.alloc ?_ _ | with_reducible refine Chg.drew ?_)); (with_reducible exact Chg.refl _ _ _)
        · (repeat (first | with_reducible refine Below.setCell ?_ (by first | exact Nat.le_refl _ | (simp; done) | (simp; omega)) _ | with_reducible refine Below.alloc ?_ (by first | exact Nat.le_refl _ | (simp; done) | (simp; omega)) _ | with_reducible refine Below.drew ?_)); (with_reducible exact HB3.out)
      by_cases y3 : y - (g : Int) = 0
      · have E1 : Hid (pruneY l y m = 0) := by show _ = _; (unfold pruneY; rw [if_pos hB, if_pos hin, gz, y3]; rfl)
        clear y1
        clear hB
        go_enter Tryd.func29, Tryd.ntmps29
        go_wp2_with fail
        refine (StoreOk_any A l.length c l _ _ (by exact HR0.out) (by exact HT.out.below HB0.out HT.out.pos)).mono ?_
        rw [HBB.out]
        rintro e w1 ⟨rfl, hb⟩
        have BP1 := BP0.below hb BP0.lt
        have BR1 := BR0.below hb BR0.lt
        have HB1 := Lib.hid (HB0.out.trans (hb.mono HB0.out.size))
        clear hb BP0 BR0
        have ta0 : w1.cell? ⟨w.heap.size, 0, none⟩ = some (.slice A l.length c) := (Blk.cell BP1 0).trans rfl
        have ta1 : w1.cell? ⟨w.heap.size, 1, none⟩ = some (.int .i64 y) := (Blk.cell BP1 1).trans rfl
        go_wp2_with fail
        refine (copyStore_any _ A l.length c l _ (by exact (HL.out.below HB1.out (Nat.le_refl _)).more HB1.out.size) (by omega)).mono ?_
        rintro e w2 ⟨A2, n2, c2, rfl, ho, hb⟩
        obtain rfl : l.length = n2 := ho.1
        have HO := Lib.hid ho
        have BP2 := BP1.below hb BP1.lt
        have BR2 := BR1.below hb BR1.lt
        have s12 := hb.size
        have s1 := BR1.lt
        have HB2 := Lib.hid (HB1.out.trans (hb.mono HB1.out.size))
        clear ho hb BP1 BR1
        clear ta0 ta1
        have ta0 : w2.cell? ⟨w.heap.size, 0, none⟩ = some (.slice A l.length c) := (Blk.cell BP2 0).trans rfl
        have ta1 : w2.cell? ⟨w.heap.size, 1, none⟩ = some (.int .i64 y) := (Blk.cell BP2 1).trans rfl
        have s2 := BR2.lt
        have s20 : w.heap.size < w2.heap.size := by omega
        have hne : (w.heap.size + 1 = w2.heap.size) = False := by simp; omega
        have hne2 : (w.heap.size = w2.heap.size) = False := by simp; omega
        have HRA := Lib.hid (HL.out.below HB2.out (Nat.le_refl _))
        have hgc : g < c := Nat.lt_of_lt_of_le g2 HRA.out.2.2.1
        obtain ⟨b, off, hA, _⟩ := HRA.out.2.2.2.2 (by omega)
        subst hA
        have HDR := Lib.hid (RdL.drop headC_len HRA.out (Nat.le_of_lt g2))
        rw [mg] at HDR
        have VX0 : Blk (w2.alloc (.cells #[.slice A2 l.length c2, .int .i64 y] 29)) w2.heap.size 29 #[.slice A2 l.length c2, .int .i64 y] := heap_alloc_new w2 _
        have BX2 := BR2.alloc (.cells #[.slice A2 l.length c2, .int .i64 y] 29)
        have BY2 := BP2.alloc (.cells #[.slice A2 l.length c2, .int .i64 y] 29)
        have HBX : Hid (Below w.heap.size w (w2.alloc (.cells #[.slice A2 l.length c2, .int .i64 y] 29))) := HB2.out.alloc (by omega) _
        go_wp2_with (first | (go_at_call 43; (with_reducible refine (within_any _ _ _ _).mono ?_); rintro e w' ⟨rfl, rfl⟩) | (at_builtin; refine wpList_app_rd _ rfl _ _ _ rfl (w2.heap.size + 1) 34 i0 _ 6 80 Tryd.underlying27 hi hz0 hz1 hz2 rfl (by decide) (.slice none 0 0) 0 [] rfl ⟨by simp, .inl ⟨rfl, rfl⟩⟩ w2.heap.size (some ⟨b, off + g * 6, none⟩) m (c - g) ((l.drop g).flatMap headC) rfl (by exact (((HDR.out.more HB2.out.size).alloc (Nat.le_refl _) _)).2) (headC_one _) (by unfold maxLen; omega) (by omega) (by first | (simp; done) | (simp; omega)) ?_))
        intro v3 w3 hown hg hat
        clear hat
        (try simp only [Nat.zero_add, List.nil_append] at hown)
        obtain ⟨A3, c3, rfl, ho⟩ := OwnL.of_own (f := headC) (l := l.drop g) (n := m) HLN.out hown
        have HO3 := Lib.hid ho
        have hgb : Below (w2.heap.size + 1) (w2.alloc (.cells #[.slice A2 l.length c2, .int .i64 y] 29)) w3 := (Below.refl _ _).grown hg (by first | (simp; done) | (simp; omega)) (fun k hk => by cases hk)
        have BX3 := VX0.below hgb (by omega)
        have BR3 := BX2.below hgb (by omega)
        have BP3 := BY2.below hgb (by omega)
        have s23 : w2.heap.size + 1 ≤ w3.heap.size := by have h := hgb.size; rw [World.size_alloc] at h; exact h
        have HB3 := Lib.hid (HBX.out.trans (hgb.mono (by omega)))
        clear hown hg ho ta0 ta1 hgb VX0 BX2 BY2
        have xr0 : w3.cell? ⟨w2.heap.size, 0, none⟩ = some (.slice A2 l.length c2) := (Blk.cell BX3 0).trans rfl
        have xr1 : w3.cell? ⟨w2.heap.size, 1, none⟩ = some (.int .i64 y) := (Blk.cell BX3 1).trans rfl
        have tr0 : w3.cell? ⟨w.heap.size + 1, 0, none⟩ = some (.slice none 0 0) := (Blk.cell BR3 0).trans rfl
        have tr1 : w3.cell? ⟨w.heap.size + 1, 1, none⟩ = some (.int .i64 0) := (Blk.cell BR3 1).trans rfl
        have ta0 : w3.cell? ⟨w.heap.size, 0, none⟩ = some (.slice (some ⟨b, off, none⟩) l.length c) := (Blk.cell BP3 0).trans rfl
        have ta1 : w3.cell? ⟨w.heap.size, 1, none⟩ = some (.int .i64 y) := (Blk.cell BP3 1).trans rfl
        have fr := BR3.frozen
        have fx := BX3.frozen
        have s30 : w.heap.size + 1 < w3.heap.size := by omega
        have s31 : w2.heap.size < w3.heap.size := by omega
        have hne3 : (w2.heap.size = w.heap.size + 1) = False := by simp; omega
        have hne4 : (w2.heap.size = w.heap.size) = False := by simp; omega
        clear BP3 BP2 BR2
        clear BX3 BR3
        go_wp2
        refine bodyPost_ret (v := .tuple #[.agg #[.slice A3 m c3, .int .i64 (0)], .bool true]) (by simp [results, Tryd.results29, go_sem, tr0, tr1]) rfl ?_
        rw [E1.out, E2.out, E3.out]
        refine ⟨A3, c3, by rw [HLN.out], ?_, ?_⟩
        · rw [HLN.out]
          refine ((HO3.out.chg (lo' := w.heap.size) (hi' := w2.heap.size + 1) ?_ (.inr (by omega))).wide (by omega) (by simp))
          (repeat (first | with_reducible refine Chg.setCell ?_ (by first | exact Nat.le_refl _ | (simp; done) | (simp; omega)) (by first | (simp; done) | (simp; omega)) _ | with_reducible refine Chg.alloc ?_ _ | with_reducible refine Chg.drew ?_)); (with_reducible exact Chg.refl _ _ _)
        · (repeat (first | with_reducible refine Below.setCell ?_ (by first | exact Nat.le_refl _ | (simp; done) | (simp; omega)) _ | with_reducible refine Below.alloc ?_ (by first | exact Nat.le_refl _ | (simp; done) | (simp; omega)) _ | with_reducible refine Below.drew ?_)); (with_reducible exact HB3.out)
      · have E1 : Hid (pruneY l y m = y - (g : Int)) := by show _ = _; simp only [pruneY, hB, hin, if_true, gz, if_neg y1]
        have y2 : 0 < y - (g : Int) := by omega
        have y4 : 0 ≤ y - (g : Int) := by omega
        clear y1 y3
        clear hB
        go_enter Tryd.func29, Tryd.ntmps29
        go_wp2_with fail
        refine (StoreOk_any A l.length c l _ _ (by exact HR0.out) (by exact HT.out.below HB0.out HT.out.pos)).mono ?_
        rw [HBB.out]
        rintro e w1 ⟨rfl, hb⟩
        have BP1 := BP0.below hb BP0.lt
        have BR1 := BR0.below hb BR0.lt
        have HB1 := Lib.hid (HB0.out.trans (hb.mono HB0.out.size))
        clear hb BP0 BR0
        have ta0 : w1.cell? ⟨w.heap.size, 0, none⟩ = some (.slice A l.length c) := (Blk.cell BP1 0).trans rfl
        have ta1 : w1.cell? ⟨w.heap.size, 1, none⟩ = some (.int .i64 y) := (Blk.cell BP1 1).trans rfl
        go_wp2_with fail
        refine (copyStore_any _ A l.length c l _ (by exact (HL.out.below HB1.out (Nat.le_refl _)).more HB1.out.size) (by omega)).mono ?_
        rintro e w2 ⟨A2, n2, c2, rfl, ho, hb⟩
        obtain rfl : l.length = n2 := ho.1
        have HO := Lib.hid ho
        have BP2 := BP1.below hb BP1.lt
        have BR2 := BR1.below hb BR1.lt
        have s12 := hb.size
        have s1 := BR1.lt
        have HB2 := Lib.hid (HB1.out.trans (hb.mono HB1.out.size))
        clear ho hb BP1 BR1
        clear ta0 ta1
        have ta0 : w2.cell? ⟨w.heap.size, 0, none⟩ = some (.slice A l.length c) := (Blk.cell BP2 0).trans rfl
        have ta1 : w2.cell? ⟨w.heap.size, 1, none⟩ = some (.int .i64 y) := (Blk.cell BP2 1).trans rfl
        have s2 := BR2.lt
        have s20 : w.heap.size < w2.heap.size := by omega
        have hne : (w.heap.size + 1 = w2.heap.size) = False := by simp; omega
        have hne2 : (w.heap.size = w2.heap.size) = False := by simp; omega
        have HRA := Lib.hid (HL.out.below HB2.out (Nat.le_refl _))
        have hgc : g < c := Nat.lt_of_lt_of_le g2 HRA.out.2.2.1
        obtain ⟨b, off, hA, _⟩ := HRA.out.2.2.2.2 (by omega)
        subst hA
        have HDR := Lib.hid (RdL.drop headC_len HRA.out (Nat.le_of_lt g2))
        rw [mg] at HDR
        have VX0 : Blk (w2.alloc (.cells #[.slice A2 l.length c2, .int .i64 y] 29)) w2.heap.size 29 #[.slice A2 l.length c2, .int .i64 y] := heap_alloc_new w2 _
        have BX2 := BR2.alloc (.cells #[.slice A2 l.length c2, .int .i64 y] 29)
        have BY2 := BP2.alloc (.cells #[.slice A2 l.length c2, .int .i64 y] 29)
        have HBX : Hid (Below w.heap.size w (w2.alloc (.cells #[.slice A2 l.length c2, .int .i64 y] 29))) := HB2.out.alloc (by omega) _
        go_wp2_with (first | (go_at_call 43; (with_reducible refine (within_any _ _ _ _).mono ?_); rintro e w' ⟨rfl, rfl⟩) | (at_builtin; refine wpList_app_rd _ rfl _ _ _ rfl (w2.heap.size + 1) 34 i0 _ 6 80 Tryd.underlying27 hi hz0 hz1 hz2 rfl (by decide) (.slice none 0 0) 0 [] rfl ⟨by simp, .inl ⟨rfl, rfl⟩⟩ w2.heap.size (some ⟨b, off + g * 6, none⟩) m (c - g) ((l.drop g).flatMap headC) rfl (by exact (((HDR.out.more HB2.out.size).alloc (Nat.le_refl _) _)).2) (headC_one _) (by unfold maxLen; omega) (by omega) (by first | (simp; done) | (simp; omega)) ?_))
        intro v3 w3 hown hg hat
        clear hat
        (try simp only [Nat.zero_add, List.nil_append] at hown)
        obtain ⟨A3, c3, rfl, ho⟩ := OwnL.of_own (f := headC) (l := l.drop g) (n := m) HLN.out hown
        have HO3 := Lib.hid ho
        have hgb : Below (w2.heap.size + 1) (w2.alloc (.cells #[.slice A2 l.length c2, .int .i64 y] 29)) w3 := (Below.refl _ _).grown hg (by first | (simp; done) | (simp; omega)) (fun k hk => by cases hk)
        have BX3 := VX0.below hgb (by omega)
        have BR3 := BX2.below hgb (by omega)
        have BP3 := BY2.below hgb (by omega)
        have s23 : w2.heap.size + 1 ≤ w3.heap.size := by have h := hgb.size; rw [World.size_alloc] at h; exact h
        have HB3 := Lib.hid (HBX.out.trans (hgb.mono (by omega)))
        clear hown hg ho ta0 ta1 hgb VX0 BX2 BY2
        have xr0 : w3.cell? ⟨w2.heap.size, 0, none⟩ = some (.slice A2 l.length c2) := (Blk.cell BX3 0).trans rfl
        have xr1 : w3.cell? ⟨w2.heap.size, 1, none⟩ = some (.int .i64 y) := (Blk.cell BX3 1).trans rfl
        have tr0 : w3.cell? ⟨w.heap.size + 1, 0, none⟩ = some (.slice none 0 0) := (Blk.cell BR3 0).trans rfl
        have tr1 : w3.cell? ⟨w.heap.size + 1, 1, none⟩ = some (.int .i64 0) := (Blk.cell BR3 1).trans rfl
        have ta0 : w3.cell? ⟨w.heap.size, 0, none⟩ = some (.slice (some ⟨b, off, none⟩) l.length c) := (Blk.cell BP3 0).trans rfl
        have ta1 : w3.cell? ⟨w.heap.size, 1, none⟩ = some (.int .i64 y) := (Blk.cell BP3 1).trans rfl
        have fr := BR3.frozen
        have fx := BX3.frozen
        have s30 : w.heap.size + 1 < w3.heap.size := by omega
        have s31 : w2.heap.size < w3.heap.size := by omega
        have hne3 : (w2.heap.size = w.heap.size + 1) = False := by simp; omega
        have hne4 : (w2.heap.size = w.heap.size) = False := by simp; omega
        clear BP3 BP2 BR2
        clear BX3 BR3
        go_wp2
        refine bodyPost_ret (v := .tuple #[.agg #[.slice A3 m c3, .int .i64 (y - (g : Int))], .bool true]) (by simp [results, Tryd.results29, go_sem, tr0, tr1]) rfl ?_
        rw [E1.out, E2.out, E3.out]
        refine ⟨A3, c3, by rw [HLN.out], ?_, ?_⟩
        · rw [HLN.out]
          refine ((HO3.out.chg (lo' := w.heap.size) (hi' := w2.heap.size + 1) ?_ (.inr (by omega))).wide (by omega) (by simp))
          (repeat (first | with_reducible refine Chg.setCell ?_ (by first | exact Nat.le_refl _ | (simp; done) | (simp; omega)) (by first | (simp; done) | (simp; omega)) _ | with_reducible refine Chg.alloc ?_ _ | with_reducible refine Chg.drew ?_)); (with_reducible exact Chg.refl _ _ _)
        · (repeat (first | with_reducible refine Below.setCell ?_ (by first | exact Nat.le_refl _ | (simp; done) | (simp; omega)) _ | with_reducible refine Below.alloc ?_ (by first | exact Nat.le_refl _ | (simp; done) | (simp; omega)) _ | with_reducible refine Below.drew ?_)); (with_reducible exact HB3.out)

set_option maxHeartbeats 4000000 in
theorem sStorePrune_any (y : Int) (A : Option Addr) (c : Nat) (l : List HeaderD) (k : Int) (w : World) (hl : RdL headC 6 w w.heap.size A l.length c l) :
    Calls Tryd.prog 28 #[.agg #[.slice A l.length c, .int .i64 y], .int .i64 k] w (StoreOutK (pruneY l y k) (pruneL l y k) (.bool (pruneB l y k)) w) := by
  have HL := Lib.hid hl
  clear hl
  cases hB : storeB l y
  · skip
    have E1 : Hid (pruneY l y k = 0) := by show _ = _; simp [pruneY, hB]
    have E2 : Hid (pruneL l y k = []) := by show _ = _; simp [pruneL, hB]
    have E3 : Hid (pruneB l y k = false) := by show _ = _; simp [pruneB, hB]
    have HBB := Lib.hid hB
    clear hB
    have BP0 : Blk ((w.alloc (.cells #[.slice A l.length c, .int .i64 y] 29)).alloc (.cells #[.slice none 0 0, .int .i64 0] 29)) w.heap.size 29 #[.slice A l.length c, .int .i64 y] := Blk.alloc (heap_alloc_new w _) _
    have BR0 : Blk ((w.alloc (.cells #[.slice A l.length c, .int .i64 y] 29)).alloc (.cells #[.slice none 0 0, .int .i64 0] 29)) (w.heap.size + 1) 29 #[.slice none 0 0, .int .i64 0] := blk_newAt (w.alloc (.cells #[.slice A l.length c, .int .i64 y] 29)) (w.heap.size + 1) _ _ (World.size_alloc _ _)
    have HB0 : Hid (Below w.heap.size w ((w.alloc (.cells #[.slice A l.length c, .int .i64 y] 29)).alloc (.cells #[.slice none 0 0, .int .i64 0] 29))) := ((Below.refl _ _).alloc (Nat.le_refl _) _).alloc (by rw [World.size_alloc]; omega) _
    have HR0 : Hid (RdL headC 6 ((w.alloc (.cells #[.slice A l.length c, .int .i64 y] 29)).alloc (.cells #[.slice none 0 0, .int .i64 0] 29)) ((w.alloc (.cells #[.slice A l.length c, .int .i64 y] 29)).alloc (.cells #[.slice none 0 0, .int .i64 0] 29)).heap.size A l.length c l) := (HL.out.below HB0.out (Nat.le_refl _)).more HB0.out.size
    go_enter Tryd.func28, Tryd.ntmps28
    go_wp2_with fail
    refine (sStoreOk_any A l.length c l _ _ (by exact HR0.out)).mono ?_
    rw [HBB.out]
    rintro e w1 ⟨rfl, hb⟩
    have BP1 := BP0.below hb BP0.lt
    have BR1 := BR0.below hb BR0.lt
    have HB1 := Lib.hid (HB0.out.trans (hb.mono HB0.out.size))
    clear hb BP0 BR0
    have tr0 : w1.cell? ⟨w.heap.size + 1, 0, none⟩ = some (.slice none 0 0) := (Blk.cell BR1 0).trans rfl
    have tr1 : w1.cell? ⟨w.heap.size + 1, 1, none⟩ = some (.int .i64 0) := (Blk.cell BR1 1).trans rfl
    have fr := BR1.frozen
    go_wp2
    refine bodyPost_ret (v := .tuple #[.agg #[.slice none 0 0, .int .i64 0], .bool false]) (by simp [results, Tryd.results28, go_sem, tr0, tr1]) rfl ?_
    rw [E1.out, E2.out, E3.out]
    refine ⟨none, 0, rfl, ⟨rfl, .inl ⟨rfl, rfl, rfl⟩⟩, ?_⟩
    (repeat (first | with_reducible refine Below.setCell ?_ (by first | exact Nat.le_refl _ | (simp; done) | (simp; omega)) _ | with_reducible refine Below.alloc ?_ (by first | exact Nat.le_refl _ | (simp; done) | (simp; omega)) _ | with_reducible refine Below.drew ?_)); (with_reducible exact HB1.out)
  · obtain ⟨hn20, hy0, hy1⟩ := storeB_facts hB
    have HBB := Lib.hid hB
    obtain ⟨i0, hi, hz0, hz1, hz2⟩ := info_parts infoHeader
    have BP0 : Blk ((w.alloc (.cells #[.slice A l.length c, .int .i64 y] 29)).alloc (.cells #[.slice none 0 0, .int .i64 0] 29)) w.heap.size 29 #[.slice A l.length c, .int .i64 y] := Blk.alloc (heap_alloc_new w _) _
    have BR0 : Blk ((w.alloc (.cells #[.slice A l.length c, .int .i64 y] 29)).alloc (.cells #[.slice none 0 0, .int .i64 0] 29)) (w.heap.size + 1) 29 #[.slice none 0 0, .int .i64 0] := blk_newAt (w.alloc (.cells #[.slice A l.length c, .int .i64 y] 29)) (w.heap.size + 1) _ _ (World.size_alloc _ _)
    have HB0 : Hid (Below w.heap.size w ((w.alloc (.cells #[.slice A l.length c, .int .i64 y] 29)).alloc (.cells #[.slice none 0 0, .int .i64 0] 29))) := ((Below.refl _ _).alloc (Nat.le_refl _) _).alloc (by rw [World.size_alloc]; omega) _
    have HR0 : Hid (RdL headC 6 ((w.alloc (.cells #[.slice A l.length c, .int .i64 y] 29)).alloc (.cells #[.slice none 0 0, .int .i64 0] 29)) ((w.alloc (.cells #[.slice A l.length c, .int .i64 y] 29)).alloc (.cells #[.slice none 0 0, .int .i64 0] 29)).heap.size A l.length c l) := (HL.out.below HB0.out (Nat.le_refl _)).more HB0.out.size
    cases hin : inB k 1 ((l.length : Int) - 1)
    · skip
      have E1 : Hid (pruneY l y k = y) := by show _ = _; simp [pruneY, hB, hin]
      have E2 : Hid (pruneL l y k = l) := by show _ = _; simp [pruneL, hB, hin]
      have E3 : Hid (pruneB l y k = false) := by show _ = _; simp [pruneB, hB, hin]
      have hnot : ¬ (1 ≤ k ∧ k ≤ (l.length : Int) - 1) := fun h => by rw [(inB_iff _ _ _).2 h] at hin; cases hin
      clear hB
      clear hin
      by_cases k1 : k < 1
      · skip
        go_enter Tryd.func28, Tryd.ntmps28
        go_wp2_with fail
        refine (sStoreOk_any A l.length c l _ _ (by exact HR0.out)).mono ?_
        rw [HBB.out]
        rintro e w1 ⟨rfl, hb⟩
        have BP1 := BP0.below hb BP0.lt
        have BR1 := BR0.below hb BR0.lt
        have HB1 := Lib.hid (HB0.out.trans (hb.mono HB0.out.size))
        clear hb BP0 BR0
        have ta0 : w1.cell? ⟨w.heap.size, 0, none⟩ = some (.slice A l.length c) := (Blk.cell BP1 0).trans rfl
        have ta1 : w1.cell? ⟨w.heap.size, 1, none⟩ = some (.int .i64 y) := (Blk.cell BP1 1).trans rfl
        go_wp2_with fail
        refine (l15Copy_any _ A l.length c l _ (by exact (HL.out.below HB1.out (Nat.le_refl _)).more HB1.out.size) (by omega)).mono ?_
        rintro e w2 ⟨A2, n2, c2, rfl, ho, hb⟩
        obtain rfl : l.length = n2 := ho.1
        have HO := Lib.hid ho
        have BP2 := BP1.below hb BP1.lt
        have BR2 := BR1.below hb BR1.lt
        have s12 := hb.size
        have s1 := BR1.lt
        have HB2 := Lib.hid (HB1.out.trans (hb.mono HB1.out.size))
        clear ho hb BP1 BR1
        clear ta0 ta1
        have ta0 : w2.cell? ⟨w.heap.size, 0, none⟩ = some (.slice A l.length c) := (Blk.cell BP2 0).trans rfl
        have ta1 : w2.cell? ⟨w.heap.size, 1, none⟩ = some (.int .i64 y) := (Blk.cell BP2 1).trans rfl
        have s2 := BR2.lt
        have s20 : w.heap.size < w2.heap.size := by omega
        have hne : (w.heap.size + 1 = w2.heap.size) = False := by simp; omega
        have hne2 : (w.heap.size = w2.heap.size) = False := by simp; omega
        have tr0 : w2.cell? ⟨w.heap.size + 1, 0, none⟩ = some (.slice none 0 0) := (Blk.cell BR2 0).trans rfl
        have tr1 : w2.cell? ⟨w.heap.size + 1, 1, none⟩ = some (.int .i64 0) := (Blk.cell BR2 1).trans rfl
        have fr := BR2.frozen
        clear BP2 BR2
        go_wp2
        refine bodyPost_ret (v := .tuple #[.agg #[.slice A2 l.length c2, .int .i64 y], .bool false]) (by simp [results, Tryd.results28, go_sem, tr0, tr1, s2]) rfl ?_
        rw [E1.out, E2.out, E3.out]
        refine ⟨A2, c2, rfl, ?_, ?_⟩
        · refine ((HO.out.chg (lo' := w.heap.size) (hi' := w.heap.size + 2) ?_ (.inr (by omega))).wide (by omega) (by simp))
          (repeat (first | with_reducible refine Chg.setCell ?_ (by first | exact Nat.le_refl _ | (simp; done) | (simp; omega)) (by first | (simp; done) | (simp; omega)) _ | with_reducible refine Chg.alloc ?_ _ | with_reducible refine Chg.drew ?_)); (with_reducible exact Chg.refl _ _ _)
        · (repeat (first | with_reducible refine Below.setCell ?_ (by first | exact Nat.le_refl _ | (simp; done) | (simp; omega)) _ | with_reducible refine Below.alloc ?_ (by first | exact Nat.le_refl _ | (simp; done) | (simp; omega)) _ | with_reducible refine Below.drew ?_)); (with_reducible exact HB2.out)
      · have k2 : (l.length : Int) ≤ k := by omega
        go_enter Tryd.func28, Tryd.ntmps28
        go_wp2_with fail
        refine (sStoreOk_any A l.length c l _ _ (by exact HR0.out)).mono ?_
        rw [HBB.out]
        rintro e w1 ⟨rfl, hb⟩
        have BP1 := BP0.below hb BP0.lt
        have BR1 := BR0.below hb BR0.lt
        have HB1 := Lib.hid (HB0.out.trans (hb.mono HB0.out.size))
        clear hb BP0 BR0
        have ta0 : w1.cell? ⟨w.heap.size, 0, none⟩ = some (.slice A l.length c) := (Blk.cell BP1 0).trans rfl
        have ta1 : w1.cell? ⟨w.heap.size, 1, none⟩ = some (.int .i64 y) := (Blk.cell BP1 1).trans rfl
        go_wp2_with fail
        refine (l15Copy_any _ A l.length c l _ (by exact (HL.out.below HB1.out (Nat.le_refl _)).more HB1.out.size) (by omega)).mono ?_
        rintro e w2 ⟨A2, n2, c2, rfl, ho, hb⟩
        obtain rfl : l.length = n2 := ho.1
        have HO := Lib.hid ho
        have BP2 := BP1.below hb BP1.lt
        have BR2 := BR1.below hb BR1.lt
        have s12 := hb.size
        have s1 := BR1.lt
        have HB2 := Lib.hid (HB1.out.trans (hb.mono HB1.out.size))
        clear ho hb BP1 BR1
        clear ta0 ta1
        have ta0 : w2.cell? ⟨w.heap.size, 0, none⟩ = some (.slice A l.length c) := (Blk.cell BP2 0).trans rfl
        have ta1 : w2.cell? ⟨w.heap.size, 1, none⟩ = some (.int .i64 y) := (Blk.cell BP2 1).trans rfl
        have s2 := BR2.lt
        have s20 : w.heap.size < w2.heap.size := by omega
        have hne : (w.heap.size + 1 = w2.heap.size) = False := by simp; omega
        have hne2 : (w.heap.size = w2.heap.size) = False := by simp; omega
        have tr0 : w2.cell? ⟨w.heap.size + 1, 0, none⟩ = some (.slice none 0 0) := (Blk.cell BR2 0).trans rfl
        have tr1 : w2.cell? ⟨w.heap.size + 1, 1, none⟩ = some (.int .i64 0) := (Blk.cell BR2 1).trans rfl
        have fr := BR2.frozen
        clear BP2 BR2
        go_wp2
        refine bodyPost_ret (v := .tuple #[.agg #[.slice A2 l.length c2, .int .i64 y], .bool false]) (by simp [results, Tryd.results28, go_sem, tr0, tr1, s2]) rfl ?_
        rw [E1.out, E2.out, E3.out]
        refine ⟨A2, c2, rfl, ?_, ?_⟩
        · refine ((HO.out.chg (lo' := w.heap.size) (hi' := w.heap.size + 2) ?_ (.inr (by omega))).wide (by omega) (by simp))
          (repeat (first | with_reducible refine Chg.setCell ?_ (by first | exact Nat.le_refl _ | (simp; done) | (simp; omega)) (by first | (simp; done) | (simp; omega)) _ | with_reducible refine Chg.alloc ?_ _ | with_reducible refine Chg.drew ?_)); (with_reducible exact Chg.refl _ _ _)
        · (repeat (first | with_reducible refine Below.setCell ?_ (by first | exact Nat.le_refl _ | (simp; done) | (simp; omega)) _ | with_reducible refine Below.alloc ?_ (by first | exact Nat.le_refl _ | (simp; done) | (simp; omega)) _ | with_reducible refine Below.drew ?_)); (with_reducible exact HB2.out)
    · obtain ⟨k1, k2⟩ := (inB_iff _ _ _).1 hin
      obtain ⟨m, rfl⟩ : ∃ m : Nat, k = (m : Int) := ⟨k.toNat, by omega⟩
      obtain ⟨g, hg⟩ : ∃ g : Nat, g + m = l.length := ⟨l.length - m, by omega⟩
      have g1 : 1 ≤ g := by omega
      have g2 : g < l.length := by omega
      have gz : (l.length : Int) - (m : Int) = (g : Int) := by omega
      have E2 : Hid (pruneL l y m = l.drop g) := by show _ = _; simp only [pruneL, hB, hin, if_true]; congr 1; omega
      have E3 : Hid (pruneB l y m = true) := by show _ = _; simp [pruneB, hB, hin]
      have HLN : Hid ((l.drop g).length = m) := by show _ = _; rw [List.length_drop]; omega
      have mg : l.length - g = m := by omega
      by_cases y1 : y - (g : Int) < 0
      · have E1 : Hid (pruneY l y m = 0) := by show _ = _; simp only [pruneY, hB, hin, if_true, gz, if_pos y1]
        clear hB hin
        go_enter Tryd.func28, Tryd.ntmps28
        go_wp2_with fail
        refine (sStoreOk_any A l.length c l _ _ (by exact HR0.out)).mono ?_
        rw [HBB.out]
        rintro e w1 ⟨rfl, hb⟩
        have BP1 := BP0.below hb BP0.lt
        have BR1 := BR0.below hb BR0.lt
        have HB1 := Lib.hid (HB0.out.trans (hb.mono HB0.out.size))
        clear hb BP0 BR0
        have ta0 : w1.cell? ⟨w.heap.size, 0, none⟩ = some (.slice A l.length c) := (Blk.cell BP1 0).trans rfl
        have ta1 : w1.cell? ⟨w.heap.size, 1, none⟩ = some (.int .i64 y) := (Blk.cell BP1 1).trans rfl
        go_wp2_with fail
        refine (l15Copy_any _ A l.length c l _ (by exact (HL.out.below HB1.out (Nat.le_refl _)).more HB1.out.size) (by omega)).mono ?_
        rintro e w2 ⟨A2, n2, c2, rfl, ho, hb⟩
        obtain rfl : l.length = n2 := ho.1
        have HO := Lib.hid ho
        have BP2 := BP1.below hb BP1.lt
        have BR2 := BR1.below hb BR1.lt
        have s12 := hb.size
        have s1 := BR1.lt
        have HB2 := Lib.hid (HB1.out.trans (hb.mono HB1.out.size))
        clear ho hb BP1 BR1
        clear ta0 ta1
        have ta0 : w2.cell? ⟨w.heap.size, 0, none⟩ = some (.slice A l.length c) := (Blk.cell BP2 0).trans rfl
        have ta1 : w2.cell? ⟨w.heap.size, 1, none⟩ = some (.int .i64 y) := (Blk.cell BP2 1).trans rfl
        have s2 := BR2.lt
        have s20 : w.heap.size < w2.heap.size := by omega
        have hne : (w.heap.size + 1 = w2.heap.size) = False := by simp; omega
        have hne2 : (w.heap.size = w2.heap.size) = False := by simp; omega
        have HRA := Lib.hid (HL.out.below HB2.out (Nat.le_refl _))
        have hgc : g < c := Nat.lt_of_lt_of_le g2 HRA.out.2.2.1
        obtain ⟨b, off, hA, _⟩ := HRA.out.2.2.2.2 (by omega)
        subst hA
        have HDR := Lib.hid (RdL.drop headC_len HRA.out (Nat.le_of_lt g2))
        rw [mg] at HDR
        have VX0 : Blk (w2.alloc (.cells #[.slice A2 l.length c2, .int .i64 y] 29)) w2.heap.size 29 #[.slice A2 l.length c2, .int .i64 y] := heap_alloc_new w2 _
        have BX2 := BR2.alloc (.cells #[.slice A2 l.length c2, .int .i64 y] 29)
        have BY2 := BP2.alloc (.cells #[.slice A2 l.length c2, .int .i64 y] 29)
        have HBX : Hid (Below w.heap.size w (w2.alloc (.cells #[.slice A2 l.length c2, .int .i64 y] 29))) := HB2.out.alloc (by omega) _
        have HOWN : Hid (World.ownsRow ((w2.alloc (.cells #[.slice A2 l.length c2, .int .i64 y] 29)).alloc (.cells #[] 34)) (w2.heap.size + 1) 34 6 (.slice (some ⟨w2.heap.size + 1, 0, none⟩) 0 0) 0 []) := by
          have := World.ownsRow_lit (w2.alloc (.cells #[.slice A2 l.length c2, .int .i64 y] 29)) (base := w2.heap.size + 1) (e := 34) (size := 6) #[] 0 (by simp) (by decide) rfl
          show World.ownsRow _ _ _ _ _ _ _
          simpa using this
        go_wp2_with (at_builtin; refine wpList_app_rd _ rfl _ _ _ rfl (w2.heap.size + 1) 34 i0 _ 6 80 Tryd.underlying27 hi hz0 hz1 hz2 rfl (by decide) (.slice (some ⟨w2.heap.size + 1, 0, none⟩) 0 0) 0 [] rfl (by exact HOWN.out) w2.heap.size (some ⟨b, off + g * 6, none⟩) m (c - g) ((l.drop g).flatMap headC) rfl (by exact ((((HDR.out.more HB2.out.size).alloc (Nat.le_refl _) _).alloc (by first | (simp; done) | (simp; omega)) _)).2) (headC_one _) (by unfold maxLen; omega) (by omega) (by first | (simp; done) | (simp; omega)) ?_)
        intro v3 w3 hown hg hat
        clear hat
        (try simp only [Nat.zero_add, List.nil_append] at hown)
        obtain ⟨A3, c3, rfl, ho⟩ := OwnL.of_own (f := headC) (l := l.drop g) (n := m) HLN.out hown
        have HO3 := Lib.hid ho
        have hgb : Below (w2.heap.size + 1) (w2.alloc (.cells #[.slice A2 l.length c2, .int .i64 y] 29)) w3 := ((Below.refl _ _).alloc (by simp) _).grown hg (by first | (simp; done) | (simp; omega)) (fun k hk => by simp [Value.ownBlock] at hk; omega)
        have BX3 := VX0.below hgb (by omega)
        have BR3 := BX2.below hgb (by omega)
        have BP3 := BY2.below hgb (by omega)
        have s23 : w2.heap.size + 1 ≤ w3.heap.size := by have h := hgb.size; rw [World.size_alloc] at h; exact h
        have HB3 := Lib.hid (HBX.out.trans (hgb.mono (by omega)))
        clear hown hg ho ta0 ta1 hgb VX0 BX2 BY2
        have xr0 : w3.cell? ⟨w2.heap.size, 0, none⟩ = some (.slice A2 l.length c2) := (Blk.cell BX3 0).trans rfl
        have xr1 : w3.cell? ⟨w2.heap.size, 1, none⟩ = some (.int .i64 y) := (Blk.cell BX3 1).trans rfl
        have tr0 : w3.cell? ⟨w.heap.size + 1, 0, none⟩ = some (.slice none 0 0) := (Blk.cell BR3 0).trans rfl
        have tr1 : w3.cell? ⟨w.heap.size + 1, 1, none⟩ = some (.int .i64 0) := (Blk.cell BR3 1).trans rfl
        have ta0 : w3.cell? ⟨w.heap.size, 0, none⟩ = some (.slice (some ⟨b, off, none⟩) l.length c) := (Blk.cell BP3 0).trans rfl
        have ta1 : w3.cell? ⟨w.heap.size, 1, none⟩ = some (.int .i64 y) := (Blk.cell BP3 1).trans rfl
        have fr := BR3.frozen
        have fx := BX3.frozen
        have s30 : w.heap.size + 1 < w3.heap.size := by omega
        have s31 : w2.heap.size < w3.heap.size := by omega
        have hne3 : (w2.heap.size = w.heap.size + 1) = False := by simp; omega
        have hne4 : (w2.heap.size = w.heap.size) = False := by simp; omega
        clear BP3 BP2 BR2
        go_upto_region 9 with fail
        obtain ⟨w9, hw9⟩ : ∃ q, q = (w3.setCell ⟨w2.heap.size, 0, none⟩ (.slice A3 m c3)).setCell ⟨w2.heap.size, 1, none⟩ (.int .i64 (y - (g : Int))) := ⟨_, rfl⟩
        have BX9 : Blk w9 w2.heap.size 29 #[.slice A3 m c3, .int .i64 (y - (g : Int))] := by
          rw [hw9]
          have hb := (BX3.set_ 0 (.slice A3 m c3)).set_ 1 (.int .i64 (y - (g : Int)))
          simp only [List.setIfInBounds_toArray, List.set_cons_zero, List.set_cons_succ] at hb
          exact hb
        have BR9 : Blk w9 (w.heap.size + 1) 29 #[.slice none 0 0, .int .i64 0] := by
          rw [hw9]
          exact (BR3.far (by show w.heap.size + 1 ≠ w2.heap.size; omega) _).far (by show w.heap.size + 1 ≠ w2.heap.size; omega) _
        have C9 : Hid (Chg w2.heap.size (w2.heap.size + 1) w3 w9) := by
          show Chg _ _ _ _
          rw [hw9]
          (repeat (first | with_reducible refine Chg.setCell ?_ (by first | exact Nat.le_refl _ | (simp; done) | (simp; omega)) (by first | (simp; done) | (simp; omega)) _ | with_reducible refine Chg.alloc ?_ _ | with_reducible refine Chg.drew ?_)); (with_reducible exact Chg.refl _ _ _)
        have s9 : w3.heap.size ≤ w9.heap.size := C9.out.size
        have HO9 := Lib.hid ((HO3.out.chg C9.out (.inr (Nat.le_refl _))).wide (Nat.le_refl _) s9)
        have HB9 := Lib.hid (HB3.out.trans (C9.out.below (by omega) (by omega)))
        rw [← hw9]
        clear hw9 xr0 xr1 tr0 tr1 ta0 ta1 fr fx s30 s31 BX3 BR3 HO3 HB3 C9
        have s30 : w.heap.size + 1 < w9.heap.size := by omega
        have s31 : w2.heap.size < w9.heap.size := by omega
        have HO3 := HO9
        have HB3 := HB9
        have xr0 : w9.cell? ⟨w2.heap.size, 0, none⟩ = some (.slice A3 m c3) := (Blk.cell BX9 0).trans rfl
        have xr1 : w9.cell? ⟨w2.heap.size, 1, none⟩ = some (.int .i64 (y - (g : Int))) := (Blk.cell BX9 1).trans rfl
        have tr0 : w9.cell? ⟨w.heap.size + 1, 0, none⟩ = some (.slice none 0 0) := (Blk.cell BR9 0).trans rfl
        have tr1 : w9.cell? ⟨w.heap.size + 1, 1, none⟩ = some (.int .i64 0) := (Blk.cell BR9 1).trans rfl
        have fr := BR9.frozen
        have fx := BX9.frozen
        clear BX9 BR9
        go_wp2
        refine bodyPost_ret (v := .tuple #[.agg #[.slice A3 m c3, .int .i64 (0)], .bool true]) (by simp [results, Tryd.results28, go_sem, tr0, tr1]) rfl ?_
        rw [E1.out, E2.out, E3.out]
        refine ⟨A3, c3, by rw [HLN.out], ?_, ?_⟩
        · rw [HLN.out]
          refine ((HO3.out.chg (lo' := w.heap.size) (hi' := w2.heap.size + 1) ?_ (.inr (by omega))).wide (by omega) (by simp))
          (repeat (first | with_reducible refine Chg.setCell ?_ (by first | exact Nat.le_refl _ | (simp; done) | (simp; omega)) (by first | (simp; done) | (simp; omega)) _ | with_reducible refine Chg.alloc ?_ _ | with_reducible refine Chg.drew ?_)); (with_reducible exact Chg.refl _ _ _)
        · (repeat (first | with_reducible refine Below.setCell ?_ (by first | exact Nat.le_refl _ | (simp; done) | (simp; omega)) _ | with_reducible refine Below.alloc ?_ (by first | exact Nat.le_refl _ | (simp; done) | (simp; omega)) _ | with_reducible refine Below.drew ?_)); (with_reducible exact HB3.out)
      by_cases y3 : y - (g : Int) = 0
      · have E1 : Hid (pruneY l y m = 0) := by show _ = _; (unfold pruneY; rw [if_pos hB, if_pos hin, gz, y3]; rfl)
        clear y1
        clear hB hin
        go_enter Tryd.func28, Tryd.ntmps28
        go_wp2_with fail
        refine (sStoreOk_any A l.length c l _ _ (by exact HR0.out)).mono ?_
        rw [HBB.out]
        rintro e w1 ⟨rfl, hb⟩
        have BP1 := BP0.below hb BP0.lt
        have BR1 := BR0.below hb BR0.lt
        have HB1 := Lib.hid (HB0.out.trans (hb.mono HB0.out.size))
        clear hb BP0 BR0
        have ta0 : w1.cell? ⟨w.heap.size, 0, none⟩ = some (.slice A l.length c) := (Blk.cell BP1 0).trans rfl
        have ta1 : w1.cell? ⟨w.heap.size, 1, none⟩ = some (.int .i64 y) := (Blk.cell BP1 1).trans rfl
        go_wp2_with fail
        refine (l15Copy_any _ A l.length c l _ (by exact (HL.out.below HB1.out (Nat.le_refl _)).more HB1.out.size) (by omega)).mono ?_
        rintro e w2 ⟨A2, n2, c2, rfl, ho, hb⟩
        obtain rfl : l.length = n2 := ho.1
        have HO := Lib.hid ho
        have BP2 := BP1.below hb BP1.lt
        have BR2 := BR1.below hb BR1.lt
        have s12 := hb.size
        have s1 := BR1.lt
        have HB2 := Lib.hid (HB1.out.trans (hb.mono HB1.out.size))
        clear ho hb BP1 BR1
        clear ta0 ta1
        have ta0 : w2.cell? ⟨w.heap.size, 0, none⟩ = some (.slice A l.length c) := (Blk.cell BP2 0).trans rfl
        have ta1 : w2.cell? ⟨w.heap.size, 1, none⟩ = some (.int .i64 y) := (Blk.cell BP2 1).trans rfl
        have s2 := BR2.lt
        have s20 : w.heap.size < w2.heap.size := by omega
        have hne : (w.heap.size + 1 = w2.heap.size) = False := by simp; omega
        have hne2 : (w.heap.size = w2.heap.size) = False := by simp; omega
        have HRA := Lib.hid (HL.out.below HB2.out (Nat.le_refl _))
        have hgc : g < c := Nat.lt_of_lt_of_le g2 HRA.out.2.2.1
        obtain ⟨b, off, hA, _⟩ := HRA.out.2.2.2.2 (by omega)
        subst hA
        have HDR := Lib.hid (RdL.drop headC_len HRA.out (Nat.le_of_lt g2))
        rw [mg] at HDR
        have VX0 : Blk (w2.alloc (.cells #[.slice A2 l.length c2, .int .i64 y] 29)) w2.heap.size 29 #[.slice A2 l.length c2, .int .i64 y] := heap_alloc_new w2 _
        have BX2 := BR2.alloc (.cells #[.slice A2 l.length c2, .int .i64 y] 29)
        have BY2 := BP2.alloc (.cells #[.slice A2 l.length c2, .int .i64 y] 29)
        have HBX : Hid (Below w.heap.size w (w2.alloc (.cells #[.slice A2 l.length c2, .int .i64 y] 29))) := HB2.out.alloc (by omega) _
        have HOWN : Hid (World.ownsRow ((w2.alloc (.cells #[.slice A2 l.length c2, .int .i64 y] 29)).alloc (.cells #[] 34)) (w2.heap.size + 1) 34 6 (.slice (some ⟨w2.heap.size + 1, 0, none⟩) 0 0) 0 []) := by
          have := World.ownsRow_lit (w2.alloc (.cells #[.slice A2 l.length c2, .int .i64 y] 29)) (base := w2.heap.size + 1) (e := 34) (size := 6) #[] 0 (by simp) (by decide) rfl
          show World.ownsRow _ _ _ _ _ _ _
          simpa using this
        go_wp2_with (at_builtin; refine wpList_app_rd _ rfl _ _ _ rfl (w2.heap.size + 1) 34 i0 _ 6 80 Tryd.underlying27 hi hz0 hz1 hz2 rfl (by decide) (.slice (some ⟨w2.heap.size + 1, 0, none⟩) 0 0) 0 [] rfl (by exact HOWN.out) w2.heap.size (some ⟨b, off + g * 6, none⟩) m (c - g) ((l.drop g).flatMap headC) rfl (by exact ((((HDR.out.more HB2.out.size).alloc (Nat.le_refl _) _).alloc (by first | (simp; done) | (simp; omega)) _)).2) (headC_one _) (by unfold maxLen; omega) (by omega) (by first | (simp; done) | (simp; omega)) ?_)
        intro v3 w3 hown hg hat
        clear hat
        (try simp only [Nat.zero_add, List.nil_append] at hown)
        obtain ⟨A3, c3, rfl, ho⟩ := OwnL.of_own (f := headC) (l := l.drop g) (n := m) HLN.out hown
        have HO3 := Lib.hid ho
        have hgb : Below (w2.heap.size + 1) (w2.alloc (.cells #[.slice A2 l.length c2, .int .i64 y] 29)) w3 := ((Below.refl _ _).alloc (by simp) _).grown hg (by first | (simp; done) | (simp; omega)) (fun k hk => by simp [Value.ownBlock] at hk; omega)
        have BX3 := VX0.below hgb (by omega)
        have BR3 := BX2.below hgb (by omega)
        have BP3 := BY2.below hgb (by omega)
        have s23 : w2.heap.size + 1 ≤ w3.heap.size := by have h := hgb.size; rw [World.size_alloc] at h; exact h
        have HB3 := Lib.hid (HBX.out.trans (hgb.mono (by omega)))
        clear hown hg ho ta0 ta1 hgb VX0 BX2 BY2
        have xr0 : w3.cell? ⟨w2.heap.size, 0, none⟩ = some (.slice A2 l.length c2) := (Blk.cell BX3 0).trans rfl
        have xr1 : w3.cell? ⟨w2.heap.size, 1, none⟩ = some (.int .i64 y) := (Blk.cell BX3 1).trans rfl
        have tr0 : w3.cell? ⟨w.heap.size + 1, 0, none⟩ = some (.slice none 0 0) := (Blk.cell BR3 0).trans rfl
        have tr1 : w3.cell? ⟨w.heap.size + 1, 1, none⟩ = some (.int .i64 0) := (Blk.cell BR3 1).trans rfl
        have ta0 : w3.cell? ⟨w.heap.size, 0, none⟩ = some (.slice (some ⟨b, off, none⟩) l.length c) := (Blk.cell BP3 0).trans rfl
        have ta1 : w3.cell? ⟨w.heap.size, 1, none⟩ = some (.int .i64 y) := (Blk.cell BP3 1).trans rfl
        have fr := BR3.frozen
        have fx := BX3.frozen
        have s30 : w.heap.size + 1 < w3.heap.size := by omega
        have s31 : w2.heap.size < w3.heap.size := by omega
        have hne3 : (w2.heap.size = w.heap.size + 1) = False := by simp; omega
        have hne4 : (w2.heap.size = w.heap.size) = False := by simp; omega
        clear BP3 BP2 BR2
        go_upto_region 9 with fail
        obtain ⟨w9, hw9⟩ : ∃ q, q = (w3.setCell ⟨w2.heap.size, 0, none⟩ (.slice A3 m c3)).setCell ⟨w2.heap.size, 1, none⟩ (.int .i64 (0)) := ⟨_, rfl⟩
        have BX9 : Blk w9 w2.heap.size 29 #[.slice A3 m c3, .int .i64 (0)] := by
          rw [hw9]
          have hb := (BX3.set_ 0 (.slice A3 m c3)).set_ 1 (.int .i64 (0))
          simp only [List.setIfInBounds_toArray, List.set_cons_zero, List.set_cons_succ] at hb
          exact hb
        have BR9 : Blk w9 (w.heap.size + 1) 29 #[.slice none 0 0, .int .i64 0] := by
          rw [hw9]
          exact (BR3.far (by show w.heap.size + 1 ≠ w2.heap.size; omega) _).far (by show w.heap.size + 1 ≠ w2.heap.size; omega) _
        have C9 : Hid (Chg w2.heap.size (w2.heap.size + 1) w3 w9) := by
          show Chg _ _ _ _
          rw [hw9]
          (repeat (first | with_reducible refine Chg.setCell ?_ (by first | exact Nat.le_refl _ | (simp; done) | (simp; omega)) (by first | (simp; done) | (simp; omega)) _ | with_reducible refine Chg.alloc ?_ _ | with_reducible refine Chg.drew ?_)); (with_reducible exact Chg.refl _ _ _)
        have s9 : w3.heap.size ≤ w9.heap.size := C9.out.size
        have HO9 := Lib.hid ((HO3.out.chg C9.out (.inr (Nat.le_refl _))).wide (Nat.le_refl _) s9)
        have HB9 := Lib.hid (HB3.out.trans (C9.out.below (by omega) (by omega)))
        rw [← hw9]
        clear hw9 xr0 xr1 tr0 tr1 ta0 ta1 fr fx s30 s31 BX3 BR3 HO3 HB3 C9
        have s30 : w.heap.size + 1 < w9.heap.size := by omega
        have s31 : w2.heap.size < w9.heap.size := by omega
        have HO3 := HO9
        have HB3 := HB9
        have xr0 : w9.cell? ⟨w2.heap.size, 0, none⟩ = some (.slice A3 m c3) := (Blk.cell BX9 0).trans rfl
        have xr1 : w9.cell? ⟨w2.heap.size, 1, none⟩ = some (.int .i64 (0)) := (Blk.cell BX9 1).trans rfl
        have tr0 : w9.cell? ⟨w.heap.size + 1, 0, none⟩ = some (.slice none 0 0) := (Blk.cell BR9 0).trans rfl
        have tr1 : w9.cell? ⟨w.heap.size + 1, 1, none⟩ = some (.int .i64 0) := (Blk.cell BR9 1).trans rfl
        have fr := BR9.frozen
        have fx := BX9.frozen
        clear BX9 BR9
        go_wp2
        refine bodyPost_ret (v := .tuple #[.agg #[.slice A3 m c3, .int .i64 (0)], .bool true]) (by simp [results, Tryd.results28, go_sem, tr0, tr1]) rfl ?_
        rw [E1.out, E2.out, E3.out]
        refine ⟨A3, c3, by rw [HLN.out], ?_, ?_⟩
        · rw [HLN.out]
          refine ((HO3.out.chg (lo' := w.heap.size) (hi' := w2.heap.size + 1) ?_ (.inr (by omega))).wide (by omega) (by simp))
          (repeat (first | with_reducible refine Chg.setCell ?_ (by first | exact Nat.le_refl _ | (simp; done) | (simp; omega)) (by first | (simp; done) | (simp; omega)) _ | with_reducible refine Chg.alloc ?_ _ | with_reducible refine Chg.drew ?_)); (with_reducible exact Chg.refl _ _ _)
        · (repeat (first | with_reducible refine Below.setCell ?_ (by first | exact Nat.le_refl _ | (simp; done) | (simp; omega)) _ | with_reducible refine Below.alloc ?_ (by first | exact Nat.le_refl _ | (simp; done) | (simp; omega)) _ | with_reducible refine Below.drew ?_)); (with_reducible exact HB3.out)
      · have E1 : Hid (pruneY l y m = y - (g : Int)) := by show _ = _; simp only [pruneY, hB, hin, if_true, gz, if_neg y1]
        have y2 : 0 < y - (g : Int) := by omega
        have y4 : 0 ≤ y - (g : Int) := by omega
        clear y1 y3
        clear hB hin
        go_enter Tryd.func28, Tryd.ntmps28
        go_wp2_with fail
        refine (sStoreOk_any A l.length c l _ _ (by exact HR0.out)).mono ?_
        rw [HBB.out]
        rintro e w1 ⟨rfl, hb⟩
        have BP1 := BP0.below hb BP0.lt
        have BR1 := BR0.below hb BR0.lt
        have HB1 := Lib.hid (HB0.out.trans (hb.mono HB0.out.size))
        clear hb BP0 BR0
        have ta0 : w1.cell? ⟨w.heap.size, 0, none⟩ = some (.slice A l.length c) := (Blk.cell BP1 0).trans rfl
        have ta1 : w1.cell? ⟨w.heap.size, 1, none⟩ = some (.int .i64 y) := (Blk.cell BP1 1).trans rfl
        go_wp2_with fail
        refine (l15Copy_any _ A l.length c l _ (by exact (HL.out.below HB1.out (Nat.le_refl _)).more HB1.out.size) (by omega)).mono ?_
        rintro e w2 ⟨A2, n2, c2, rfl, ho, hb⟩
        obtain rfl : l.length = n2 := ho.1
        have HO := Lib.hid ho
        have BP2 := BP1.below hb BP1.lt
        have BR2 := BR1.below hb BR1.lt
        have s12 := hb.size
        have s1 := BR1.lt
        have HB2 := Lib.hid (HB1.out.trans (hb.mono HB1.out.size))
        clear ho hb BP1 BR1
        clear ta0 ta1
        have ta0 : w2.cell? ⟨w.heap.size, 0, none⟩ = some (.slice A l.length c) := (Blk.cell BP2 0).trans rfl
        have ta1 : w2.cell? ⟨w.heap.size, 1, none⟩ = some (.int .i64 y) := (Blk.cell BP2 1).trans rfl
        have s2 := BR2.lt
        have s20 : w.heap.size < w2.heap.size := by omega
        have hne : (w.heap.size + 1 = w2.heap.size) = False := by simp; omega
        have hne2 : (w.heap.size = w2.heap.size) = False := by simp; omega
        have HRA := Lib.hid (HL.out.below HB2.out (Nat.le_refl _))
        have hgc : g < c := Nat.lt_of_lt_of_le g2 HRA.out.2.2.1
        obtain ⟨b, off, hA, _⟩ := HRA.out.2.2.2.2 (by omega)
        subst hA
        have HDR := Lib.hid (RdL.drop headC_len HRA.out (Nat.le_of_lt g2))
        rw [mg] at HDR
        have VX0 : Blk (w2.alloc (.cells #[.slice A2 l.length c2, .int .i64 y] 29)) w2.heap.size 29 #[.slice A2 l.length c2, .int .i64 y] := heap_alloc_new w2 _
        have BX2 := BR2.alloc (.cells #[.slice A2 l.length c2, .int .i64 y] 29)
        have BY2 := BP2.alloc (.cells #[.slice A2 l.length c2, .int .i64 y] 29)
        have HBX : Hid (Below w.heap.size w (w2.alloc (.cells #[.slice A2 l.length c2, .int .i64 y] 29))) := HB2.out.alloc (by omega) _
        have HOWN : Hid (World.ownsRow ((w2.alloc (.cells #[.slice A2 l.length c2, .int .i64 y] 29)).alloc (.cells #[] 34)) (w2.heap.size + 1) 34 6 (.slice (some ⟨w2.heap.size + 1, 0, none⟩) 0 0) 0 []) := by
          have := World.ownsRow_lit (w2.alloc (.cells #[.slice A2 l.length c2, .int .i64 y] 29)) (base := w2.heap.size + 1) (e := 34) (size := 6) #[] 0 (by simp) (by decide) rfl
          show World.ownsRow _ _ _ _ _ _ _
          simpa using this
        go_wp2_with (at_builtin; refine wpList_app_rd _ rfl _ _ _ rfl (w2.heap.size + 1) 34 i0 _ 6 80 Tryd.underlying27 hi hz0 hz1 hz2 rfl (by decide) (.slice (some ⟨w2.heap.size + 1, 0, none⟩) 0 0) 0 [] rfl (by exact HOWN.out) w2.heap.size (some ⟨b, off + g * 6, none⟩) m (c - g) ((l.drop g).flatMap headC) rfl (by exact ((((HDR.out.more HB2.out.size).alloc (Nat.le_refl _) _).alloc (by first | (simp; done) | (simp; omega)) _)).2) (headC_one _) (by unfold maxLen; omega) (by omega) (by first | (simp; done) | (simp; omega)) ?_)
        intro v3 w3 hown hg hat
        clear hat
        (try simp only [Nat.zero_add, List.nil_append] at hown)
        obtain ⟨A3, c3, rfl, ho⟩ := OwnL.of_own (f := headC) (l := l.drop g) (n := m) HLN.out hown
        have HO3 := Lib.hid ho
        have hgb : Below (w2.heap.size + 1) (w2.alloc (.cells #[.slice A2 l.length c2, .int .i64 y] 29)) w3 := ((Below.refl _ _).alloc (by simp) _).grown hg (by first | (simp; done) | (simp; omega)) (fun k hk => by simp [Value.ownBlock] at hk; omega)
        have BX3 := VX0.below hgb (by omega)
        have BR3 := BX2.below hgb (by omega)
        have BP3 := BY2.below hgb (by omega)
        have s23 : w2.heap.size + 1 ≤ w3.heap.size := by have h := hgb.size; rw [World.size_alloc] at h; exact h
        have HB3 := Lib.hid (HBX.out.trans (hgb.mono (by omega)))
        clear hown hg ho ta0 ta1 hgb VX0 BX2 BY2
        have xr0 : w3.cell? ⟨w2.heap.size, 0, none⟩ = some (.slice A2 l.length c2) := (Blk.cell BX3 0).trans rfl
        have xr1 : w3.cell? ⟨w2.heap.size, 1, none⟩ = some (.int .i64 y) := (Blk.cell BX3 1).trans rfl
        have tr0 : w3.cell? ⟨w.heap.size + 1, 0, none⟩ = some (.slice none 0 0) := (Blk.cell BR3 0).trans rfl
        have tr1 : w3.cell? ⟨w.heap.size + 1, 1, none⟩ = some (.int .i64 0) := (Blk.cell BR3 1).trans rfl
        have ta0 : w3.cell? ⟨w.heap.size, 0, none⟩ = some (.slice (some ⟨b, off, none⟩) l.length c) := (Blk.cell BP3 0).trans rfl
        have ta1 : w3.cell? ⟨w.heap.size, 1, none⟩ = some (.int .i64 y) := (Blk.cell BP3 1).trans rfl
        have fr := BR3.frozen
        have fx := BX3.frozen
        have s30 : w.heap.size + 1 < w3.heap.size := by omega
        have s31 : w2.heap.size < w3.heap.size := by omega
        have hne3 : (w2.heap.size = w.heap.size + 1) = False := by simp; omega
        have hne4 : (w2.heap.size = w.heap.size) = False := by simp; omega
        clear BP3 BP2 BR2
        go_upto_region 9 with fail
        obtain ⟨w9, hw9⟩ : ∃ q, q = (w3.setCell ⟨w2.heap.size, 0, none⟩ (.slice A3 m c3)).setCell ⟨w2.heap.size, 1, none⟩ (.int .i64 (y - (g : Int))) := ⟨_, rfl⟩
        have BX9 : Blk w9 w2.heap.size 29 #[.slice A3 m c3, .int .i64 (y - (g : Int))] := by
          rw [hw9]
          have hb := (BX3.set_ 0 (.slice A3 m c3)).set_ 1 (.int .i64 (y - (g : Int)))
          simp only [List.setIfInBounds_toArray, List.set_cons_zero, List.set_cons_succ] at hb
          exact hb
        have BR9 : Blk w9 (w.heap.size + 1) 29 #[.slice none 0 0, .int .i64 0] := by
          rw [hw9]
          exact (BR3.far (by show w.heap.size + 1 ≠ w2.heap.size; omega) _).far (by show w.heap.size + 1 ≠ w2.heap.size; omega) _
        have C9 : Hid (Chg w2.heap.size (w2.heap.size + 1) w3 w9) := by
          show Chg _ _ _ _
          rw [hw9]
          (repeat (first | with_reducible refine Chg.setCell ?_ (by first | exact Nat.le_refl _ | (simp; done) | (simp; omega)) (by first | (simp; done) | (simp; omega)) _ | with_reducible refine Chg.alloc ?_ _ | with_reducible refine Chg.drew ?_)); (with_reducible exact Chg.refl _ _ _)
        have s9 : w3.heap.size ≤ w9.heap.size := C9.out.size
        have HO9 := Lib.hid ((HO3.out.chg C9.out (.inr (Nat.le_refl _))).wide (Nat.le_refl _) s9)
        have HB9 := Lib.hid (HB3.out.trans (C9.out.below (by omega) (by omega)))
        rw [← hw9]
        clear hw9 xr0 xr1 tr0 tr1 ta0 ta1 fr fx s30 s31 BX3 BR3 HO3 HB3 C9
        have s30 : w.heap.size + 1 < w9.heap.size := by omega
        have s31 : w2.heap.size < w9.heap.size := by omega
        have HO3 := HO9
        have HB3 := HB9
        have xr0 : w9.cell? ⟨w2.heap.size, 0, none⟩ = some (.slice A3 m c3) := (Blk.cell BX9 0).trans rfl
        have xr1 : w9.cell? ⟨w2.heap.size, 1, none⟩ = some (.int .i64 (y - (g : Int))) := (Blk.cell BX9 1).trans rfl
        have tr0 : w9.cell? ⟨w.heap.size + 1, 0, none⟩ = some (.slice none 0 0) := (Blk.cell BR9 0).trans rfl
        have tr1 : w9.cell? ⟨w.heap.size + 1, 1, none⟩ = some (.int .i64 0) := (Blk.cell BR9 1).trans rfl
        have fr := BR9.frozen
        have fx := BX9.frozen
        clear BX9 BR9
        go_wp2
        refine bodyPost_ret (v := .tuple #[.agg #[.slice A3 m c3, .int .i64 (y - (g : Int))], .bool true]) (by simp [results, Tryd.results28, go_sem, tr0, tr1]) rfl ?_
        rw [E1.out, E2.out, E3.out]
        refine ⟨A3, c3, by rw [HLN.out], ?_, ?_⟩
        · rw [HLN.out]
          refine ((HO3.out.chg (lo' := w.heap.size) (hi' := w2.heap.size + 1) ?_ (.inr (by omega))).wide (by omega) (by simp))
          (repeat (first | with_reducible refine Chg.setCell ?_ (by first | exact Nat.le_refl _ | (simp; done) | (simp; omega)) (by first | (simp; done) | (simp; omega)) _ | with_reducible refine Chg.alloc ?_ _ | with_reducible refine Chg.drew ?_)); (with_reducible exact Chg.refl _ _ _)
        · (repeat (first | with_reducible refine Below.setCell ?_ (by first | exact Nat.le_refl _ | (simp; done) | (simp; omega)) _ | with_reducible refine Below.alloc ?_ (by first | exact Nat.le_refl _ | (simp; done) | (simp; omega)) _ | with_reducible refine Below.drew ?_)); (with_reducible exact HB3.out)
end Go.Proofs.YtjdknaipmboekaaDoor
