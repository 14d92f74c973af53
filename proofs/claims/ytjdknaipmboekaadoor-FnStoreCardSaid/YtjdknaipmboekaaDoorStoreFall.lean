/- StoreFall of the program and of the reference (printed by wip/storefun.py). -/
import Derived.Test.YtjdknaipmboekaaDoorStoreFun2
import Derived.WalkKit
import Derived.WalkSpells
import Derived.WalkLawsBesides
import Derived.Lib.Hide
namespace Go.Proofs.YtjdknaipmboekaaDoor
open Go.RowKit

def fallN (l : List HeaderD) (y k : Int) : Nat := (if k < 0 then y else if k < l.length - y then y + k else l.length).toNat
def fallY (l : List HeaderD) (y k : Int) : Int := if storeB l y = true then fallN l y k else 0
def fallL (l : List HeaderD) (y k : Int) : List HeaderD := if storeB l y = true then l.take (fallN l y k) else []
def fallB (l : List HeaderD) (y _k : Int) : Bool := storeB l y
theorem StoreFall_len (y : Int) (l : List HeaderD) (k : Int) : (fallL l y k).length ≤ l.length + 1 := by
  unfold fallL; split
  · rw [List.length_take]; omega
  · simp

set_option maxHeartbeats 4000000 in
theorem StoreFall_any (y : Int) (A : Option Addr) (c : Nat) (l : List HeaderD) (k : Int) (w : World) (hl : RdL headC 6 w w.heap.size A l.length c l) (ht : Tab w) :
    Calls Tryd.prog 23 #[.agg #[.slice A l.length c, .int .i64 y], .int .i64 k] w (StoreOutK (fallY l y k) (fallL l y k) (.bool (fallB l y k)) w) := by
  have HL := Lib.hid hl
  clear hl
  have HT := Lib.hid ht
  clear ht
  cases hB : storeB l y
  · skip
    have E1 : Hid (fallY l y k = 0) := by show _ = _; simp [fallY, hB]
    have E2 : Hid (fallL l y k = []) := by show _ = _; simp [fallL, hB]
    have E3 : Hid (fallB l y k = false) := by show _ = _; simp [fallB, hB]
    have HBB := Lib.hid hB
    clear hB
    have BP0 : Blk ((w.alloc (.cells #[.slice A l.length c, .int .i64 y] 29)).alloc (.cells #[.slice none 0 0, .int .i64 0] 29)) w.heap.size 29 #[.slice A l.length c, .int .i64 y] := Blk.alloc (heap_alloc_new w _) _
    have BR0 : Blk ((w.alloc (.cells #[.slice A l.length c, .int .i64 y] 29)).alloc (.cells #[.slice none 0 0, .int .i64 0] 29)) (w.heap.size + 1) 29 #[.slice none 0 0, .int .i64 0] := blk_newAt (w.alloc (.cells #[.slice A l.length c, .int .i64 y] 29)) (w.heap.size + 1) _ _ (World.size_alloc _ _)
    have HB0 : Hid (Below w.heap.size w ((w.alloc (.cells #[.slice A l.length c, .int .i64 y] 29)).alloc (.cells #[.slice none 0 0, .int .i64 0] 29))) := ((Below.refl _ _).alloc (Nat.le_refl _) _).alloc (by rw [World.size_alloc]; omega) _
    have HR0 : Hid (RdL headC 6 ((w.alloc (.cells #[.slice A l.length c, .int .i64 y] 29)).alloc (.cells #[.slice none 0 0, .int .i64 0] 29)) ((w.alloc (.cells #[.slice A l.length c, .int .i64 y] 29)).alloc (.cells #[.slice none 0 0, .int .i64 0] 29)).heap.size A l.length c l) := (HL.out.below HB0.out (Nat.le_refl _)).more HB0.out.size
    go_enter Tryd.func23, Tryd.ntmps23
    go_wp2_with fail
    refine (StoreOk_any A l.length c l _ _ (by exact HR0.out) (by exact HT.out.below HB0.out HT.out.pos)).mono ?_
    rw [HBB.out]
    rintro e w1 ⟨rfl, hb⟩
    have BP1 := BP0.below hb BP0.lt
    have BR1 := BR0.below hb BR0.lt
    have HB1 := Lib.hid (HB0.out.trans (hb.mono HB0.out.size))
    clear hb BP0 BR0
    have tr0 : w1.cell? ⟨w.heap.size + 1, 0, none⟩ = some (.slice none 0 0) := (Blk.cell BR1 0).trans rfl
    have tr1 : w1.cell? ⟨w.heap.size + 1, 1, none⟩ = some (.int .i64 0) := (Blk.cell BR1 1).trans rfl
    have fr := BR1.frozen
    go_wp2
    refine bodyPost_ret (v := .tuple #[.agg #[.slice none 0 0, .int .i64 0], .bool false]) (by simp [results, Tryd.results23, go_sem, tr0, tr1]) rfl ?_
    rw [E1.out, E2.out, E3.out]
    refine ⟨none, 0, rfl, ⟨rfl, .inl ⟨rfl, rfl, rfl⟩⟩, ?_⟩
    (repeat (first | with_reducible refine Below.setCell ?_ (by first | exact Nat.le_refl _ | (simp; done) | (simp; omega)) _ | with_reducible refine Below.alloc ?_ (by first | exact Nat.le_refl _ | (simp; done) | (simp; omega)) _ | with_reducible refine Below.drew ?_)); (with_reducible exact HB1.out)
  · obtain ⟨hn20, hy0, hy1⟩ := storeB_facts hB
    obtain ⟨m, hm⟩ : ∃ m, m = fallN l y k := ⟨_, rfl⟩
    have HBB := Lib.hid hB
    have E1 : Hid (fallY l y k = m) := by show _ = _; simp [fallY, hB, hm]
    have E2 : Hid (fallL l y k = l.take m) := by show _ = _; simp [fallL, hB, hm]
    have E3 : Hid (fallB l y k = true) := by show _ = _; simp [fallB, hB]
    have HMI : Hid ((m : Int) = if k < 0 then y else if k < l.length - y then y + k else l.length) := by
      show _ = _
      rw [hm]; unfold fallN
      rw [Int.toNat_of_nonneg (by split; omega; split <;> omega)]
    have hml : m ≤ l.length := by
      have h := HMI.out
      split at h
      · omega
      · split at h <;> omega
    have HLN : Hid ((l.take m).length = m) := by show _ = _; rw [List.length_take]; omega
    clear hB hm
    skip
    have BP0 : Blk ((w.alloc (.cells #[.slice A l.length c, .int .i64 y] 29)).alloc (.cells #[.slice none 0 0, .int .i64 0] 29)) w.heap.size 29 #[.slice A l.length c, .int .i64 y] := Blk.alloc (heap_alloc_new w _) _
    have BR0 : Blk ((w.alloc (.cells #[.slice A l.length c, .int .i64 y] 29)).alloc (.cells #[.slice none 0 0, .int .i64 0] 29)) (w.heap.size + 1) 29 #[.slice none 0 0, .int .i64 0] := blk_newAt (w.alloc (.cells #[.slice A l.length c, .int .i64 y] 29)) (w.heap.size + 1) _ _ (World.size_alloc _ _)
    have HB0 : Hid (Below w.heap.size w ((w.alloc (.cells #[.slice A l.length c, .int .i64 y] 29)).alloc (.cells #[.slice none 0 0, .int .i64 0] 29))) := ((Below.refl _ _).alloc (Nat.le_refl _) _).alloc (by rw [World.size_alloc]; omega) _
    have HR0 : Hid (RdL headC 6 ((w.alloc (.cells #[.slice A l.length c, .int .i64 y] 29)).alloc (.cells #[.slice none 0 0, .int .i64 0] 29)) ((w.alloc (.cells #[.slice A l.length c, .int .i64 y] 29)).alloc (.cells #[.slice none 0 0, .int .i64 0] 29)).heap.size A l.length c l) := (HL.out.below HB0.out (Nat.le_refl _)).more HB0.out.size
    by_cases k1 : k < 0
    · have e0 : y = (m : Int) := by have h := HMI.out; rw [if_pos k1] at h; exact h.symm
      subst e0
      go_enter Tryd.func23, Tryd.ntmps23
      go_wp2_with fail
      refine (StoreOk_any A l.length c l _ _ (by exact HR0.out) (by exact HT.out.below HB0.out HT.out.pos)).mono ?_
      rw [HBB.out]
      rintro e w1 ⟨rfl, hb⟩
      have BP1 := BP0.below hb BP0.lt
      have BR1 := BR0.below hb BR0.lt
      have HB1 := Lib.hid (HB0.out.trans (hb.mono HB0.out.size))
      clear hb BP0 BR0
      have ta0 : w1.cell? ⟨w.heap.size, 0, none⟩ = some (.slice A l.length c) := (Blk.cell BP1 0).trans rfl
      have ta1 : w1.cell? ⟨w.heap.size, 1, none⟩ = some (.int .i64 m) := (Blk.cell BP1 1).trans rfl
      go_wp2_with fail
      refine (copyStore_any _ A l.length c l _ (by exact (HL.out.below HB1.out (Nat.le_refl _)).more HB1.out.size) (by omega)).mono ?_
      rintro e w2 ⟨A2, n2, c2, rfl, ho, hb⟩
      obtain rfl : l.length = n2 := ho.1
      have HO := Lib.hid ho
      have BP2 := BP1.below hb BP1.lt
      have BR2 := BR1.below hb BR1.lt
      have s12 := hb.size
      have s1 := BR1.lt
      have HB2 := Lib.hid (HB1.out.trans (hb.mono HB1.out.size))
      clear ho hb BP1 BR1
      clear ta0 ta1
      have ta0 : w2.cell? ⟨w.heap.size, 0, none⟩ = some (.slice A l.length c) := (Blk.cell BP2 0).trans rfl
      have ta1 : w2.cell? ⟨w.heap.size, 1, none⟩ = some (.int .i64 m) := (Blk.cell BP2 1).trans rfl
      have tr0 : w2.cell? ⟨w.heap.size + 1, 0, none⟩ = some (.slice none 0 0) := (Blk.cell BR2 0).trans rfl
      have tr1 : w2.cell? ⟨w.heap.size + 1, 1, none⟩ = some (.int .i64 0) := (Blk.cell BR2 1).trans rfl
      have fr := BR2.frozen
      have s2 := BR2.lt
      have s20 : w.heap.size < w2.heap.size := by omega
      have hne : (w.heap.size + 1 = w2.heap.size) = False := by simp; omega
      have HCP := HO.out.rd headC_len |>.2.2.1
      have hcp : m ≤ c2 := Nat.le_trans hml HCP
      clear BP2 BR2 HCP
      cases A2 with
      | none =>
        have hl0 : l.length = 0 := by
          obtain ⟨_, ⟨h, _⟩ | ⟨_, _, h, _⟩⟩ := HO.out
          · exact h
          · cases h
        have hc0 : c2 = 0 := by
          obtain ⟨_, ⟨_, _, h⟩ | ⟨_, _, h, _⟩⟩ := HO.out
          · exact h
          · cases h
        obtain rfl := List.length_eq_zero_iff.1 hl0
        subst hc0
        obtain rfl : m = 0 := by simpa using hml
        go_wp2
        refine bodyPost_ret (v := .tuple #[.agg #[.slice none 0 0, .int .i64 0], .bool true]) (by simp [results, Tryd.results23, go_sem, tr0, tr1, s2]) rfl ?_
        rw [E1.out, E2.out, E3.out]
        refine ⟨none, 0, rfl, ⟨rfl, .inl ⟨rfl, rfl, rfl⟩⟩, ?_⟩
        (repeat (first | with_reducible refine Below.setCell ?_ (by first | exact Nat.le_refl _ | (simp; done) | (simp; omega)) _ | with_reducible refine Below.alloc ?_ (by first | exact Nat.le_refl _ | (simp; done) | (simp; omega)) _ | with_reducible refine Below.drew ?_)); (with_reducible exact HB2.out)
      | some a2 =>
        go_wp2
        refine bodyPost_ret (v := .tuple #[.agg #[.slice (some a2) m c2, .int .i64 m], .bool true]) (by simp [results, Tryd.results23, go_sem, tr0, tr1, s2]) rfl ?_
        rw [E1.out, E2.out, E3.out]
        refine ⟨some a2, c2, by rw [HLN.out], ?_, ?_⟩
        · rw [HLN.out]
          refine (((OwnL.take headC_len HO.out hml).chg (lo' := w.heap.size) (hi' := w.heap.size + 2) ?_ (.inr (by omega))).wide (by omega) (by simp))
          (repeat (first | with_reducible refine Chg.setCell ?_ (by first | exact Nat.le_refl _ | (simp; done) | (simp; omega)) (by first | (simp; done) | (simp; omega)) _ | with_reducible refine Chg.alloc ?_ _ | with_reducible refine Chg.drew ?_)); (with_reducible exact Chg.refl _ _ _)
        · (repeat (first | with_reducible refine Below.setCell ?_ (by first | exact Nat.le_refl _ | (simp; done) | (simp; omega)) _ | with_reducible refine Below.alloc ?_ (by first | exact Nat.le_refl _ | (simp; done) | (simp; omega)) _ | with_reducible refine Below.drew ?_)); (with_reducible exact HB2.out)
    · by_cases k2 : k < l.length - y
      · have e0 : y + k = (m : Int) := by have h := HMI.out; rw [if_neg k1, if_pos k2] at h; exact h.symm
        go_enter Tryd.func23, Tryd.ntmps23
        go_wp2_with fail
        refine (StoreOk_any A l.length c l _ _ (by exact HR0.out) (by exact HT.out.below HB0.out HT.out.pos)).mono ?_
        rw [HBB.out]
        rintro e w1 ⟨rfl, hb⟩
        have BP1 := BP0.below hb BP0.lt
        have BR1 := BR0.below hb BR0.lt
        have HB1 := Lib.hid (HB0.out.trans (hb.mono HB0.out.size))
        clear hb BP0 BR0
        have ta0 : w1.cell? ⟨w.heap.size, 0, none⟩ = some (.slice A l.length c) := (Blk.cell BP1 0).trans rfl
        have ta1 : w1.cell? ⟨w.heap.size, 1, none⟩ = some (.int .i64 y) := (Blk.cell BP1 1).trans rfl
        go_wp2_with fail
        refine (copyStore_any _ A l.length c l _ (by exact (HL.out.below HB1.out (Nat.le_refl _)).more HB1.out.size) (by omega)).mono ?_
        rintro e w2 ⟨A2, n2, c2, rfl, ho, hb⟩
        obtain rfl : l.length = n2 := ho.1
        have HO := Lib.hid ho
        have BP2 := BP1.below hb BP1.lt
        have BR2 := BR1.below hb BR1.lt
        have s12 := hb.size
        have s1 := BR1.lt
        have HB2 := Lib.hid (HB1.out.trans (hb.mono HB1.out.size))
        clear ho hb BP1 BR1
        clear ta0 ta1
        have ta0 : w2.cell? ⟨w.heap.size, 0, none⟩ = some (.slice A l.length c) := (Blk.cell BP2 0).trans rfl
        have ta1 : w2.cell? ⟨w.heap.size, 1, none⟩ = some (.int .i64 y) := (Blk.cell BP2 1).trans rfl
        have tr0 : w2.cell? ⟨w.heap.size + 1, 0, none⟩ = some (.slice none 0 0) := (Blk.cell BR2 0).trans rfl
        have tr1 : w2.cell? ⟨w.heap.size + 1, 1, none⟩ = some (.int .i64 0) := (Blk.cell BR2 1).trans rfl
        have fr := BR2.frozen
        have s2 := BR2.lt
        have s20 : w.heap.size < w2.heap.size := by omega
        have hne : (w.heap.size + 1 = w2.heap.size) = False := by simp; omega
        have HCP := HO.out.rd headC_len |>.2.2.1
        have hcp : m ≤ c2 := Nat.le_trans hml HCP
        clear BP2 BR2 HCP
        cases A2 with
        | none =>
          have hl0 : l.length = 0 := by
            obtain ⟨_, ⟨h, _⟩ | ⟨_, _, h, _⟩⟩ := HO.out
            · exact h
            · cases h
          have hc0 : c2 = 0 := by
            obtain ⟨_, ⟨_, _, h⟩ | ⟨_, _, h, _⟩⟩ := HO.out
            · exact h
            · cases h
          obtain rfl := List.length_eq_zero_iff.1 hl0
          subst hc0
          exfalso
          simp at k2 hy1
          omega
        | some a2 =>
          go_wp2
          refine bodyPost_ret (v := .tuple #[.agg #[.slice (some a2) m c2, .int .i64 m], .bool true]) (by simp [results, Tryd.results23, go_sem, tr0, tr1, s2]) rfl ?_
          rw [E1.out, E2.out, E3.out]
          refine ⟨some a2, c2, by rw [HLN.out], ?_, ?_⟩
          · rw [HLN.out]
            refine (((OwnL.take headC_len HO.out hml).chg (lo' := w.heap.size) (hi' := w.heap.size + 2) ?_ (.inr (by omega))).wide (by omega) (by simp))
            (repeat (first | with_reducible refine Chg.setCell ?_ (by first | exact Nat.le_refl _ | (simp; done) | (simp; omega)) (by first | (simp; done) | (simp; omega)) _ | with_reducible refine Chg.alloc ?_ _ | with_reducible refine Chg.drew ?_)); (with_reducible exact Chg.refl _ _ _)
          · (repeat (first | with_reducible refine Below.setCell ?_ (by first | exact Nat.le_refl _ | (simp; done) | (simp; omega)) _ | with_reducible refine Below.alloc ?_ (by first | exact Nat.le_refl _ | (simp; done) | (simp; omega)) _ | with_reducible refine Below.drew ?_)); (with_reducible exact HB2.out)
      · obtain rfl : m = l.length := by have h := HMI.out; rw [if_neg k1, if_neg k2] at h; omega
        have e5 : y + ((l.length : Int) - y) = l.length := by omega
        rcases Int.lt_or_eq_of_le (Int.not_lt.1 k2) with k3 | k3
        · skip
          go_enter Tryd.func23, Tryd.ntmps23
          go_wp2_with fail
          refine (StoreOk_any A l.length c l _ _ (by exact HR0.out) (by exact HT.out.below HB0.out HT.out.pos)).mono ?_
          rw [HBB.out]
          rintro e w1 ⟨rfl, hb⟩
          have BP1 := BP0.below hb BP0.lt
          have BR1 := BR0.below hb BR0.lt
          have HB1 := Lib.hid (HB0.out.trans (hb.mono HB0.out.size))
          clear hb BP0 BR0
          have ta0 : w1.cell? ⟨w.heap.size, 0, none⟩ = some (.slice A l.length c) := (Blk.cell BP1 0).trans rfl
          have ta1 : w1.cell? ⟨w.heap.size, 1, none⟩ = some (.int .i64 y) := (Blk.cell BP1 1).trans rfl
          go_wp2_with fail
          refine (copyStore_any _ A l.length c l _ (by exact (HL.out.below HB1.out (Nat.le_refl _)).more HB1.out.size) (by omega)).mono ?_
          rintro e w2 ⟨A2, n2, c2, rfl, ho, hb⟩
          obtain rfl : l.length = n2 := ho.1
          have HO := Lib.hid ho
          have BP2 := BP1.below hb BP1.lt
          have BR2 := BR1.below hb BR1.lt
          have s12 := hb.size
          have s1 := BR1.lt
          have HB2 := Lib.hid (HB1.out.trans (hb.mono HB1.out.size))
          clear ho hb BP1 BR1
          clear ta0 ta1
          have ta0 : w2.cell? ⟨w.heap.size, 0, none⟩ = some (.slice A l.length c) := (Blk.cell BP2 0).trans rfl
          have ta1 : w2.cell? ⟨w.heap.size, 1, none⟩ = some (.int .i64 y) := (Blk.cell BP2 1).trans rfl
          have tr0 : w2.cell? ⟨w.heap.size + 1, 0, none⟩ = some (.slice none 0 0) := (Blk.cell BR2 0).trans rfl
          have tr1 : w2.cell? ⟨w.heap.size + 1, 1, none⟩ = some (.int .i64 0) := (Blk.cell BR2 1).trans rfl
          have fr := BR2.frozen
          have s2 := BR2.lt
          have s20 : w.heap.size < w2.heap.size := by omega
          have hne : (w.heap.size + 1 = w2.heap.size) = False := by simp; omega
          have HCP := HO.out.rd headC_len |>.2.2.1
          have hcp : l.length ≤ c2 := Nat.le_trans hml HCP
          clear BP2 BR2 HCP
          cases A2 with
          | none =>
            have hl0 : l.length = 0 := by
              obtain ⟨_, ⟨h, _⟩ | ⟨_, _, h, _⟩⟩ := HO.out
              · exact h
              · cases h
            have hc0 : c2 = 0 := by
              obtain ⟨_, ⟨_, _, h⟩ | ⟨_, _, h, _⟩⟩ := HO.out
              · exact h
              · cases h
            obtain rfl := List.length_eq_zero_iff.1 hl0
            subst hc0
            obtain rfl : y = 0 := by simp at hy1; omega
            go_wp2
            refine bodyPost_ret (v := .tuple #[.agg #[.slice none 0 0, .int .i64 0], .bool true]) (by simp [results, Tryd.results23, go_sem, tr0, tr1, s2]) rfl ?_
            rw [E1.out, E2.out, E3.out]
            refine ⟨none, 0, rfl, ⟨rfl, .inl ⟨rfl, rfl, rfl⟩⟩, ?_⟩
            (repeat (first | with_reducible refine Below.setCell ?_ (by first | exact Nat.le_refl _ | (simp; done) | (simp; omega)) _ | with_reducible refine Below.alloc ?_ (by first | exact Nat.le_refl _ | (simp; done) | (simp; omega)) _ | with_reducible refine Below.drew ?_)); (with_reducible exact HB2.out)
          | some a2 =>
            go_wp2
            refine bodyPost_ret (v := .tuple #[.agg #[.slice (some a2) l.length c2, .int .i64 l.length], .bool true]) (by simp [results, Tryd.results23, go_sem, tr0, tr1, s2]) rfl ?_
            rw [E1.out, E2.out, E3.out]
            refine ⟨some a2, c2, by rw [HLN.out], ?_, ?_⟩
            · rw [HLN.out]
              refine (((OwnL.take headC_len HO.out hml).chg (lo' := w.heap.size) (hi' := w.heap.size + 2) ?_ (.inr (by omega))).wide (by omega) (by simp))
              (repeat (first | with_reducible refine Chg.setCell ?_ (by first | exact Nat.le_refl _ | (simp; done) | (simp; omega)) (by first | (simp; done) | (simp; omega)) _ | with_reducible refine Chg.alloc ?_ _ | with_reducible refine Chg.drew ?_)); (with_reducible exact Chg.refl _ _ _)
            · (repeat (first | with_reducible refine Below.setCell ?_ (by first | exact Nat.le_refl _ | (simp; done) | (simp; omega)) _ | with_reducible refine Below.alloc ?_ (by first | exact Nat.le_refl _ | (simp; done) | (simp; omega)) _ | with_reducible refine Below.drew ?_)); (with_reducible exact HB2.out)
        · obtain rfl : k = (l.length : Int) - y := k3.symm
          have k4 : 0 ≤ (l.length : Int) - y := by omega
          go_enter Tryd.func23, Tryd.ntmps23
          go_wp2_with fail
          refine (StoreOk_any A l.length c l _ _ (by exact HR0.out) (by exact HT.out.below HB0.out HT.out.pos)).mono ?_
          rw [HBB.out]
          rintro e w1 ⟨rfl, hb⟩
          have BP1 := BP0.below hb BP0.lt
          have BR1 := BR0.below hb BR0.lt
          have HB1 := Lib.hid (HB0.out.trans (hb.mono HB0.out.size))
          clear hb BP0 BR0
          have ta0 : w1.cell? ⟨w.heap.size, 0, none⟩ = some (.slice A l.length c) := (Blk.cell BP1 0).trans rfl
          have ta1 : w1.cell? ⟨w.heap.size, 1, none⟩ = some (.int .i64 y) := (Blk.cell BP1 1).trans rfl
          go_wp2_with fail
          refine (copyStore_any _ A l.length c l _ (by exact (HL.out.below HB1.out (Nat.le_refl _)).more HB1.out.size) (by omega)).mono ?_
          rintro e w2 ⟨A2, n2, c2, rfl, ho, hb⟩
          obtain rfl : l.length = n2 := ho.1
          have HO := Lib.hid ho
          have BP2 := BP1.below hb BP1.lt
          have BR2 := BR1.below hb BR1.lt
          have s12 := hb.size
          have s1 := BR1.lt
          have HB2 := Lib.hid (HB1.out.trans (hb.mono HB1.out.size))
          clear ho hb BP1 BR1
          clear ta0 ta1
          have ta0 : w2.cell? ⟨w.heap.size, 0, none⟩ = some (.slice A l.length c) := (Blk.cell BP2 0).trans rfl
          have ta1 : w2.cell? ⟨w.heap.size, 1, none⟩ = some (.int .i64 y) := (Blk.cell BP2 1).trans rfl
          have tr0 : w2.cell? ⟨w.heap.size + 1, 0, none⟩ = some (.slice none 0 0) := (Blk.cell BR2 0).trans rfl
          have tr1 : w2.cell? ⟨w.heap.size + 1, 1, none⟩ = some (.int .i64 0) := (Blk.cell BR2 1).trans rfl
          have fr := BR2.frozen
          have s2 := BR2.lt
          have s20 : w.heap.size < w2.heap.size := by omega
          have hne : (w.heap.size + 1 = w2.heap.size) = False := by simp; omega
          have HCP := HO.out.rd headC_len |>.2.2.1
          have hcp : l.length ≤ c2 := Nat.le_trans hml HCP
          clear BP2 BR2 HCP
          cases A2 with
          | none =>
            have hl0 : l.length = 0 := by
              obtain ⟨_, ⟨h, _⟩ | ⟨_, _, h, _⟩⟩ := HO.out
              · exact h
              · cases h
            have hc0 : c2 = 0 := by
              obtain ⟨_, ⟨_, _, h⟩ | ⟨_, _, h, _⟩⟩ := HO.out
              · exact h
              · cases h
            obtain rfl := List.length_eq_zero_iff.1 hl0
            subst hc0
            obtain rfl : y = 0 := by simp at hy1; omega
            go_wp2
            refine bodyPost_ret (v := .tuple #[.agg #[.slice none 0 0, .int .i64 0], .bool true]) (by simp [results, Tryd.results23, go_sem, tr0, tr1, s2]) rfl ?_
            rw [E1.out, E2.out, E3.out]
            refine ⟨none, 0, rfl, ⟨rfl, .inl ⟨rfl, rfl, rfl⟩⟩, ?_⟩
            (repeat (first | with_reducible refine Below.setCell ?_ (by first | exact Nat.le_refl _ | (simp; done) | (simp; omega)) _ | with_reducible refine Below.alloc ?_ (by first | exact Nat.le_refl _ | (simp; done) | (simp; omega)) _ | with_reducible refine Below.drew ?_)); (with_reducible exact HB2.out)
          | some a2 =>
            go_wp2
            refine bodyPost_ret (v := .tuple #[.agg #[.slice (some a2) l.length c2, .int .i64 l.length], .bool true]) (by simp [results, Tryd.results23, go_sem, tr0, tr1, s2]) rfl ?_
            rw [E1.out, E2.out, E3.out]
            refine ⟨some a2, c2, by rw [HLN.out], ?_, ?_⟩
            · rw [HLN.out]
              refine (((OwnL.take headC_len HO.out hml).chg (lo' := w.heap.size) (hi' := w.heap.size + 2) ?_ (.inr (by omega))).wide (by omega) (by simp))
              (repeat (first | with_reducible refine Chg.setCell ?_ (by first | exact Nat.le_refl _ | (simp; done) | (simp; omega)) (by first | (simp; done) | (simp; omega)) _ | with_reducible refine Chg.alloc ?_ _ | with_reducible refine Chg.drew ?_)); (with_reducible exact Chg.refl _ _ _)
            · (repeat (first | with_reducible refine Below.setCell ?_ (by first | exact Nat.le_refl _ | (simp; done) | (simp; omega)) _ | with_reducible refine Below.alloc ?_ (by first | exact Nat.le_refl _ | (simp; done) | (simp; omega)) _ | with_reducible refine Below.drew ?_)); (with_reducible exact HB2.out)

set_option maxHeartbeats 4000000 in
theorem sStoreFall_any (y : Int) (A : Option Addr) (c : Nat) (l : List HeaderD) (k : Int) (w : World) (hl : RdL headC 6 w w.heap.size A l.length c l) :
    Calls Tryd.prog 22 #[.agg #[.slice A l.length c, .int .i64 y], .int .i64 k] w (StoreOutK (fallY l y k) (fallL l y k) (.bool (fallB l y k)) w) := by
  have HL := Lib.hid hl
  clear hl
  cases hB : storeB l y
  · skip
    have E1 : Hid (fallY l y k = 0) := by show _ = _; simp [fallY, hB]
    have E2 : Hid (fallL l y k = []) := by show _ = _; simp [fallL, hB]
    have E3 : Hid (fallB l y k = false) := by show _ = _; simp [fallB, hB]
    have HBB := Lib.hid hB
    clear hB
    have BP0 : Blk ((w.alloc (.cells #[.slice A l.length c, .int .i64 y] 29)).alloc (.cells #[.slice none 0 0, .int .i64 0] 29)) w.heap.size 29 #[.slice A l.length c, .int .i64 y] := Blk.alloc (heap_alloc_new w _) _
    have BR0 : Blk ((w.alloc (.cells #[.slice A l.length c, .int .i64 y] 29)).alloc (.cells #[.slice none 0 0, .int .i64 0] 29)) (w.heap.size + 1) 29 #[.slice none 0 0, .int .i64 0] := blk_newAt (w.alloc (.cells #[.slice A l.length c, .int .i64 y] 29)) (w.heap.size + 1) _ _ (World.size_alloc _ _)
    have HB0 : Hid (Below w.heap.size w ((w.alloc (.cells #[.slice A l.length c, .int .i64 y] 29)).alloc (.cells #[.slice none 0 0, .int .i64 0] 29))) := ((Below.refl _ _).alloc (Nat.le_refl _) _).alloc (by rw [World.size_alloc]; omega) _
    have HR0 : Hid (RdL headC 6 ((w.alloc (.cells #[.slice A l.length c, .int .i64 y] 29)).alloc (.cells #[.slice none 0 0, .int .i64 0] 29)) ((w.alloc (.cells #[.slice A l.length c, .int .i64 y] 29)).alloc (.cells #[.slice none 0 0, .int .i64 0] 29)).heap.size A l.length c l) := (HL.out.below HB0.out (Nat.le_refl _)).more HB0.out.size
    go_enter Tryd.func22, Tryd.ntmps22
    go_wp2_with fail
    refine (sStoreOk_any A l.length c l _ _ (by exact HR0.out)).mono ?_
    rw [HBB.out]
    rintro e w1 ⟨rfl, hb⟩
    have BP1 := BP0.below hb BP0.lt
    have BR1 := BR0.below hb BR0.lt
    have HB1 := Lib.hid (HB0.out.trans (hb.mono HB0.out.size))
    clear hb BP0 BR0
    have tr0 : w1.cell? ⟨w.heap.size + 1, 0, none⟩ = some (.slice none 0 0) := (Blk.cell BR1 0).trans rfl
    have tr1 : w1.cell? ⟨w.heap.size + 1, 1, none⟩ = some (.int .i64 0) := (Blk.cell BR1 1).trans rfl
    have fr := BR1.frozen
    go_wp2
    refine bodyPost_ret (v := .tuple #[.agg #[.slice none 0 0, .int .i64 0], .bool false]) (by simp [results, Tryd.results22, go_sem, tr0, tr1]) rfl ?_
    rw [E1.out, E2.out, E3.out]
    refine ⟨none, 0, rfl, ⟨rfl, .inl ⟨rfl, rfl, rfl⟩⟩, ?_⟩
    (repeat (first | with_reducible refine Below.setCell ?_ (by first | exact Nat.le_refl _ | (simp; done) | (simp; omega)) _ | with_reducible refine Below.alloc ?_ (by first | exact Nat.le_refl _ | (simp; done) | (simp; omega)) _ | with_reducible refine Below.drew ?_)); (with_reducible exact HB1.out)
  · obtain ⟨hn20, hy0, hy1⟩ := storeB_facts hB
    obtain ⟨m, hm⟩ : ∃ m, m = fallN l y k := ⟨_, rfl⟩
    have HBB := Lib.hid hB
    have E1 : Hid (fallY l y k = m) := by show _ = _; simp [fallY, hB, hm]
    have E2 : Hid (fallL l y k = l.take m) := by show _ = _; simp [fallL, hB, hm]
    have E3 : Hid (fallB l y k = true) := by show _ = _; simp [fallB, hB]
    have HMI : Hid ((m : Int) = if k < 0 then y else if k < l.length - y then y + k else l.length) := by
      show _ = _
      rw [hm]; unfold fallN
      rw [Int.toNat_of_nonneg (by split; omega; split <;> omega)]
    have hml : m ≤ l.length := by
      have h := HMI.out
      split at h
      · omega
      · split at h <;> omega
    have HLN : Hid ((l.take m).length = m) := by show _ = _; rw [List.length_take]; omega
    clear hB hm
    obtain ⟨i0, hi, hz0, hz1, hz2⟩ := info_parts infoHeader
    have BP0 : Blk ((w.alloc (.cells #[.slice A l.length c, .int .i64 y] 29)).alloc (.cells #[.slice none 0 0, .int .i64 0] 29)) w.heap.size 29 #[.slice A l.length c, .int .i64 y] := Blk.alloc (heap_alloc_new w _) _
    have BR0 : Blk ((w.alloc (.cells #[.slice A l.length c, .int .i64 y] 29)).alloc (.cells #[.slice none 0 0, .int .i64 0] 29)) (w.heap.size + 1) 29 #[.slice none 0 0, .int .i64 0] := blk_newAt (w.alloc (.cells #[.slice A l.length c, .int .i64 y] 29)) (w.heap.size + 1) _ _ (World.size_alloc _ _)
    have HB0 : Hid (Below w.heap.size w ((w.alloc (.cells #[.slice A l.length c, .int .i64 y] 29)).alloc (.cells #[.slice none 0 0, .int .i64 0] 29))) := ((Below.refl _ _).alloc (Nat.le_refl _) _).alloc (by rw [World.size_alloc]; omega) _
    have HR0 : Hid (RdL headC 6 ((w.alloc (.cells #[.slice A l.length c, .int .i64 y] 29)).alloc (.cells #[.slice none 0 0, .int .i64 0] 29)) ((w.alloc (.cells #[.slice A l.length c, .int .i64 y] 29)).alloc (.cells #[.slice none 0 0, .int .i64 0] 29)).heap.size A l.length c l) := (HL.out.below HB0.out (Nat.le_refl _)).more HB0.out.size
    by_cases k1 : k < 0
    · have e0 : y = (m : Int) := by have h := HMI.out; rw [if_pos k1] at h; exact h.symm
      subst e0
      go_enter Tryd.func22, Tryd.ntmps22
      go_wp2_with fail
      refine (sStoreOk_any A l.length c l _ _ (by exact HR0.out)).mono ?_
      rw [HBB.out]
      rintro e w1 ⟨rfl, hb⟩
      have BP1 := BP0.below hb BP0.lt
      have BR1 := BR0.below hb BR0.lt
      have HB1 := Lib.hid (HB0.out.trans (hb.mono HB0.out.size))
      clear hb BP0 BR0
      have ta0 : w1.cell? ⟨w.heap.size, 0, none⟩ = some (.slice A l.length c) := (Blk.cell BP1 0).trans rfl
      have ta1 : w1.cell? ⟨w.heap.size, 1, none⟩ = some (.int .i64 m) := (Blk.cell BP1 1).trans rfl
      have s1 := BR1.lt
      have s10 : w.heap.size < w1.heap.size := by omega
      have HRA := Lib.hid (HL.out.below HB1.out (Nat.le_refl _))
      have HOWN : Hid (World.ownsRow (w1.alloc (.cells #[] 34)) w1.heap.size 34 6 (.slice (some ⟨w1.heap.size, 0, none⟩) 0 0) 0 []) := by
        have := World.ownsRow_lit w1 (base := w1.heap.size) (e := 34) (size := 6) #[] 0 (Nat.le_refl _) (by decide) rfl
        show World.ownsRow _ _ _ _ _ _ _
        simpa using this
      have hcap : l.length ≤ c := HRA.out.2.2.1
      have hmc : m ≤ c := Nat.le_trans hml hcap
      cases A with
      | none =>
        have hl0 : l.length = 0 := by
          rcases Nat.eq_zero_or_pos l.length with h | h
          · exact h
          · obtain ⟨_, _, h, _⟩ := HRA.out.2.2.2.2 h
            cases h
        obtain rfl := List.length_eq_zero_iff.1 hl0
        obtain rfl : m = 0 := by simpa using hml
        go_wp2_with (at_builtin; refine wpList_app_rd _ rfl _ _ _ rfl w1.heap.size 34 i0 _ 6 80 Tryd.underlying27 hi hz0 hz1 hz2 rfl (by decide) (.slice (some ⟨w1.heap.size, 0, none⟩) 0 0) 0 [] rfl (by exact HOWN.out) w1.heap.size none 0 c (([] : List HeaderD).flatMap headC) rfl (by exact (((HRA.out.more HB1.out.size).alloc (Nat.le_refl _) _).2)) (headC_one _) (by unfold maxLen; omega) (by omega) (by first | (simp; done) | (simp; omega)) ?_)
        intro v3 w3 hown hg hat
        clear hat
        (try simp only [Nat.zero_add, List.nil_append] at hown)
        obtain ⟨A3, c3, rfl, ho⟩ := OwnL.of_own (f := headC) (l := []) (n := 0) rfl hown
        have HO := Lib.hid ho
        have hgb : Below w1.heap.size w1 w3 := ((Below.refl _ _).alloc (Nat.le_refl _) _).grown hg (by first | (simp; done) | (simp; omega)) (fun k hk => by simp [Value.ownBlock] at hk; omega)
        have BR3 := BR1.below hgb BR1.lt
        have s3 := BR3.lt
        have s13 := hgb.size
        have HB3 := Lib.hid (HB1.out.trans (hgb.mono HB1.out.size))
        clear hown hg ho ta0 ta1 hgb
        have tr0 : w3.cell? ⟨w.heap.size + 1, 0, none⟩ = some (.slice none 0 0) := (Blk.cell BR3 0).trans rfl
        have tr1 : w3.cell? ⟨w.heap.size + 1, 1, none⟩ = some (.int .i64 0) := (Blk.cell BR3 1).trans rfl
        have fr := BR3.frozen
        have hne : (w.heap.size + 1 = w3.heap.size) = False := by simp; omega
        clear BR3
        go_wp2
        refine bodyPost_ret (v := .tuple #[.agg #[.slice A3 0 c3, .int .i64 0], .bool true]) (by simp [results, Tryd.results22, go_sem, tr0, tr1, s3]) rfl ?_
        rw [E1.out, E2.out, E3.out]
        refine ⟨A3, c3, rfl, ?_, ?_⟩
        · refine ((HO.out.chg (lo' := w.heap.size) (hi' := w.heap.size + 2) ?_ (.inr (by omega))).wide (by omega) (by simp))
          (repeat (first | with_reducible refine Chg.setCell ?_ (by first | exact Nat.le_refl _ | (simp; done) | (simp; omega)) (by first | (simp; done) | (simp; omega)) _ | with_reducible refine Chg.alloc ?_ _ | with_reducible refine Chg.drew ?_)); (with_reducible exact Chg.refl _ _ _)
        · (repeat (first | with_reducible refine Below.setCell ?_ (by first | exact Nat.le_refl _ | (simp; done) | (simp; omega)) _ | with_reducible refine Below.alloc ?_ (by first | exact Nat.le_refl _ | (simp; done) | (simp; omega)) _ | with_reducible refine Below.drew ?_)); (with_reducible exact HB3.out)
      | some a1 =>
        go_wp2_with (at_builtin; refine wpList_app_rd _ rfl _ _ _ rfl w1.heap.size 34 i0 _ 6 80 Tryd.underlying27 hi hz0 hz1 hz2 rfl (by decide) (.slice (some ⟨w1.heap.size, 0, none⟩) 0 0) 0 [] rfl (by exact HOWN.out) w1.heap.size (some a1) m c ((l.take m).flatMap headC) rfl (by exact ((((HRA.out.more HB1.out.size).take headC_len hml).alloc (Nat.le_refl _) _).2)) (headC_one _) (by unfold maxLen; omega) (by omega) (by first | (simp; done) | (simp; omega)) ?_)
        intro v3 w3 hown hg hat
        clear hat
        (try simp only [Nat.zero_add, List.nil_append] at hown)
        obtain ⟨A3, c3, rfl, ho⟩ := OwnL.of_own (f := headC) (l := l.take m) (n := m) HLN.out hown
        have HO := Lib.hid ho
        have hgb : Below w1.heap.size w1 w3 := ((Below.refl _ _).alloc (Nat.le_refl _) _).grown hg (by first | (simp; done) | (simp; omega)) (fun k hk => by simp [Value.ownBlock] at hk; omega)
        have BR3 := BR1.below hgb BR1.lt
        have s3 := BR3.lt
        have s13 := hgb.size
        have HB3 := Lib.hid (HB1.out.trans (hgb.mono HB1.out.size))
        clear hown hg ho ta0 ta1 hgb
        have tr0 : w3.cell? ⟨w.heap.size + 1, 0, none⟩ = some (.slice none 0 0) := (Blk.cell BR3 0).trans rfl
        have tr1 : w3.cell? ⟨w.heap.size + 1, 1, none⟩ = some (.int .i64 0) := (Blk.cell BR3 1).trans rfl
        have fr := BR3.frozen
        have hne : (w.heap.size + 1 = w3.heap.size) = False := by simp; omega
        clear BR3
        go_wp2
        refine bodyPost_ret (v := .tuple #[.agg #[.slice A3 m c3, .int .i64 m], .bool true]) (by simp [results, Tryd.results22, go_sem, tr0, tr1, s3]) rfl ?_
        rw [E1.out, E2.out, E3.out]
        refine ⟨A3, c3, by rw [HLN.out], ?_, ?_⟩
        · rw [HLN.out]
          refine ((HO.out.chg (lo' := w.heap.size) (hi' := w.heap.size + 2) ?_ (.inr (by omega))).wide (by omega) (by simp))
          (repeat (first | with_reducible refine Chg.setCell ?_ (by first | exact Nat.le_refl _ | (simp; done) | (simp; omega)) (by first | (simp; done) | (simp; omega)) _ | with_reducible refine Chg.alloc ?_ _ | with_reducible refine Chg.drew ?_)); (with_reducible exact Chg.refl _ _ _)
        · (repeat (first | with_reducible refine Below.setCell ?_ (by first | exact Nat.le_refl _ | (simp; done) | (simp; omega)) _ | with_reducible refine Below.alloc ?_ (by first | exact Nat.le_refl _ | (simp; done) | (simp; omega)) _ | with_reducible refine Below.drew ?_)); (with_reducible exact HB3.out)
    · by_cases k2 : k < l.length - y
      · have e0 : y + k = (m : Int) := by have h := HMI.out; rw [if_neg k1, if_pos k2] at h; exact h.symm
        go_enter Tryd.func22, Tryd.ntmps22
        go_wp2_with fail
        refine (sStoreOk_any A l.length c l _ _ (by exact HR0.out)).mono ?_
        rw [HBB.out]
        rintro e w1 ⟨rfl, hb⟩
        have BP1 := BP0.below hb BP0.lt
        have BR1 := BR0.below hb BR0.lt
        have HB1 := Lib.hid (HB0.out.trans (hb.mono HB0.out.size))
        clear hb BP0 BR0
        have ta0 : w1.cell? ⟨w.heap.size, 0, none⟩ = some (.slice A l.length c) := (Blk.cell BP1 0).trans rfl
        have ta1 : w1.cell? ⟨w.heap.size, 1, none⟩ = some (.int .i64 y) := (Blk.cell BP1 1).trans rfl
        have s1 := BR1.lt
        have s10 : w.heap.size < w1.heap.size := by omega
        have HRA := Lib.hid (HL.out.below HB1.out (Nat.le_refl _))
        have HOWN : Hid (World.ownsRow (w1.alloc (.cells #[] 34)) w1.heap.size 34 6 (.slice (some ⟨w1.heap.size, 0, none⟩) 0 0) 0 []) := by
          have := World.ownsRow_lit w1 (base := w1.heap.size) (e := 34) (size := 6) #[] 0 (Nat.le_refl _) (by decide) rfl
          show World.ownsRow _ _ _ _ _ _ _
          simpa using this
        have hcap : l.length ≤ c := HRA.out.2.2.1
        have hmc : m ≤ c := Nat.le_trans hml hcap
        cases A with
        | none =>
          have hl0 : l.length = 0 := by
            rcases Nat.eq_zero_or_pos l.length with h | h
            · exact h
            · obtain ⟨_, _, h, _⟩ := HRA.out.2.2.2.2 h
              cases h
          obtain rfl := List.length_eq_zero_iff.1 hl0
          exfalso
          simp at k2 hy1
          omega
        | some a1 =>
          go_wp2_with (at_builtin; refine wpList_app_rd _ rfl _ _ _ rfl w1.heap.size 34 i0 _ 6 80 Tryd.underlying27 hi hz0 hz1 hz2 rfl (by decide) (.slice (some ⟨w1.heap.size, 0, none⟩) 0 0) 0 [] rfl (by exact HOWN.out) w1.heap.size (some a1) m c ((l.take m).flatMap headC) rfl (by exact ((((HRA.out.more HB1.out.size).take headC_len hml).alloc (Nat.le_refl _) _).2)) (headC_one _) (by unfold maxLen; omega) (by omega) (by first | (simp; done) | (simp; omega)) ?_)
          intro v3 w3 hown hg hat
          clear hat
          (try simp only [Nat.zero_add, List.nil_append] at hown)
          obtain ⟨A3, c3, rfl, ho⟩ := OwnL.of_own (f := headC) (l := l.take m) (n := m) HLN.out hown
          have HO := Lib.hid ho
          have hgb : Below w1.heap.size w1 w3 := ((Below.refl _ _).alloc (Nat.le_refl _) _).grown hg (by first | (simp; done) | (simp; omega)) (fun k hk => by simp [Value.ownBlock] at hk; omega)
          have BR3 := BR1.below hgb BR1.lt
          have s3 := BR3.lt
          have s13 := hgb.size
          have HB3 := Lib.hid (HB1.out.trans (hgb.mono HB1.out.size))
          clear hown hg ho ta0 ta1 hgb
          have tr0 : w3.cell? ⟨w.heap.size + 1, 0, none⟩ = some (.slice none 0 0) := (Blk.cell BR3 0).trans rfl
          have tr1 : w3.cell? ⟨w.heap.size + 1, 1, none⟩ = some (.int .i64 0) := (Blk.cell BR3 1).trans rfl
          have fr := BR3.frozen
          have hne : (w.heap.size + 1 = w3.heap.size) = False := by simp; omega
          clear BR3
          go_wp2
          refine bodyPost_ret (v := .tuple #[.agg #[.slice A3 m c3, .int .i64 m], .bool true]) (by simp [results, Tryd.results22, go_sem, tr0, tr1, s3]) rfl ?_
          rw [E1.out, E2.out, E3.out]
          refine ⟨A3, c3, by rw [HLN.out], ?_, ?_⟩
          · rw [HLN.out]
            refine ((HO.out.chg (lo' := w.heap.size) (hi' := w.heap.size + 2) ?_ (.inr (by omega))).wide (by omega) (by simp))
            (repeat (first | with_reducible refine Chg.setCell ?_ (by first | exact Nat.le_refl _ | (simp; done) | (simp; omega)) (by first | (simp; done) | (simp; omega)) _ | with_reducible refine Chg.alloc ?_ _ | with_reducible refine Chg.drew ?_)); (with_reducible exact Chg.refl _ _ _)
          · (repeat (first | with_reducible refine Below.setCell ?_ (by first | exact Nat.le_refl _ | (simp; done) | (simp; omega)) _ | with_reducible refine Below.alloc ?_ (by first | exact Nat.le_refl _ | (simp; done) | (simp; omega)) _ | with_reducible refine Below.drew ?_)); (with_reducible exact HB3.out)
      · obtain rfl : m = l.length := by have h := HMI.out; rw [if_neg k1, if_neg k2] at h; omega
        have e5 : y + ((l.length : Int) - y) = l.length := by omega
        rcases Int.lt_or_eq_of_le (Int.not_lt.1 k2) with k3 | k3
        · skip
          go_enter Tryd.func22, Tryd.ntmps22
          go_wp2_with fail
          refine (sStoreOk_any A l.length c l _ _ (by exact HR0.out)).mono ?_
          rw [HBB.out]
          rintro e w1 ⟨rfl, hb⟩
          have BP1 := BP0.below hb BP0.lt
          have BR1 := BR0.below hb BR0.lt
          have HB1 := Lib.hid (HB0.out.trans (hb.mono HB0.out.size))
          clear hb BP0 BR0
          have ta0 : w1.cell? ⟨w.heap.size, 0, none⟩ = some (.slice A l.length c) := (Blk.cell BP1 0).trans rfl
          have ta1 : w1.cell? ⟨w.heap.size, 1, none⟩ = some (.int .i64 y) := (Blk.cell BP1 1).trans rfl
          have s1 := BR1.lt
          have s10 : w.heap.size < w1.heap.size := by omega
          have HRA := Lib.hid (HL.out.below HB1.out (Nat.le_refl _))
          have HOWN : Hid (World.ownsRow (w1.alloc (.cells #[] 34)) w1.heap.size 34 6 (.slice (some ⟨w1.heap.size, 0, none⟩) 0 0) 0 []) := by
            have := World.ownsRow_lit w1 (base := w1.heap.size) (e := 34) (size := 6) #[] 0 (Nat.le_refl _) (by decide) rfl
            show World.ownsRow _ _ _ _ _ _ _
            simpa using this
          have hcap : l.length ≤ c := HRA.out.2.2.1
          have hmc : l.length ≤ c := Nat.le_trans hml hcap
          cases A with
          | none =>
            have hl0 : l.length = 0 := by
              rcases Nat.eq_zero_or_pos l.length with h | h
              · exact h
              · obtain ⟨_, _, h, _⟩ := HRA.out.2.2.2.2 h
                cases h
            obtain rfl := List.length_eq_zero_iff.1 hl0
            obtain rfl : y = 0 := by simp at hy1; omega
            go_wp2_with (at_builtin; refine wpList_app_rd _ rfl _ _ _ rfl w1.heap.size 34 i0 _ 6 80 Tryd.underlying27 hi hz0 hz1 hz2 rfl (by decide) (.slice (some ⟨w1.heap.size, 0, none⟩) 0 0) 0 [] rfl (by exact HOWN.out) w1.heap.size none 0 c (([] : List HeaderD).flatMap headC) rfl (by exact (((HRA.out.more HB1.out.size).alloc (Nat.le_refl _) _).2)) (headC_one _) (by unfold maxLen; omega) (by omega) (by first | (simp; done) | (simp; omega)) ?_)
            intro v3 w3 hown hg hat
            clear hat
            (try simp only [Nat.zero_add, List.nil_append] at hown)
            obtain ⟨A3, c3, rfl, ho⟩ := OwnL.of_own (f := headC) (l := []) (n := 0) rfl hown
            have HO := Lib.hid ho
            have hgb : Below w1.heap.size w1 w3 := ((Below.refl _ _).alloc (Nat.le_refl _) _).grown hg (by first | (simp; done) | (simp; omega)) (fun k hk => by simp [Value.ownBlock] at hk; omega)
            have BR3 := BR1.below hgb BR1.lt
            have s3 := BR3.lt
            have s13 := hgb.size
            have HB3 := Lib.hid (HB1.out.trans (hgb.mono HB1.out.size))
            clear hown hg ho ta0 ta1 hgb
            have tr0 : w3.cell? ⟨w.heap.size + 1, 0, none⟩ = some (.slice none 0 0) := (Blk.cell BR3 0).trans rfl
            have tr1 : w3.cell? ⟨w.heap.size + 1, 1, none⟩ = some (.int .i64 0) := (Blk.cell BR3 1).trans rfl
            have fr := BR3.frozen
            have hne : (w.heap.size + 1 = w3.heap.size) = False := by simp; omega
            clear BR3
            go_wp2
            refine bodyPost_ret (v := .tuple #[.agg #[.slice A3 0 c3, .int .i64 0], .bool true]) (by simp [results, Tryd.results22, go_sem, tr0, tr1, s3]) rfl ?_
            rw [E1.out, E2.out, E3.out]
            refine ⟨A3, c3, rfl, ?_, ?_⟩
            · refine ((HO.out.chg (lo' := w.heap.size) (hi' := w.heap.size + 2) ?_ (.inr (by omega))).wide (by omega) (by simp))
              (repeat (first | with_reducible refine Chg.setCell ?_ (by first | exact Nat.le_refl _ | (simp; done) | (simp; omega)) (by first | (simp; done) | (simp; omega)) _ | with_reducible refine Chg.alloc ?_ _ | with_reducible refine Chg.drew ?_)); (with_reducible exact Chg.refl _ _ _)
            · (repeat (first | with_reducible refine Below.setCell ?_ (by first | exact Nat.le_refl _ | (simp; done) | (simp; omega)) _ | with_reducible refine Below.alloc ?_ (by first | exact Nat.le_refl _ | (simp; done) | (simp; omega)) _ | with_reducible refine Below.drew ?_)); (with_reducible exact HB3.out)
          | some a1 =>
            go_wp2_with (at_builtin; refine wpList_app_rd _ rfl _ _ _ rfl w1.heap.size 34 i0 _ 6 80 Tryd.underlying27 hi hz0 hz1 hz2 rfl (by decide) (.slice (some ⟨w1.heap.size, 0, none⟩) 0 0) 0 [] rfl (by exact HOWN.out) w1.heap.size (some a1) l.length c ((l.take l.length).flatMap headC) rfl (by exact ((((HRA.out.more HB1.out.size).take headC_len hml).alloc (Nat.le_refl _) _).2)) (headC_one _) (by unfold maxLen; omega) (by omega) (by first | (simp; done) | (simp; omega)) ?_)
            intro v3 w3 hown hg hat
            clear hat
            (try simp only [Nat.zero_add, List.nil_append] at hown)
            obtain ⟨A3, c3, rfl, ho⟩ := OwnL.of_own (f := headC) (l := l) (n := l.length) rfl hown
            have HO := Lib.hid ho
            have hgb : Below w1.heap.size w1 w3 := ((Below.refl _ _).alloc (Nat.le_refl _) _).grown hg (by first | (simp; done) | (simp; omega)) (fun k hk => by simp [Value.ownBlock] at hk; omega)
            have BR3 := BR1.below hgb BR1.lt
            have s3 := BR3.lt
            have s13 := hgb.size
            have HB3 := Lib.hid (HB1.out.trans (hgb.mono HB1.out.size))
            clear hown hg ho ta0 ta1 hgb
            have tr0 : w3.cell? ⟨w.heap.size + 1, 0, none⟩ = some (.slice none 0 0) := (Blk.cell BR3 0).trans rfl
            have tr1 : w3.cell? ⟨w.heap.size + 1, 1, none⟩ = some (.int .i64 0) := (Blk.cell BR3 1).trans rfl
            have fr := BR3.frozen
            have hne : (w.heap.size + 1 = w3.heap.size) = False := by simp; omega
            clear BR3
            go_wp2
            refine bodyPost_ret (v := .tuple #[.agg #[.slice A3 l.length c3, .int .i64 l.length], .bool true]) (by simp [results, Tryd.results22, go_sem, tr0, tr1, s3]) rfl ?_
            rw [E1.out, E2.out, List.take_length, E3.out]
            refine ⟨A3, c3, rfl, ?_, ?_⟩
            · refine ((HO.out.chg (lo' := w.heap.size) (hi' := w.heap.size + 2) ?_ (.inr (by omega))).wide (by omega) (by simp))
              (repeat (first | with_reducible refine Chg.setCell ?_ (by first | exact Nat.le_refl _ | (simp; done) | (simp; omega)) (by first | (simp; done) | (simp; omega)) _ | with_reducible refine Chg.alloc ?_ _ | with_reducible refine Chg.drew ?_)); (with_reducible exact Chg.refl _ _ _)
            · (repeat (first | with_reducible refine Below.setCell ?_ (by first | exact Nat.le_refl _ | (simp; done) | (simp; omega)) _ | with_reducible refine Below.alloc ?_ (by first | exact Nat.le_refl _ | (simp; done) | (simp; omega)) _ | with_reducible refine Below.drew ?_)); (with_reducible exact HB3.out)
        · obtain rfl : k = (l.length : Int) - y := k3.symm
          have k4 : 0 ≤ (l.length : Int) - y := by omega
          go_enter Tryd.func22, Tryd.ntmps22
          go_wp2_with fail
          refine (sStoreOk_any A l.length c l _ _ (by exact HR0.out)).mono ?_
          rw [HBB.out]
          rintro e w1 ⟨rfl, hb⟩
          have BP1 := BP0.below hb BP0.lt
          have BR1 := BR0.below hb BR0.lt
          have HB1 := Lib.hid (HB0.out.trans (hb.mono HB0.out.size))
          clear hb BP0 BR0
          have ta0 : w1.cell? ⟨w.heap.size, 0, none⟩ = some (.slice A l.length c) := (Blk.cell BP1 0).trans rfl
          have ta1 : w1.cell? ⟨w.heap.size, 1, none⟩ = some (.int .i64 y) := (Blk.cell BP1 1).trans rfl
          have s1 := BR1.lt
          have s10 : w.heap.size < w1.heap.size := by omega
          have HRA := Lib.hid (HL.out.below HB1.out (Nat.le_refl _))
          have HOWN : Hid (World.ownsRow (w1.alloc (.cells #[] 34)) w1.heap.size 34 6 (.slice (some ⟨w1.heap.size, 0, none⟩) 0 0) 0 []) := by
            have := World.ownsRow_lit w1 (base := w1.heap.size) (e := 34) (size := 6) #[] 0 (Nat.le_refl _) (by decide) rfl
            show World.ownsRow _ _ _ _ _ _ _
            simpa using this
          have hcap : l.length ≤ c := HRA.out.2.2.1
          have hmc : l.length ≤ c := Nat.le_trans hml hcap
          cases A with
          | none =>
            have hl0 : l.length = 0 := by
              rcases Nat.eq_zero_or_pos l.length with h | h
              · exact h
              · obtain ⟨_, _, h, _⟩ := HRA.out.2.2.2.2 h
                cases h
            obtain rfl := List.length_eq_zero_iff.1 hl0
            obtain rfl : y = 0 := by simp at hy1; omega
            go_wp2_with (at_builtin; refine wpList_app_rd _ rfl _ _ _ rfl w1.heap.size 34 i0 _ 6 80 Tryd.underlying27 hi hz0 hz1 hz2 rfl (by decide) (.slice (some ⟨w1.heap.size, 0, none⟩) 0 0) 0 [] rfl (by exact HOWN.out) w1.heap.size none 0 c (([] : List HeaderD).flatMap headC) rfl (by exact (((HRA.out.more HB1.out.size).alloc (Nat.le_refl _) _).2)) (headC_one _) (by unfold maxLen; omega) (by omega) (by first | (simp; done) | (simp; omega)) ?_)
            intro v3 w3 hown hg hat
            clear hat
            (try simp only [Nat.zero_add, List.nil_append] at hown)
            obtain ⟨A3, c3, rfl, ho⟩ := OwnL.of_own (f := headC) (l := []) (n := 0) rfl hown
            have HO := Lib.hid ho
            have hgb : Below w1.heap.size w1 w3 := ((Below.refl _ _).alloc (Nat.le_refl _) _).grown hg (by first | (simp; done) | (simp; omega)) (fun k hk => by simp [Value.ownBlock] at hk; omega)
            have BR3 := BR1.below hgb BR1.lt
            have s3 := BR3.lt
            have s13 := hgb.size
            have HB3 := Lib.hid (HB1.out.trans (hgb.mono HB1.out.size))
            clear hown hg ho ta0 ta1 hgb
            have tr0 : w3.cell? ⟨w.heap.size + 1, 0, none⟩ = some (.slice none 0 0) := (Blk.cell BR3 0).trans rfl
            have tr1 : w3.cell? ⟨w.heap.size + 1, 1, none⟩ = some (.int .i64 0) := (Blk.cell BR3 1).trans rfl
            have fr := BR3.frozen
            have hne : (w.heap.size + 1 = w3.heap.size) = False := by simp; omega
            clear BR3
            go_wp2
            refine bodyPost_ret (v := .tuple #[.agg #[.slice A3 0 c3, .int .i64 0], .bool true]) (by simp [results, Tryd.results22, go_sem, tr0, tr1, s3]) rfl ?_
            rw [E1.out, E2.out, E3.out]
            refine ⟨A3, c3, rfl, ?_, ?_⟩
            · refine ((HO.out.chg (lo' := w.heap.size) (hi' := w.heap.size + 2) ?_ (.inr (by omega))).wide (by omega) (by simp))
              (repeat (first | with_reducible refine Chg.setCell ?_ (by first | exact Nat.le_refl _ | (simp; done) | (simp; omega)) (by first | (simp; done) | (simp; omega)) _ | with_reducible refine Chg.alloc ?_ _ | with_reducible refine Chg.drew ?_)); (with_reducible exact Chg.refl _ _ _)
            · (repeat (first | with_reducible refine Below.setCell ?_ (by first | exact Nat.le_refl _ | (simp; done) | (simp; omega)) _ | with_reducible refine Below.alloc ?_ (by first | exact Nat.le_refl _ | (simp; done) | (simp; omega)) _ | with_reducible refine Below.drew ?_)); (with_reducible exact HB3.out)
          | some a1 =>
            go_wp2_with (at_builtin; refine wpList_app_rd _ rfl _ _ _ rfl w1.heap.size 34 i0 _ 6 80 Tryd.underlying27 hi hz0 hz1 hz2 rfl (by decide) (.slice (some ⟨w1.heap.size, 0, none⟩) 0 0) 0 [] rfl (by exact HOWN.out) w1.heap.size (some a1) l.length c ((l.take l.length).flatMap headC) rfl (by exact ((((HRA.out.more HB1.out.size).take headC_len hml).alloc (Nat.le_refl _) _).2)) (headC_one _) (by unfold maxLen; omega) (by omega) (by first | (simp; done) | (simp; omega)) ?_)
            intro v3 w3 hown hg hat
            clear hat
            (try simp only [Nat.zero_add, List.nil_append] at hown)
            obtain ⟨A3, c3, rfl, ho⟩ := OwnL.of_own (f := headC) (l := l) (n := l.length) rfl hown
            have HO := Lib.hid ho
            have hgb : Below w1.heap.size w1 w3 := ((Below.refl _ _).alloc (Nat.le_refl _) _).grown hg (by first | (simp; done) | (simp; omega)) (fun k hk => by simp [Value.ownBlock] at hk; omega)
            have BR3 := BR1.below hgb BR1.lt
            have s3 := BR3.lt
            have s13 := hgb.size
            have HB3 := Lib.hid (HB1.out.trans (hgb.mono HB1.out.size))
            clear hown hg ho ta0 ta1 hgb
            have tr0 : w3.cell? ⟨w.heap.size + 1, 0, none⟩ = some (.slice none 0 0) := (Blk.cell BR3 0).trans rfl
            have tr1 : w3.cell? ⟨w.heap.size + 1, 1, none⟩ = some (.int .i64 0) := (Blk.cell BR3 1).trans rfl
            have fr := BR3.frozen
            have hne : (w.heap.size + 1 = w3.heap.size) = False := by simp; omega
            clear BR3
            go_wp2
            refine bodyPost_ret (v := .tuple #[.agg #[.slice A3 l.length c3, .int .i64 l.length], .bool true]) (by simp [results, Tryd.results22, go_sem, tr0, tr1, s3]) rfl ?_
            rw [E1.out, E2.out, List.take_length, E3.out]
            refine ⟨A3, c3, rfl, ?_, ?_⟩
            · refine ((HO.out.chg (lo' := w.heap.size) (hi' := w.heap.size + 2) ?_ (.inr (by omega))).wide (by omega) (by simp))
              (repeat (first | with_reducible refine Chg.setCell ?_ (by first | exact Nat.le_refl _ | (simp; done) | (simp; omega)) (by first | (simp; done) | (simp; omega)) _ | with_reducible refine Chg.alloc ?_ _ | with_reducible refine Chg.drew ?_)); (with_reducible exact Chg.refl _ _ _)
            · (repeat (first | with_reducible refine Below.setCell ?_ (by first | exact Nat.le_refl _ | (simp; done) | (simp; omega)) _ | with_reducible refine Below.alloc ?_ (by first | exact Nat.le_refl _ | (simp; done) | (simp; omega)) _ | with_reducible refine Below.drew ?_)); (with_reducible exact HB3.out)
end Go.Proofs.YtjdknaipmboekaaDoor
