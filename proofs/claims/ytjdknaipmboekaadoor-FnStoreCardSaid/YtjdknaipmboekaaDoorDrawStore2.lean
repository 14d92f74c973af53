/- DrawStoreAdd, DrawStorePrune, DrawStoreFall, DrawStoreGet. (written by wip/drawstore2.py) -/
import Derived.Test.YtjdknaipmboekaaDoorDrawStore
import Derived.WalkKit
import Derived.WalkSpells
import Derived.WalkLawsBesides
import Derived.Lib.Hide
namespace Go.Proofs.YtjdknaipmboekaaDoor
open Go.RowKit

def StAddDrew (w : World) (e : Ending) (w' : World) : Prop :=
  ∃ (y : Int) (l : List HeaderD) (B : Option Addr) (d : Nat) (p : HeaderD), e = .returned (.tuple #[.agg #[.slice B l.length d, .int .i64 y], .agg #[.int .i64 p.h, .int .i64 p.t, .string p.last, .string p.vals, .string p.next, .string p.data]]) ∧ OwnL headC 6 34 w' w.heap.size w'.heap.size B l.length d l ∧ l.length ≤ 21 ∧ Below w.heap.size w w'
def StIntDrew (w : World) (e : Ending) (w' : World) : Prop :=
  ∃ (y : Int) (l : List HeaderD) (B : Option Addr) (d : Nat) (k : Int), e = .returned (.tuple #[.agg #[.slice B l.length d, .int .i64 y], .int .i64 k]) ∧ OwnL headC 6 34 w' w.heap.size w'.heap.size B l.length d l ∧ l.length ≤ 21 ∧ Below w.heap.size w w'

set_option maxRecDepth 100000 in
set_option maxHeartbeats 4000000 in
theorem DrawStoreAdd_any (A : Option Addr) (n c : Nat) (l : List UInt8) (w : World) (hl : RdL octC 1 w w.heap.size A n c l) (hn : n ≤ 1048576) :
    Calls Tryd.prog 31 #[.slice A n c] w (StAddDrew w) := by
  have HL := Lib.hid hl
  clear hl
  go_enter Tryd.func31, Tryd.ntmps31
  go_wp2_with fail
  refine (l1New_any A n c l _ (by exact ((HL.out.alloc (Nat.le_refl _) _).alloc (by simp) _).more (by simp; omega)) hn).mono ?_
  rintro e w1 ⟨rfl, hu, hb⟩
  have hcb : ((w.alloc (.cells #[.slice none 0 0, .int .i64 0] 29)).alloc (.cells #[.int .i64 0, .int .i64 0, .string ⟨#[]⟩, .string ⟨#[]⟩, .string ⟨#[]⟩, .string ⟨#[]⟩] 34)).heap.size = w.heap.size + 2 := by simp
  have hs1 : w.heap.size + 2 ≤ w1.heap.size := by have := hb.size; simpa using this
  have HR1 : Hid (Blk w1 w.heap.size 29 #[.slice none 0 0, .int .i64 0]) := ((show Blk (w.alloc (.cells #[.slice none 0 0, .int .i64 0] 29)) w.heap.size 29 #[.slice none 0 0, .int .i64 0] from heap_alloc_new w _).alloc _).below hb (by simp; omega)
  have HM1 : Hid (Blk w1 (w.heap.size + 1) 34 #[.int .i64 0, .int .i64 0, .string ⟨#[]⟩, .string ⟨#[]⟩, .string ⟨#[]⟩, .string ⟨#[]⟩]) := by
    have h := heap_alloc_new (w.alloc (.cells #[.slice none 0 0, .int .i64 0] 29)) (.cells #[.int .i64 0, .int .i64 0, .string ⟨#[]⟩, .string ⟨#[]⟩, .string ⟨#[]⟩, .string ⟨#[]⟩] 34)
    rw [World.size_alloc] at h
    exact (show Blk _ _ _ _ from h).below hb (by simp)
  have HB1 : Hid (Below w.heap.size w w1) := (((Below.refl _ _).alloc (Nat.le_refl _) _).alloc (by simp) _).trans (hb.mono (by simp; omega))
  have hu' : Cur w1 (w.heap.size + 2) A n c := by rw [← hcb]; exact hu
  have HU1 := Lib.hid hu'
  have hlt1 := hu'.lt
  rw [hcb]
  clear hb hu hu' hcb
  go_wp2_with fail
  refine (l1SizeS_any A n c 16 _ hn (by decide)).mono ?_
  rintro e w' ⟨m0, rfl, hm0, hm1, rfl⟩
  go_wp2_with fail
  refine (l15Some_any (w.heap.size + 2) A n c m0 _ HU1.out (by omega)).mono ?_
  rintro e w2 ⟨y, l0, B, d, rfl, ho, hll, hsm, hg, hu⟩
  have hs2 : w1.heap.size ≤ w2.heap.size := hg.size
  have HR2 := Lib.hid (show Blk w2 w.heap.size _ _ from (hg.block _ HR1.out.lt (.inl (by omega))).trans HR1.out)
  have HM2 := Lib.hid (show Blk w2 (w.heap.size + 1) _ _ from (hg.block _ HM1.out.lt (.inl (by omega))).trans HM1.out)
  have HB2 : Hid (Below w.heap.size w w2) := HB1.out.trans (hg.below (by omega) (by omega))
  have HU2 := Lib.hid hu
  have HO2 := Lib.hid (ho.wide (lo' := w.heap.size + 2 + 1) (hi' := w2.heap.size) (by omega) (Nat.le_refl _))
  have HSM := Lib.hid hsm
  clear hg hu ho hsm HR1 HM1 HB1 HU1
  go_upto_region 3 with fail
  obtain ⟨w3, hw3⟩ : ∃ q, q = w2.alloc (.cells #[.slice B l0.length d, .int .i64 y] 29) := ⟨_, rfl⟩
  rw [← hw3]
  have HX3 : Hid (Blk w3 w2.heap.size 29 #[.slice B l0.length d, .int .i64 y]) := Lib.hid (by rw [hw3]; exact heap_alloc_new w2 _)
  have hb3 : Below w2.heap.size w2 w3 := by rw [hw3]; exact (Below.refl _ _).alloc (Nat.le_refl _) _
  have HR3 := Lib.hid (HR2.out.below hb3 (by omega))
  have HM3 := Lib.hid (HM2.out.below hb3 (by omega))
  have HB3 := Lib.hid (HB2.out.trans (hb3.mono (by omega)))
  have HU3 : Hid (Cur w3 (w.heap.size + 2) A n c) := HU2.out.below hb3 (by omega) (Nat.le_refl _)
  have HO3 := Lib.hid (HO2.out.below hb3 (Nat.le_refl _))
  have hs3 := HX3.out.lt
  clear hw3 hb3 HR2 HM2 HB2 HU2 HO2
  have tg := HX3.out.cell
  have HOW : Hid (OwnL headC 6 34 w3.drew (w.heap.size + 2 + 1) w3.drew.heap.size B l0.length d l0) := Lib.hid ((HO3.out.chg ((Chg.refl 0 0 _).drew) (.inr (Nat.zero_le _))).wide (Nat.le_refl _) (by show _ ≤ w3.heap.size; omega))
  have HT := Lib.hid (l15Behind_any (w.heap.size + 2) A n c y B d l0 (w.heap.size + 2 + 1) w3.drew HU3.out.drew HOW.out (by omega) HSM.out (by omega))
  clear HOW
  go_region_with (go_at_call 52; (with_reducible refine HT.out.mono ?_); rintro e w4 ⟨v, rfl, ⟨p, rfl, hp⟩, hg, hu⟩; have hg : Chg (w.heap.size + 2) (w.heap.size + 2 + 1) w3 w4 := ⟨hg.os, hg.tape, hg.output, hg.size, hg.block⟩; have tg4 := (show Blk w4 w2.heap.size _ _ from (hg.block _ hs3 (.inr (by omega))).trans HX3.out).cell; have HR4 := Lib.hid (show Blk w4 w.heap.size _ _ from (hg.block _ HR3.out.lt (.inl (by omega))).trans HR3.out); have rg := HR4.out.cell; have rf := HR4.out.frozen; have HM4 := Lib.hid (show Blk w4 (w.heap.size + 1) _ _ from (hg.block _ HM3.out.lt (.inl (by omega))).trans HM3.out); have mg := HM4.out.cell; have mf := HM4.out.frozen; have HB4 : Hid (Below w.heap.size w w4) := HB3.out.trans (hg.below (by omega) (by omega)); have HO4 := Lib.hid (HO3.out.chg hg (.inr (by omega))); have hs4 := hg.size; clear hg hu)
  all_goals
    go_wp2_with fail
    refine bodyPost_ret (v := .tuple #[.agg #[.slice B l0.length d, .int .i64 y], .agg #[.int .i64 p.h, .int .i64 p.t, .string p.last, .string p.vals, .string p.next, .string p.data]]) (by simp [results, Tryd.results31, go_sem, rg, mg]) rfl ⟨y, l0, B, d, p, rfl, ?_, hll, ?_⟩
    · refine OwnL.wide (HO4.out.chg (lo' := w.heap.size) (hi' := w.heap.size + 2) ?_ (.inr (by omega))) (by omega) ?_
      · (repeat (first | with_reducible refine Chg.setCell ?_ (by first | exact Nat.le_refl _ | (simp; done) | (simp; omega)) (by first | (simp; done) | (simp; omega)) _ | with_reducible refine Chg.alloc ?_ _ | with_reducible refine Chg.drew ?_)); (with_reducible exact Chg.refl _ _ _)
      · first | omega | (simp only [World.size_setCell]; omega) | (simp; omega)
    · (repeat (first | with_reducible refine Below.setCell ?_ (by first | exact Nat.le_refl _ | (simp; done) | (simp; omega)) _ | with_reducible refine Below.alloc ?_ (by first | exact Nat.le_refl _ | (simp; done) | (simp; omega)) _ | with_reducible refine Below.drew ?_)); (with_reducible exact HB4.out)

set_option maxRecDepth 100000 in
set_option maxHeartbeats 4000000 in
theorem DrawStorePrune_any (A : Option Addr) (n c : Nat) (l : List UInt8) (w : World) (hl : RdL octC 1 w w.heap.size A n c l) (hn : n ≤ 1048576) :
    Calls Tryd.prog 32 #[.slice A n c] w (StIntDrew w) := by
  have HL := Lib.hid hl
  clear hl
  go_enter Tryd.func32, Tryd.ntmps32
  go_wp2_with fail
  refine (l1New_any A n c l _ (by exact (HL.out.alloc (Nat.le_refl _) _).more (by simp)) hn).mono ?_
  rintro e w1 ⟨rfl, hu, hb⟩
  have hcb : (w.alloc (.cells #[.slice none 0 0, .int .i64 0] 29)).heap.size = w.heap.size + 1 := by simp
  have hs1 : w.heap.size + 1 ≤ w1.heap.size := by have := hb.size; simpa using this
  have HR1 : Hid (Blk w1 w.heap.size 29 #[.slice none 0 0, .int .i64 0]) := (show Blk (w.alloc (.cells #[.slice none 0 0, .int .i64 0] 29)) w.heap.size 29 #[.slice none 0 0, .int .i64 0] from heap_alloc_new w _).below hb (by simp)
  have HB1 : Hid (Below w.heap.size w w1) := ((Below.refl _ _).alloc (Nat.le_refl _) _).trans (hb.mono (by simp))
  have hu' : Cur w1 (w.heap.size + 1) A n c := by rw [← hcb]; exact hu
  have HU1 := Lib.hid hu'
  have hlt1 := hu'.lt
  rw [hcb]
  clear hb hu hu' hcb
  go_wp2_with fail
  refine (l1SizeS_any A n c 16 _ hn (by decide)).mono ?_
  rintro e w' ⟨m0, rfl, hm0, hm1, rfl⟩
  go_wp2_with fail
  refine (l15Some_any (w.heap.size + 1) A n c m0 _ HU1.out (by omega)).mono ?_
  rintro e w2 ⟨y, l0, B, d, rfl, ho, hll, hsm, hg, hu⟩
  have hs2 : w1.heap.size ≤ w2.heap.size := hg.size
  have HR2 := Lib.hid (show Blk w2 w.heap.size _ _ from (hg.block _ HR1.out.lt (.inl (by omega))).trans HR1.out)
  have HB2 : Hid (Below w.heap.size w w2) := HB1.out.trans (hg.below (by omega) (by omega))
  have HU2 := Lib.hid hu
  have HO2 := Lib.hid (ho.wide (lo' := w.heap.size + 1 + 1) (hi' := w2.heap.size) (by omega) (Nat.le_refl _))
  have HSM := Lib.hid hsm
  clear hg hu ho hsm HR1 HB1 HU1
  go_upto_region 3 with fail
  obtain ⟨w3, hw3⟩ : ∃ q, q = w2.alloc (.cells #[.slice B l0.length d, .int .i64 y] 29) := ⟨_, rfl⟩
  rw [← hw3]
  have HX3 : Hid (Blk w3 w2.heap.size 29 #[.slice B l0.length d, .int .i64 y]) := Lib.hid (by rw [hw3]; exact heap_alloc_new w2 _)
  have hb3 : Below w2.heap.size w2 w3 := by rw [hw3]; exact (Below.refl _ _).alloc (Nat.le_refl _) _
  have HR3 := Lib.hid (HR2.out.below hb3 (by omega))
  have HB3 := Lib.hid (HB2.out.trans (hb3.mono (by omega)))
  have HU3 : Hid (Cur w3 (w.heap.size + 1) A n c) := HU2.out.below hb3 (by omega) (Nat.le_refl _)
  have HO3 := Lib.hid (HO2.out.below hb3 (Nat.le_refl _))
  have hs3 := HX3.out.lt
  clear hw3 hb3 HR2 HB2 HU2 HO2
  have tg := HX3.out.cell
  go_region_with (go_at_call 53; (with_reducible refine (l1Below_any (w.heap.size + 1) A n c 9 _ (by exact HU3.out.drew) (by omega)).mono ?_); rintro e w4 ⟨v, rfl, ⟨x, rfl, _, _⟩, hg, hu⟩; have hg : Chg (w.heap.size + 1) (w.heap.size + 1 + 1) w3 w4 := ⟨hg.os, hg.tape, hg.output, hg.size, hg.block⟩; have tg4 := (show Blk w4 w2.heap.size _ _ from (hg.block _ hs3 (.inr (by omega))).trans HX3.out).cell; have HR4 := Lib.hid (show Blk w4 w.heap.size _ _ from (hg.block _ HR3.out.lt (.inl (by omega))).trans HR3.out); have rg := HR4.out.cell; have rf := HR4.out.frozen; have HB4 : Hid (Below w.heap.size w w4) := HB3.out.trans (hg.below (by omega) (by omega)); have HO4 := Lib.hid (HO3.out.chg hg (.inr (by omega))); have hs4 := hg.size; clear hg hu)
  all_goals
    go_wp2_with fail
    refine bodyPost_ret (v := .tuple #[.agg #[.slice B l0.length d, .int .i64 y], .int .i64 (IntKind.i64.wrap (x - 1))]) (by simp [results, Tryd.results32, go_sem, rg]) rfl ⟨y, l0, B, d, _, rfl, ?_, hll, ?_⟩
    · refine OwnL.wide (HO4.out.chg (lo' := w.heap.size) (hi' := w.heap.size + 1) ?_ (.inr (by omega))) (by omega) ?_
      · (repeat (first | with_reducible refine Chg.setCell ?_ (by first | exact Nat.le_refl _ | (simp; done) | (simp; omega)) (by first | (simp; done) | (simp; omega)) _ | with_reducible refine Chg.alloc ?_ _ | with_reducible refine Chg.drew ?_)); (with_reducible exact Chg.refl _ _ _)
      · first | omega | (simp only [World.size_setCell]; omega) | (simp; omega)
    · (repeat (first | with_reducible refine Below.setCell ?_ (by first | exact Nat.le_refl _ | (simp; done) | (simp; omega)) _ | with_reducible refine Below.alloc ?_ (by first | exact Nat.le_refl _ | (simp; done) | (simp; omega)) _ | with_reducible refine Below.drew ?_)); (with_reducible exact HB4.out)

set_option maxRecDepth 100000 in
set_option maxHeartbeats 4000000 in
theorem DrawStoreFall_any (A : Option Addr) (n c : Nat) (l : List UInt8) (w : World) (hl : RdL octC 1 w w.heap.size A n c l) (hn : n ≤ 1048576) :
    Calls Tryd.prog 33 #[.slice A n c] w (StIntDrew w) := by
  have HL := Lib.hid hl
  clear hl
  go_enter Tryd.func33, Tryd.ntmps33
  go_wp2_with fail
  refine (l1New_any A n c l _ (by exact (HL.out.alloc (Nat.le_refl _) _).more (by simp)) hn).mono ?_
  rintro e w1 ⟨rfl, hu, hb⟩
  have hcb : (w.alloc (.cells #[.slice none 0 0, .int .i64 0] 29)).heap.size = w.heap.size + 1 := by simp
  have hs1 : w.heap.size + 1 ≤ w1.heap.size := by have := hb.size; simpa using this
  have HR1 : Hid (Blk w1 w.heap.size 29 #[.slice none 0 0, .int .i64 0]) := (show Blk (w.alloc (.cells #[.slice none 0 0, .int .i64 0] 29)) w.heap.size 29 #[.slice none 0 0, .int .i64 0] from heap_alloc_new w _).below hb (by simp)
  have HB1 : Hid (Below w.heap.size w w1) := ((Below.refl _ _).alloc (Nat.le_refl _) _).trans (hb.mono (by simp))
  have hu' : Cur w1 (w.heap.size + 1) A n c := by rw [← hcb]; exact hu
  have HU1 := Lib.hid hu'
  have hlt1 := hu'.lt
  rw [hcb]
  clear hb hu hu' hcb
  go_wp2_with fail
  refine (l1SizeS_any A n c 16 _ hn (by decide)).mono ?_
  rintro e w' ⟨m0, rfl, hm0, hm1, rfl⟩
  go_wp2_with fail
  refine (l15Some_any (w.heap.size + 1) A n c m0 _ HU1.out (by omega)).mono ?_
  rintro e w2 ⟨y, l0, B, d, rfl, ho, hll, hsm, hg, hu⟩
  have hs2 : w1.heap.size ≤ w2.heap.size := hg.size
  have HR2 := Lib.hid (show Blk w2 w.heap.size _ _ from (hg.block _ HR1.out.lt (.inl (by omega))).trans HR1.out)
  have HB2 : Hid (Below w.heap.size w w2) := HB1.out.trans (hg.below (by omega) (by omega))
  have HU2 := Lib.hid hu
  have HO2 := Lib.hid (ho.wide (lo' := w.heap.size + 1 + 1) (hi' := w2.heap.size) (by omega) (Nat.le_refl _))
  have HSM := Lib.hid hsm
  clear hg hu ho hsm HR1 HB1 HU1
  go_upto_region 3 with fail
  obtain ⟨w3, hw3⟩ : ∃ q, q = w2.alloc (.cells #[.slice B l0.length d, .int .i64 y] 29) := ⟨_, rfl⟩
  rw [← hw3]
  have HX3 : Hid (Blk w3 w2.heap.size 29 #[.slice B l0.length d, .int .i64 y]) := Lib.hid (by rw [hw3]; exact heap_alloc_new w2 _)
  have hb3 : Below w2.heap.size w2 w3 := by rw [hw3]; exact (Below.refl _ _).alloc (Nat.le_refl _) _
  have HR3 := Lib.hid (HR2.out.below hb3 (by omega))
  have HB3 := Lib.hid (HB2.out.trans (hb3.mono (by omega)))
  have HU3 : Hid (Cur w3 (w.heap.size + 1) A n c) := HU2.out.below hb3 (by omega) (Nat.le_refl _)
  have HO3 := Lib.hid (HO2.out.below hb3 (Nat.le_refl _))
  have hs3 := HX3.out.lt
  clear hw3 hb3 HR2 HB2 HU2 HO2
  have tg := HX3.out.cell
  go_region_with (go_at_call 53; (with_reducible refine (l1Below_any (w.heap.size + 1) A n c 7 _ (by exact HU3.out.drew) (by omega)).mono ?_); rintro e w4 ⟨v, rfl, ⟨x, rfl, _, _⟩, hg, hu⟩; have hg : Chg (w.heap.size + 1) (w.heap.size + 1 + 1) w3 w4 := ⟨hg.os, hg.tape, hg.output, hg.size, hg.block⟩; have tg4 := (show Blk w4 w2.heap.size _ _ from (hg.block _ hs3 (.inr (by omega))).trans HX3.out).cell; have HR4 := Lib.hid (show Blk w4 w.heap.size _ _ from (hg.block _ HR3.out.lt (.inl (by omega))).trans HR3.out); have rg := HR4.out.cell; have rf := HR4.out.frozen; have HB4 : Hid (Below w.heap.size w w4) := HB3.out.trans (hg.below (by omega) (by omega)); have HO4 := Lib.hid (HO3.out.chg hg (.inr (by omega))); have hs4 := hg.size; clear hg hu)
  all_goals
    go_wp2_with fail
    refine bodyPost_ret (v := .tuple #[.agg #[.slice B l0.length d, .int .i64 y], .int .i64 (IntKind.i64.wrap (x - 1))]) (by simp [results, Tryd.results33, go_sem, rg]) rfl ⟨y, l0, B, d, _, rfl, ?_, hll, ?_⟩
    · refine OwnL.wide (HO4.out.chg (lo' := w.heap.size) (hi' := w.heap.size + 1) ?_ (.inr (by omega))) (by omega) ?_
      · (repeat (first | with_reducible refine Chg.setCell ?_ (by first | exact Nat.le_refl _ | (simp; done) | (simp; omega)) (by first | (simp; done) | (simp; omega)) _ | with_reducible refine Chg.alloc ?_ _ | with_reducible refine Chg.drew ?_)); (with_reducible exact Chg.refl _ _ _)
      · first | omega | (simp only [World.size_setCell]; omega) | (simp; omega)
    · (repeat (first | with_reducible refine Below.setCell ?_ (by first | exact Nat.le_refl _ | (simp; done) | (simp; omega)) _ | with_reducible refine Below.alloc ?_ (by first | exact Nat.le_refl _ | (simp; done) | (simp; omega)) _ | with_reducible refine Below.drew ?_)); (with_reducible exact HB4.out)

set_option maxRecDepth 100000 in
set_option maxHeartbeats 4000000 in
theorem DrawStoreGet_any (A : Option Addr) (n c : Nat) (l : List UInt8) (w : World) (hl : RdL octC 1 w w.heap.size A n c l) (hn : n ≤ 1048576) :
    Calls Tryd.prog 35 #[.slice A n c] w (StIntDrew w) := by
  have HL := Lib.hid hl
  clear hl
  go_enter Tryd.func35, Tryd.ntmps35
  go_wp2_with fail
  refine (l1New_any A n c l _ (by exact (HL.out.alloc (Nat.le_refl _) _).more (by simp)) hn).mono ?_
  rintro e w1 ⟨rfl, hu, hb⟩
  have hcb : (w.alloc (.cells #[.slice none 0 0, .int .i64 0] 29)).heap.size = w.heap.size + 1 := by simp
  have hs1 : w.heap.size + 1 ≤ w1.heap.size := by have := hb.size; simpa using this
  have HR1 : Hid (Blk w1 w.heap.size 29 #[.slice none 0 0, .int .i64 0]) := (show Blk (w.alloc (.cells #[.slice none 0 0, .int .i64 0] 29)) w.heap.size 29 #[.slice none 0 0, .int .i64 0] from heap_alloc_new w _).below hb (by simp)
  have HB1 : Hid (Below w.heap.size w w1) := ((Below.refl _ _).alloc (Nat.le_refl _) _).trans (hb.mono (by simp))
  have hu' : Cur w1 (w.heap.size + 1) A n c := by rw [← hcb]; exact hu
  have HU1 := Lib.hid hu'
  have hlt1 := hu'.lt
  rw [hcb]
  clear hb hu hu' hcb
  go_wp2_with fail
  refine (l1SizeS_any A n c 16 _ hn (by decide)).mono ?_
  rintro e w' ⟨m0, rfl, hm0, hm1, rfl⟩
  go_wp2_with fail
  refine (l15Some_any (w.heap.size + 1) A n c m0 _ HU1.out (by omega)).mono ?_
  rintro e w2 ⟨y, l0, B, d, rfl, ho, hll, hsm, hg, hu⟩
  have hs2 : w1.heap.size ≤ w2.heap.size := hg.size
  have HR2 := Lib.hid (show Blk w2 w.heap.size _ _ from (hg.block _ HR1.out.lt (.inl (by omega))).trans HR1.out)
  have HB2 : Hid (Below w.heap.size w w2) := HB1.out.trans (hg.below (by omega) (by omega))
  have HU2 := Lib.hid hu
  have HO2 := Lib.hid (ho.wide (lo' := w.heap.size + 1 + 1) (hi' := w2.heap.size) (by omega) (Nat.le_refl _))
  have HSM := Lib.hid hsm
  clear hg hu ho hsm HR1 HB1 HU1
  go_upto_region 3 with fail
  obtain ⟨w3, hw3⟩ : ∃ q, q = w2.alloc (.cells #[.slice B l0.length d, .int .i64 y] 29) := ⟨_, rfl⟩
  rw [← hw3]
  have HX3 : Hid (Blk w3 w2.heap.size 29 #[.slice B l0.length d, .int .i64 y]) := Lib.hid (by rw [hw3]; exact heap_alloc_new w2 _)
  have hb3 : Below w2.heap.size w2 w3 := by rw [hw3]; exact (Below.refl _ _).alloc (Nat.le_refl _) _
  have HR3 := Lib.hid (HR2.out.below hb3 (by omega))
  have HB3 := Lib.hid (HB2.out.trans (hb3.mono (by omega)))
  have HU3 : Hid (Cur w3 (w.heap.size + 1) A n c) := HU2.out.below hb3 (by omega) (Nat.le_refl _)
  have HO3 := Lib.hid (HO2.out.below hb3 (Nat.le_refl _))
  have hs3 := HX3.out.lt
  clear hw3 hb3 HR2 HB2 HU2 HO2
  have tg := HX3.out.cell
  go_region_with (go_at_call 53; (with_reducible refine (l1Below_any (w.heap.size + 1) A n c 12 _ (by exact HU3.out.drew) (by omega)).mono ?_); rintro e w4 ⟨v, rfl, ⟨x, rfl, _, _⟩, hg, hu⟩; have hg : Chg (w.heap.size + 1) (w.heap.size + 1 + 1) w3 w4 := ⟨hg.os, hg.tape, hg.output, hg.size, hg.block⟩; have tg4 := (show Blk w4 w2.heap.size _ _ from (hg.block _ hs3 (.inr (by omega))).trans HX3.out).cell; have HR4 := Lib.hid (show Blk w4 w.heap.size _ _ from (hg.block _ HR3.out.lt (.inl (by omega))).trans HR3.out); have rg := HR4.out.cell; have rf := HR4.out.frozen; have HB4 : Hid (Below w.heap.size w w4) := HB3.out.trans (hg.below (by omega) (by omega)); have HO4 := Lib.hid (HO3.out.chg hg (.inr (by omega))); have hs4 := hg.size; clear hg hu)
  all_goals
    go_wp2_with fail
    refine bodyPost_ret (v := .tuple #[.agg #[.slice B l0.length d, .int .i64 y], .int .i64 x]) (by simp [results, Tryd.results35, go_sem, rg]) rfl ⟨y, l0, B, d, _, rfl, ?_, hll, ?_⟩
    · refine OwnL.wide (HO4.out.chg (lo' := w.heap.size) (hi' := w.heap.size + 1) ?_ (.inr (by omega))) (by omega) ?_
      · (repeat (first | with_reducible refine Chg.setCell ?_ (by first | exact Nat.le_refl _ | (simp; done) | (simp; omega)) (by first | (simp; done) | (simp; omega)) _ | with_reducible refine Chg.alloc ?_ _ | with_reducible refine Chg.drew ?_)); (with_reducible exact Chg.refl _ _ _)
      · first | omega | (simp only [World.size_setCell]; omega) | (simp; omega)
    · (repeat (first | with_reducible refine Below.setCell ?_ (by first | exact Nat.le_refl _ | (simp; done) | (simp; omega)) _ | with_reducible refine Below.alloc ?_ (by first | exact Nat.le_refl _ | (simp; done) | (simp; omega)) _ | with_reducible refine Below.drew ?_)); (with_reducible exact HB4.out)
end Go.Proofs.YtjdknaipmboekaaDoor
