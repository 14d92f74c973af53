/- NetNew, Held2: joined into one text. -/
import Derived.Deep.DeepMust
import Derived.WalkKit
import Derived.WalkSpells
import Derived.WalkLawsBesides
import Derived.Lib.Hide
import Derived.Test.YtjgaelnonacdkaaMNodesMk
import Derived.Test.YtjgaelnonacdkaaG08
import Derived.Test.YtjgaelnonacdkaaG16
namespace Go.Proofs.Ytjgaelnonacdkaa
open Go.RowKit

def newS (me : Int) : NodeS := ⟨me, -1, 1, 0, -1, 0, -1, -1, 0⟩
def newV (me : Int) : NodeV := ⟨newS me, none, 0, 0⟩
def newL (j : Nat) : List NodeV := (List.range j).map fun (i : Nat) => newV ((i : Int) + 1)
def newN : List NodeD := [⟨newS 1, []⟩, ⟨newS 2, []⟩, ⟨newS 3, []⟩]
theorem newL_next (j : Nat) : newL (j + 1) = newL j ++ [newV ((j : Int) + 1)] := by unfold newL; rw [List.range_succ, List.map_append]; rfl
theorem newL_three : newL 3 = [newV 1, newV 2, newV 3] := rfl
theorem newL_len (j : Nat) : (newL j).length = j := by simp [newL]
theorem newL_own {w : World} {lo hi : Nat} {A : Option Addr} {c : Nat} (h : OwnL nodeC 10 79 w lo hi A 3 c (newL 3)) : NodesOwn w lo hi A 3 c newN := by
  refine ⟨newL 3, h, rfl, fun i v hv => ?_, fun i j vi vj g hi' _ ei => ?_⟩
  · have hi' : i < 3 := (List.getElem?_eq_some_iff.1 hv).1
    rw [newL_three] at hv
    rcases (by omega : i = 0 ∨ i = 1 ∨ i = 2) with rfl | rfl | rfl <;> (simp at hv; subst hv; exact ⟨_, rfl, rfl, rfl, .inl ⟨rfl, rfl, rfl⟩⟩)
  · have hi2 : i < 3 := (List.getElem?_eq_some_iff.1 hi').1
    rw [newL_three] at hi'
    rcases (by omega : i = 0 ∨ i = 1 ∨ i = 2) with rfl | rfl | rfl <;> (simp at hi'; subst hi'; simp [newV] at ei)
theorem Rd_one (w : World) (cs : Array Value) (t : TypeId) (size : Nat) (h : cs.size = size) (g : Nat) (hg : g = w.heap.size) : Rd (w.alloc (.cells cs t)) (w.heap.size + 1) (some ⟨g, 0, none⟩) 1 1 size cs.toList := by
  subst hg
  refine ⟨by simp [h], Nat.le_refl _, by unfold maxLen; omega, fun _ => ⟨w.heap.size, 0, rfl, by omega, fun j hj => ?_⟩⟩
  have hb : Blk (w.alloc (.cells cs t)) w.heap.size t cs := heap_alloc_new w _
  rw [hb.cell, Nat.zero_add]; simp
theorem infoNode' : (Try.prog.info? 79).map (fun i => (i.zero, i.size, i.bytes)) = some (some (.agg #[.int .i64 0, .int .i64 0, .int .i64 0, .int .i64 0, .int .i64 0, .int .i64 0, .int .i64 0, .int .i64 0, .int .i64 0, .slice none 0 0]), 10, 96) := by kernel_rfl

set_option maxRecDepth 100000 in
set_option maxHeartbeats 2000000 in
theorem NetNew_any (w : World) : Calls Try.prog 34 #[] w fun e w' => ∃ A c, e = .returned (.agg #[.slice A 3 c, .slice none 0 0]) ∧ NodesOwn w' w.heap.size w'.heap.size A 3 c newN ∧ Below w.heap.size w w' := by
  obtain ⟨i0, hi, hz0, hz1, hz2⟩ := info_parts infoNode'
  go_enter Try.func34, Try.ntmps34
  go_wp2_with fail
  go_loopw [2] (fun i wr => ∃ (j : Nat) (A : Option Addr) (c : Nat), j ≤ 3 ∧ i = .int .i64 ((j : Int) + 1) ∧ w.heap.size + 2 ≤ wr.heap.size ∧ OwnL nodeC 10 79 wr (w.heap.size + 2) wr.heap.size A j c (newL j) ∧
      wr.cell? ⟨w.heap.size + 1, 0, none⟩ = some (.slice A j c) ∧ wr.cell? ⟨w.heap.size + 1, 1, none⟩ = some (.slice none 0 0) ∧ wr.cell? ⟨w.heap.size, 0, none⟩ = some (.slice none 0 0) ∧ wr.cell? ⟨w.heap.size, 1, none⟩ = some (.slice none 0 0) ∧
      (∀ o, wr.frozen? ⟨w.heap.size + 1, o, none⟩ = false) ∧ (∀ o, wr.frozen? ⟨w.heap.size, o, none⟩ = false) ∧ Below w.heap.size w wr) (fun i _ => 4 - (intOf i).toNat)
  case atStart => exact ⟨0, none, 0, by omega, rfl, by simp, ⟨rfl, .inl ⟨rfl, rfl, rfl⟩⟩, by simp, by simp, by simp, by simp, fun o => by simp, fun o => by simp, (by repeat (first | exact Below.refl _ _ | assumption | refine Below.drew ?_ | refine belN ?_ _ | refine Below.alloc ?_ (by first | exact Nat.le_refl _ | (simp; done) | (simp; omega) | omega) _ | refine Below.setCell ?_ (by first | exact Nat.le_refl _ | (simp; done) | (simp; omega) | omega) _ | refine Below.trans ?_ (Below.mono (by assumption) (by first | exact Nat.le_refl _ | (simp; done) | (simp; omega) | omega))))⟩
  case round =>
    obtain ⟨j, A, c, hj, rfl, hsz, hown, x0, x1, r0, r1, fx, fr, hb⟩ := hrel
    have HO := Lib.hid hown
    have HB := Lib.hid hb
    clear hown hb
    have hp0 : w.heap.size < wr.heap.size := by omega
    have hp1 : w.heap.size + 1 < wr.heap.size := by omega
    by_cases hj3 : j < 3
    · have hin : inB ((j : Int) + 1) 1 4 = true := by rw [inB_iff]; omega
      go_wp2_with fail
      refine (NodeNew_yes ((j : Int) + 1) _ hin).mono ?_
      rintro e w1 ⟨rfl, hb⟩
      obtain ⟨hc, hf, hz⟩ := bcell hb
      have kx0 := (hc _ 0 hp1).trans x0
      have kx1 := (hc _ 1 hp1).trans x1
      have kr0 := (hc _ 0 hp0).trans r0
      have kr1 := (hc _ 1 hp0).trans r1
      have kfx : ∀ o, w1.frozen? ⟨w.heap.size + 1, o, none⟩ = false := fun o => (hf _ o hp1).trans (fx o)
      have kfr : ∀ o, w1.frozen? ⟨w.heap.size, o, none⟩ = false := fun o => (hf _ o hp0).trans (fr o)
      have hq0 : w.heap.size < w1.heap.size := by omega
      have hq1 : w.heap.size + 1 < w1.heap.size := by omega
      have HO1 := Lib.hid (HO.out.below hb (Nat.le_refl _))
      have HB1 := Lib.hid (HB.out.trans (hb.mono (by omega)))
      have hz1' : wr.heap.size ≤ w1.heap.size := hz
      clear hc hf hz hb x0 x1 r0 r1 fx fr
      go_wp2_with (at_builtin; go_must (refine wpList_app_rd _ rfl _ _ _ rfl (w.heap.size + 2) 79 i0 _ 10 96 Try.underlying24 hi hz0 hz1 hz2 rfl (by decide) (.slice A j c) j ((newL j).flatMap nodeC) rfl (by exact ((HO1.out.owns nodeC_len).alloc _).alloc _) _ _ 1 1 _ rfl (by exact (Rd_one _ #[.int .i64 ((j : Int) + 1), .int .i64 (-1), .int .i64 1, .int .i64 0, .int .i64 (-1), .int .i64 0, .int .i64 (-1), .int .i64 (-1), .int .i64 0, .slice none 0 0] 79 10 rfl _ (by simp))) (by simp [Value.oneCell']) (by unfold maxLen; omega) (by omega) (by first | with_reducible exact Nat.le_refl _ | (simp; done) | omega | (simp; omega)) ?_))
      intro v5 w5 hown hg hat
      clear hat
      have hown : w5.ownsRow (w.heap.size + 2) 79 10 v5 (j + 1) ((newL (j + 1)).flatMap nodeC) := by rw [newL_next, List.flatMap_append]; exact hown
      obtain ⟨A3, c3, rfl, ho⟩ := OwnL.of_own (l := newL (j + 1)) (n := j + 1) (by simp [newL]) hown
      have C5 := Lib.hid ((((Chg.refl (w.heap.size + 2) wr.heap.size w1).alloc _).alloc _).trans (grown_chg (lo := w.heap.size + 2) (hi := wr.heap.size) hg (fun g e => HO.out.block g e)))
      have HO5 := Lib.hid ho
      clear hown ho hg
      have hs5 : w1.heap.size ≤ w5.heap.size := C5.out.size
      have yx0 := (C5.out.cell hq1 (.inl (by omega))).trans kx0
      have yx1 := (C5.out.cell hq1 (.inl (by omega))).trans kx1
      have yr0 := (C5.out.cell hq0 (.inl (by omega))).trans kr0
      have yr1 := (C5.out.cell hq0 (.inl (by omega))).trans kr1
      have yfx : ∀ o, w5.frozen? ⟨w.heap.size + 1, o, none⟩ = false := fun o => (C5.out.frozen hq1 (.inl (by omega))).trans (kfx o)
      have yfr : ∀ o, w5.frozen? ⟨w.heap.size, o, none⟩ = false := fun o => (C5.out.frozen hq0 (.inl (by omega))).trans (kfr o)
      have HB5 := Lib.hid (HB1.out.trans (C5.out.below (by omega) (by omega)))
      clear C5 kx0 kx1 kr0 kr1 kfx kfr
      have hne : w.heap.size ≠ w.heap.size + 1 := by omega
      go_wp2
      go_roundw
      case rel =>
        have D : Chg (w.heap.size + 1) (w.heap.size + 1 + 1) w5 (w5.setCell ⟨w.heap.size + 1, 0, none⟩ (.slice A3 (j + 1) c3)) := Chg.setCell (p := ⟨w.heap.size + 1, 0, none⟩) (Chg.refl _ _ w5) (Nat.le_refl _) (Nat.lt_succ_self _) _
        have hw0 : w.heap.size < w5.heap.size := by omega
        have e0 : (w5.setCell ⟨w.heap.size + 1, 0, none⟩ (.slice A3 (j + 1) c3)).cell? ⟨w.heap.size + 1, 0, none⟩ = some (.slice A3 (j + 1) c3) := by simp [go_sem, yx0]
        have e1 : (w5.setCell ⟨w.heap.size + 1, 0, none⟩ (.slice A3 (j + 1) c3)).cell? ⟨w.heap.size + 1, 1, none⟩ = some (.slice none 0 0) := by simp [go_sem, yx1]
        have e2 : ∀ o, (w5.setCell ⟨w.heap.size + 1, 0, none⟩ (.slice A3 (j + 1) c3)).frozen? ⟨w.heap.size + 1, o, none⟩ = false := fun o => by simp [go_sem, yfx]
        refine ⟨j + 1, A3, c3, by omega, by go_num, by simp; omega, (HO5.out.chg D (.inr (Nat.le_refl _))).wide (Nat.le_refl _) D.size, e0, e1, (D.cell hw0 (.inl (by omega))).trans yr0, (D.cell hw0 (.inl (by omega))).trans yr1, e2, fun o => (D.frozen hw0 (.inl (by omega))).trans (yfr o), HB5.out.setCell (by show w.heap.size ≤ w.heap.size + 1; omega) _⟩
      case measure => simp [intOf]; omega
    · obtain rfl : j = 3 := by omega
      go_wp2
      refine bodyPost_ret (v := .agg #[.slice A 3 c, .slice none 0 0]) (by simp [results, Try.results34, go_sem, r0, r1]) rfl ⟨A, c, rfl, ?_, ?_⟩
      · refine (newL_own ((HO.out.chg (lo' := w.heap.size) (hi' := w.heap.size + 1) ?_ (.inr (by omega))))).wide (by omega) (by simp only [World.size_setCell]; exact Nat.le_refl _)
        (repeat (first | with_reducible refine Chg.setCell ?_ (by first | exact Nat.le_refl _ | (simp; done) | (simp; omega)) (by first | (simp; done) | (simp; omega)) _ | with_reducible refine Chg.alloc ?_ _ | with_reducible refine Chg.drew ?_)); (with_reducible exact Chg.refl _ _ _)
      · (repeat (first | with_reducible refine Below.setCell ?_ (by first | exact Nat.le_refl _ | (simp; done) | (simp; omega)) _ | with_reducible refine Below.alloc ?_ (by first | exact Nat.le_refl _ | (simp; done) | (simp; omega)) _ | with_reducible refine Below.drew ?_)); (with_reducible exact HB.out)

set_option maxRecDepth 100000 in
set_option maxHeartbeats 2000000 in
theorem sNetNew_any (w : World) : Calls Try.prog 32 #[] w fun e w' => ∃ A c, e = .returned (.agg #[.slice A 3 c, .slice none 0 0]) ∧ NodesOwn w' w.heap.size w'.heap.size A 3 c newN ∧ Below w.heap.size w w' := by
  obtain ⟨i0, hi, hz0, hz1, hz2⟩ := info_parts infoNode'
  go_enter Try.func32, Try.ntmps32
  go_wp2_with fail
  go_loopw [2] (fun i wr => ∃ (j : Nat) (A : Option Addr) (c : Nat), j ≤ 3 ∧ i = .int .i64 ((j : Int) + 1) ∧ w.heap.size + 2 ≤ wr.heap.size ∧ OwnL nodeC 10 79 wr (w.heap.size + 2) wr.heap.size A j c (newL j) ∧
      wr.cell? ⟨w.heap.size + 1, 0, none⟩ = some (.slice A j c) ∧ wr.cell? ⟨w.heap.size + 1, 1, none⟩ = some (.slice none 0 0) ∧ wr.cell? ⟨w.heap.size, 0, none⟩ = some (.slice none 0 0) ∧ wr.cell? ⟨w.heap.size, 1, none⟩ = some (.slice none 0 0) ∧
      (∀ o, wr.frozen? ⟨w.heap.size + 1, o, none⟩ = false) ∧ (∀ o, wr.frozen? ⟨w.heap.size, o, none⟩ = false) ∧ Below w.heap.size w wr) (fun i _ => 4 - (intOf i).toNat)
  case atStart => exact ⟨0, none, 0, by omega, rfl, by simp, ⟨rfl, .inl ⟨rfl, rfl, rfl⟩⟩, by simp, by simp, by simp, by simp, fun o => by simp, fun o => by simp, (by repeat (first | exact Below.refl _ _ | assumption | refine Below.drew ?_ | refine belN ?_ _ | refine Below.alloc ?_ (by first | exact Nat.le_refl _ | (simp; done) | (simp; omega) | omega) _ | refine Below.setCell ?_ (by first | exact Nat.le_refl _ | (simp; done) | (simp; omega) | omega) _ | refine Below.trans ?_ (Below.mono (by assumption) (by first | exact Nat.le_refl _ | (simp; done) | (simp; omega) | omega))))⟩
  case round =>
    obtain ⟨j, A, c, hj, rfl, hsz, hown, x0, x1, r0, r1, fx, fr, hb⟩ := hrel
    have HO := Lib.hid hown
    have HB := Lib.hid hb
    clear hown hb
    have hp0 : w.heap.size < wr.heap.size := by omega
    have hp1 : w.heap.size + 1 < wr.heap.size := by omega
    by_cases hj3 : j < 3
    · have hin : inB ((j : Int) + 1) 1 4 = true := by rw [inB_iff]; omega
      go_wp2_with fail
      refine (sNodeNew_yes ((j : Int) + 1) _ hin).mono ?_
      rintro e w1 ⟨rfl, hb⟩
      obtain ⟨hc, hf, hz⟩ := bcell hb
      have kx0 := (hc _ 0 hp1).trans x0
      have kx1 := (hc _ 1 hp1).trans x1
      have kr0 := (hc _ 0 hp0).trans r0
      have kr1 := (hc _ 1 hp0).trans r1
      have kfx : ∀ o, w1.frozen? ⟨w.heap.size + 1, o, none⟩ = false := fun o => (hf _ o hp1).trans (fx o)
      have kfr : ∀ o, w1.frozen? ⟨w.heap.size, o, none⟩ = false := fun o => (hf _ o hp0).trans (fr o)
      have hq0 : w.heap.size < w1.heap.size := by omega
      have hq1 : w.heap.size + 1 < w1.heap.size := by omega
      have HO1 := Lib.hid (HO.out.below hb (Nat.le_refl _))
      have HB1 := Lib.hid (HB.out.trans (hb.mono (by omega)))
      have hz1' : wr.heap.size ≤ w1.heap.size := hz
      clear hc hf hz hb x0 x1 r0 r1 fx fr
      go_wp2_with (at_builtin; go_must (refine wpList_app_rd _ rfl _ _ _ rfl (w.heap.size + 2) 79 i0 _ 10 96 Try.underlying24 hi hz0 hz1 hz2 rfl (by decide) (.slice A j c) j ((newL j).flatMap nodeC) rfl (by exact ((HO1.out.owns nodeC_len).alloc _).alloc _) _ _ 1 1 _ rfl (by exact (Rd_one _ #[.int .i64 ((j : Int) + 1), .int .i64 (-1), .int .i64 1, .int .i64 0, .int .i64 (-1), .int .i64 0, .int .i64 (-1), .int .i64 (-1), .int .i64 0, .slice none 0 0] 79 10 rfl _ (by simp))) (by simp [Value.oneCell']) (by unfold maxLen; omega) (by omega) (by first | with_reducible exact Nat.le_refl _ | (simp; done) | omega | (simp; omega)) ?_))
      intro v5 w5 hown hg hat
      clear hat
      have hown : w5.ownsRow (w.heap.size + 2) 79 10 v5 (j + 1) ((newL (j + 1)).flatMap nodeC) := by rw [newL_next, List.flatMap_append]; exact hown
      obtain ⟨A3, c3, rfl, ho⟩ := OwnL.of_own (l := newL (j + 1)) (n := j + 1) (by simp [newL]) hown
      have C5 := Lib.hid ((((Chg.refl (w.heap.size + 2) wr.heap.size w1).alloc _).alloc _).trans (grown_chg (lo := w.heap.size + 2) (hi := wr.heap.size) hg (fun g e => HO.out.block g e)))
      have HO5 := Lib.hid ho
      clear hown ho hg
      have hs5 : w1.heap.size ≤ w5.heap.size := C5.out.size
      have yx0 := (C5.out.cell hq1 (.inl (by omega))).trans kx0
      have yx1 := (C5.out.cell hq1 (.inl (by omega))).trans kx1
      have yr0 := (C5.out.cell hq0 (.inl (by omega))).trans kr0
      have yr1 := (C5.out.cell hq0 (.inl (by omega))).trans kr1
      have yfx : ∀ o, w5.frozen? ⟨w.heap.size + 1, o, none⟩ = false := fun o => (C5.out.frozen hq1 (.inl (by omega))).trans (kfx o)
      have yfr : ∀ o, w5.frozen? ⟨w.heap.size, o, none⟩ = false := fun o => (C5.out.frozen hq0 (.inl (by omega))).trans (kfr o)
      have HB5 := Lib.hid (HB1.out.trans (C5.out.below (by omega) (by omega)))
      clear C5 kx0 kx1 kr0 kr1 kfx kfr
      have hne : w.heap.size ≠ w.heap.size + 1 := by omega
      go_wp2
      go_roundw
      case rel =>
        have D : Chg (w.heap.size + 1) (w.heap.size + 1 + 1) w5 (w5.setCell ⟨w.heap.size + 1, 0, none⟩ (.slice A3 (j + 1) c3)) := Chg.setCell (p := ⟨w.heap.size + 1, 0, none⟩) (Chg.refl _ _ w5) (Nat.le_refl _) (Nat.lt_succ_self _) _
        have hw0 : w.heap.size < w5.heap.size := by omega
        have e0 : (w5.setCell ⟨w.heap.size + 1, 0, none⟩ (.slice A3 (j + 1) c3)).cell? ⟨w.heap.size + 1, 0, none⟩ = some (.slice A3 (j + 1) c3) := by simp [go_sem, yx0]
        have e1 : (w5.setCell ⟨w.heap.size + 1, 0, none⟩ (.slice A3 (j + 1) c3)).cell? ⟨w.heap.size + 1, 1, none⟩ = some (.slice none 0 0) := by simp [go_sem, yx1]
        have e2 : ∀ o, (w5.setCell ⟨w.heap.size + 1, 0, none⟩ (.slice A3 (j + 1) c3)).frozen? ⟨w.heap.size + 1, o, none⟩ = false := fun o => by simp [go_sem, yfx]
        refine ⟨j + 1, A3, c3, by omega, by go_num, by simp; omega, (HO5.out.chg D (.inr (Nat.le_refl _))).wide (Nat.le_refl _) D.size, e0, e1, (D.cell hw0 (.inl (by omega))).trans yr0, (D.cell hw0 (.inl (by omega))).trans yr1, e2, fun o => (D.frozen hw0 (.inl (by omega))).trans (yfr o), HB5.out.setCell (by show w.heap.size ≤ w.heap.size + 1; omega) _⟩
      case measure => simp [intOf]; omega
    · obtain rfl : j = 3 := by omega
      go_wp2
      refine bodyPost_ret (v := .agg #[.slice A 3 c, .slice none 0 0]) (by simp [results, Try.results32, go_sem, r0, r1]) rfl ⟨A, c, rfl, ?_, ?_⟩
      · refine (newL_own ((HO.out.chg (lo' := w.heap.size) (hi' := w.heap.size + 1) ?_ (.inr (by omega))))).wide (by omega) (by simp only [World.size_setCell]; exact Nat.le_refl _)
        (repeat (first | with_reducible refine Chg.setCell ?_ (by first | exact Nat.le_refl _ | (simp; done) | (simp; omega)) (by first | (simp; done) | (simp; omega)) _ | with_reducible refine Chg.alloc ?_ _ | with_reducible refine Chg.drew ?_)); (with_reducible exact Chg.refl _ _ _)
      · (repeat (first | with_reducible refine Below.setCell ?_ (by first | exact Nat.le_refl _ | (simp; done) | (simp; omega)) _ | with_reducible refine Below.alloc ?_ (by first | exact Nat.le_refl _ | (simp; done) | (simp; omega)) _ | with_reducible refine Below.drew ?_)); (with_reducible exact HB.out)

/-- a net whose pool is empty -/
theorem markNet0_any (A : Option Addr) (n c : Nat) (ln : List NodeD) (P : Option Addr) (d : Nat) (lo hi k : Nat) (w : World) (h : NodesOwn w lo hi A n c ln) (hh : hi ≤ w.heap.size) (hP : P = none ∧ d = 0) (hk0 : 0 < k) (hn : n ≤ 1048576) (hk : k + szND ln ≤ 10000000) :
    Calls Try.prog 14 #[.agg #[.slice A n c, .slice P 0 d], .int .i64 k] w fun e w' => e = .returned (.int .i64 ((k + szND ln : Nat) : Int)) ∧ Chg lo hi w w' ∧ ∃ lm, NodesOwn w' lo hi A n c lm ∧ MixD k ln n lm := by
  obtain ⟨rfl, rfl⟩ := hP
  have H := Lib.hid h
  clear h
  go_enter Try.func14, Try.ntmps14
  go_wp2_with fail
  refine (markNodeS_any A n c ln lo hi k _ (by exact H.out.chg ((Chg.refl 0 0 w).alloc _) (.inr (Nat.zero_le _))) hk0 hn hk).mono ?_
  rintro e w1 ⟨rfl, hc, lm, ho, hm⟩
  have s1 : w1.cell? ⟨w.heap.size, 1, none⟩ = some (.slice none 0 0) := by rw [hc.cell (k := w.heap.size) (by simp) (.inr hh)]; simp
  have HC := Lib.hid ((((Chg.refl lo hi w).alloc _)).trans hc)
  have HO := Lib.hid ho
  have HM := Lib.hid hm
  clear hc ho hm
  go_wp2_with fail
  refine (markNMsgS_any 49 none 0 0 [] 0 0 (k + szND ln) _ ⟨rfl, .inl ⟨rfl, rfl, rfl⟩⟩ (by omega) (by omega) (by omega)).mono ?_
  rintro e w2 ⟨rfl, _, hg⟩
  have HG := Lib.hid hg
  clear hg
  go_wp2_with fail
  go_ret
  refine ⟨by simp, HC.out.trans ⟨HG.out.os, HG.out.tape, HG.out.output, HG.out.size, fun q h1 h2 => HG.out.block q h1 (.inr (Nat.zero_le _))⟩, lm, HO.out.chg HG.out (.inr (Nat.zero_le _)), HM.out⟩
theorem heldNet0_any (A : Option Addr) (n c : Nat) (ln lm : List NodeD) (P : Option Addr) (d : Nat) (k : Nat) (w : World) (h : NodesRd w w.heap.size A n c lm) (hm : MixD k ln n lm) (hP : P = none ∧ d = 0) (hk0 : 0 < k) (hn : n ≤ 1048576) (hk : k + szND ln ≤ 10000000) :
    Calls Try.prog 15 #[.agg #[.slice A n c, .slice P 0 d], .int .i64 k] w fun e w' => e = .returned (.int .i64 ((k + szND ln : Nat) : Int)) ∧ Below w.heap.size w w' := by
  obtain ⟨rfl, rfl⟩ := hP
  have H := Lib.hid h
  have HM := Lib.hid hm
  clear h hm
  have hnn : ¬ ((k + szND ln : Nat) : Int) < 0 := by omega
  have hnn0 : ¬ ((k + szND ln + 0 * 5 : Nat) : Int) < 0 := by omega
  go_enter Try.func15, Try.ntmps15
  go_wp2_with fail
  refine (heldNodeS_any A n c ln lm k _ (by exact (H.out.alloc (Nat.le_refl _) _).more (by simp)) HM.out hk0 hn hk).mono ?_
  rintro e w1 ⟨rfl, hb⟩
  obtain ⟨hc, hf, hz⟩ := bcell hb
  have s1 : w1.cell? ⟨w.heap.size, 1, none⟩ = some (.slice none 0 0) := by rw [hc _ _ (by simp)]; simp
  have HB : Hid (Below w.heap.size w w1) := (by repeat (first | exact Below.refl _ _ | assumption | refine Below.drew ?_ | refine belN ?_ _ | refine Below.alloc ?_ (by first | exact Nat.le_refl _ | (simp; done) | (simp; omega) | omega) _ | refine Below.setCell ?_ (by first | exact Nat.le_refl _ | (simp; done) | (simp; omega) | omega) _ | refine Below.trans ?_ (Below.mono (by assumption) (by first | exact Nat.le_refl _ | (simp; done) | (simp; omega) | omega))))
  clear hc hf hz hb
  go_wp2_with fail
  refine (heldNMsgS_any none 0 0 (k + szND ln) _ ⟨rfl, Rd.nil _ _ _⟩ (by omega) (by omega) (by omega)).mono ?_
  rintro e w2 ⟨rfl, hb⟩
  have HB2 := Lib.hid (HB.out.trans (hb.mono HB.out.size))
  clear hb
  go_wp2_with fail
  go_ret
  exact ⟨by simp, HB2.out⟩
end Go.Proofs.Ytjgaelnonacdkaa
namespace Go.Proofs.Ytjgaelnonacdkaa
open Go.RowKit

theorem netB_msgs {ln : List NodeD} {lp : List NMsgD} (h : netB ln lp = true) : msgsOk lp = true := by
  simp only [netB, Bool.and_eq_true] at h
  exact h.1.2.1
theorem allTo_iff {α : Type} {f : Nat → α → Bool} {l : List α} : allTo f l l.length = true ↔ ∀ (k : Nat) (x : α), l[k]? = some x → f k x = true := by
  constructor
  · intro h k x hk
    cases hx : f k x
    · rw [allTo_no hk hx] at h; cases h
    · rfl
  · intro h
    have : ∀ k, k ≤ l.length → allTo f l k = true := by
      intro k
      induction k with
      | zero => intro _; exact allTo_zero _ _
      | succ k ih =>
        intro hk
        have hx : l[k]? = some l[k] := List.getElem?_eq_getElem (by omega)
        rw [allTo_succ hx, ih (by omega), h k _ hx]; rfl
    exact this _ (Nat.le_refl _)
theorem msgsOk_at {l : List NMsgD} (h : msgsOk l = true) {k : Nat} {m : NMsgD} (hk : l[k]? = some m) : okMsg m = true := by
  have := (allTo_iff.1 h) k m hk
  simp only [freshMsg, Bool.and_eq_true] at this
  exact this.1
theorem cntStep_mem {k r v : Int} {fs : List Int} {m : NMsgD} {x : Int} (h : x ∈ cntStep k r v fs m) : x ∈ fs ∨ (m.k = k ∧ m.r = r ∧ m.v = v) := by
  unfold cntStep at h
  split at h
  · rename_i hc
    simp only [Bool.and_eq_true, beq_iff_eq] at hc
    simp only [List.mem_append, List.mem_singleton] at h
    rcases h with h | h
    · exact .inl h
    · exact .inr ⟨hc.1.1.1, hc.1.1.2, hc.1.2⟩
  · exact .inl h
theorem froms_mem {k r v : Int} {l : List NMsgD} {x : Int} (h : x ∈ froms l k r v) : ∃ m ∈ l, m.k = k ∧ m.r = r ∧ m.v = v := by
  have : ∀ (l : List NMsgD) (fs : List Int), x ∈ l.foldl (cntStep k r v) fs → x ∈ fs ∨ ∃ m ∈ l, m.k = k ∧ m.r = r ∧ m.v = v := by
    intro l
    induction l with
    | nil => intro fs h; exact .inl h
    | cons m l ih =>
      intro fs h
      rcases ih _ h with h | ⟨y, hy, hh⟩
      · rcases cntStep_mem h with h | h
        · exact .inl h
        · exact .inr ⟨m, by simp, h⟩
      · exact .inr ⟨y, by simp [hy], hh⟩
  rcases this l [] h with h | h
  · cases h
  · exact h
theorem count_pos {k r v : Int} {l : List NMsgD} (h : ¬ countN l k r v < 3) : ∃ m ∈ l, m.k = k ∧ m.r = r ∧ m.v = v := by
  unfold countN at h
  cases hf : froms l k r v with
  | nil => rw [hf] at h; simp at h
  | cons x t => exact froms_mem (x := x) (by rw [hf]; simp)
def rvTo (lp : List NMsgD) (R V : Nat) : Prop := ∀ r v : Nat, v < 20 → (r < R ∨ (r = R ∧ v < V)) → heldRV lp r (v + 1) = true
theorem rv_all {lp : List NMsgD} (h : msgsOk lp = true) : allTo (heldA lp) lp lp.length = true ↔ rvTo lp 12 0 := by
  rw [allTo_iff]
  constructor
  · intro ha r v hv hr
    cases hc : decide (countN lp 3 r (v + 1) < 3)
    · simp only [decide_eq_false_iff_not] at hc
      obtain ⟨m, hm, e1, e2, e3⟩ := count_pos hc
      obtain ⟨k, hk⟩ := List.getElem?_of_mem hm
      have := ha k m hk
      simp only [heldA, e1, e2, e3] at this
      have h0 : (((v : Int) + 1) == 0) = false := by simp; omega
      simpa [h0] using this
    · simp only [heldRV, hc]; rfl
  · intro ha k a hk
    have ho := msgsOk_at h hk
    cases hk3 : (a.k == 3)
    · simp [heldA, hk3]
    · cases hv0 : (a.v == 0)
      · simp only [okMsg, msgB, Bool.and_eq_true, inB_iff] at ho
        have hk' : a.k = 3 := by simpa using hk3
        have hv' : ¬ a.v = 0 := by simpa using hv0
        have hr : 0 ≤ a.r ∧ a.r ≤ 11 := by omega
        have hv : 0 ≤ a.v ∧ a.v ≤ 20 := by
          have h2 := ho
          simp only [hk'] at h2
          simp [inB_iff] at h2
          omega
        obtain ⟨r, er⟩ := Int.eq_ofNat_of_zero_le hr.1
        obtain ⟨v, ev⟩ := Int.eq_ofNat_of_zero_le (show 0 ≤ a.v - 1 by omega)
        have := ha r v (by omega) (.inl (by omega))
        simp only [heldA]
        rw [er, show a.v = (v : Int) + 1 by omega, this]
        simp
      · simp [heldA, hv0]
theorem rv_next {lp : List NMsgD} {R V : Nat} (h : rvTo lp R V) (hv : heldRV lp R (V + 1) = true) : rvTo lp R (V + 1) := by
  intro r v h1 h2
  rcases h2 with h2 | ⟨rfl, h2⟩
  · exact h r v h1 (.inl h2)
  · by_cases h3 : v < V
    · exact h r v h1 (.inr ⟨rfl, h3⟩)
    · obtain rfl : v = V := by omega
      exact hv
theorem rv_row {lp : List NMsgD} {R : Nat} (h : rvTo lp R 20) : rvTo lp (R + 1) 0 := by
  intro r v h1 h2
  by_cases h3 : r < R
  · exact h r v h1 (.inl h3)
  · exact h r v h1 (.inr ⟨by omega, by omega⟩)
theorem rv_zero (lp : List NMsgD) : rvTo lp 0 0 := fun r v _ h2 => by omega
theorem rv_no {lp : List NMsgD} {R V : Nat} (h : msgsOk lp = true) (hR : R < 12) (hV : V < 20) (hv : heldRV lp R (V + 1) = false) : allTo (heldA lp) lp lp.length = false := by
  cases ha : allTo (heldA lp) lp lp.length
  · rfl
  · have := (rv_all h).1 ha R V hV (.inl hR)
    rw [hv] at this; cases this

set_option maxRecDepth 100000 in
set_option maxHeartbeats 4000000 in
theorem sHeld_any (A : Option Addr) (n c : Nat) (P : Option Addr) (p d : Nat) (ln : List NodeD) (lp : List NMsgD) (w : World) (hl : NodesRd w w.heap.size A n c ln) (hp : RdL msgC 5 w w.heap.size P p d lp) :
    Calls Try.prog 29 #[.agg #[.slice A n c, .slice P p d]] w fun e w' => e = .returned (.bool (heldB ln lp)) ∧ Below w.heap.size w w' := by
  obtain rfl : lp.length = p := hp.1
  have hpn := hp.le
  have HL := Lib.hid hl
  have HP := Lib.hid hp
  clear hl hp
  cases hN : netB ln lp
  · have HE : Hid (heldB ln lp = false) := by show _ = _; simp [heldB, hN]
    have HN := Lib.hid hN
    clear hN
    go_enter Try.func29, Try.ntmps29
    go_wp2_with fail
    refine (sNetOk_any A n c P lp.length d ln lp _ (by exact (HL.out.alloc (Nat.le_refl _) _).more (by simp)) (by exact (HP.out.alloc (Nat.le_refl _) _).more (by simp))).mono ?_
    rw [HN.out]
    rintro e w1 ⟨rfl, hb⟩
    have HW : Hid (Below w.heap.size w w1) := (by repeat (first | exact Below.refl _ _ | assumption | refine Below.drew ?_ | refine belN ?_ _ | refine Below.alloc ?_ (by first | exact Nat.le_refl _ | (simp; done) | (simp; omega) | omega) _ | refine Below.setCell ?_ (by first | exact Nat.le_refl _ | (simp; done) | (simp; omega) | omega) _ | refine Below.trans ?_ (Below.mono (by assumption) (by first | exact Nat.le_refl _ | (simp; done) | (simp; omega) | omega))))
    clear hb
    go_wp2_with fail
    go_ret
    exact ⟨by rw [HE.out]; rfl, HW.out⟩
  have hp150 : lp.length ≤ 1048576 := by have := netB_pool hN; omega
  have HE : Hid (heldB ln lp = allTo (heldA lp) lp lp.length) := by show _ = _; simp [heldB, hN]
  have HM0 := Lib.hid (netB_msgs hN)
  have HN := Lib.hid hN
  clear hN
  go_enter Try.func29, Try.ntmps29
  go_wp2_with fail
  refine (sNetOk_any A n c P lp.length d ln lp _ (by exact (HL.out.alloc (Nat.le_refl _) _).more (by simp)) (by exact (HP.out.alloc (Nat.le_refl _) _).more (by simp))).mono ?_
  rw [HN.out]
  rintro e w1 ⟨rfl, hb⟩
  obtain ⟨hc, hf, hz⟩ := bcell hb
  have hz0 : w.heap.size < w1.heap.size := by simp at hz; omega
  have HW : Hid (Below w.heap.size w w1) := (by repeat (first | exact Below.refl _ _ | assumption | refine Below.drew ?_ | refine belN ?_ _ | refine Below.alloc ?_ (by first | exact Nat.le_refl _ | (simp; done) | (simp; omega) | omega) _ | refine Below.setCell ?_ (by first | exact Nat.le_refl _ | (simp; done) | (simp; omega) | omega) _ | refine Below.trans ?_ (Below.mono (by assumption) (by first | exact Nat.le_refl _ | (simp; done) | (simp; omega) | omega))))
  have s1 : w1.cell? ⟨w.heap.size, 1, none⟩ = some (.slice P lp.length d) := by rw [hc _ _ (by simp)]; simp
  clear hc hf hz hb
  go_wp2_with fail
  go_loopw [3] (fun i wr => ∃ R : Nat, R ≤ 12 ∧ i = .int .i64 R ∧ Below w1.heap.size w1 wr ∧ rvTo lp R 0) (fun i _ => 12 - (intOf i).toNat)
  case atStart => exact ⟨0, by omega, rfl, Below.refl _ _, rv_zero _⟩
  case round =>
    obtain ⟨R, hR, rfl, hb, hno⟩ := hrel
    obtain ⟨wo, rfl⟩ : ∃ wo : World, wo = wr := ⟨_, rfl⟩
    have HNO := Lib.hid hno; clear hno
    have hz : w1.heap.size ≤ wo.heap.size := hb.size
    have HBO := Lib.hid hb
    clear hb
    by_cases hRn : R < 12
    · have hRb : decide ((R : Int) < 12) = true := by simp; omega
      go_wp2_with fail
      go_loopw [4] (fun i wr => ∃ V : Nat, V ≤ 20 ∧ i = .int .i64 (V + 1) ∧ Below w1.heap.size w1 wr ∧ rvTo lp R V) (fun i _ => 21 - (intOf i).toNat)
      case atStart => exact ⟨0, by omega, rfl, HBO.out, HNO.out⟩
      case round =>
        obtain ⟨V, hV, rfl, hb, hno⟩ := hrel
        obtain ⟨wv, rfl⟩ : ∃ wo : World, wo = wr := ⟨_, rfl⟩
        have HNV := Lib.hid hno; clear hno
        have hzv : w1.heap.size ≤ wv.heap.size := hb.size
        have hz1 : w.heap.size < wv.heap.size := by omega
        have HBV := Lib.hid hb
        have HB : Hid (Below w.heap.size w wv) := HW.out.trans (hb.mono (by omega))
        have t1 : wv.cell? ⟨w.heap.size, 1, none⟩ = some (.slice P lp.length d) := (hb.cell (p := ⟨w.heap.size, 1, none⟩) hz0).trans s1
        have HR := Lib.hid ((HP.out.below HB.out (Nat.le_refl _)).more HB.out.size)
        clear hb
        by_cases hVn : V < 20
        · obtain ⟨cn, hcn⟩ : ∃ q, countN lp 3 R (V + 1) = q := ⟨_, rfl⟩
          have HC := Lib.hid hcn
          clear hcn
          go_wp2_with fail
          refine (l16Count_any P lp.length d lp 3 R (V + 1) _ HR.out hp150 (froms4_of HM0.out)).mono ?_
          rw [HC.out]
          rintro e w2 ⟨rfl, hb⟩
          have hs2 : wv.heap.size ≤ w2.heap.size := hb.size
          have B2 := Lib.hid hb
          have y1 : w2.cell? ⟨w.heap.size, 1, none⟩ = some (.slice P lp.length d) := (hb.cell (p := ⟨w.heap.size, 1, none⟩) hz1).trans t1
          clear hb
          by_cases q3 : cn < 3
          case pos =>
            have HF : Hid (heldRV lp R (V + 1) = true) := by show _ = _; simp [heldRV, HC.out, q3]
            go_wp2_with fail
            go_roundw
            case rel => exact ⟨V + 1, by omega, by go_num, HBV.out.trans (B2.out.mono hzv), rv_next HNV.out HF.out⟩
            case measure => simp [intOf]; omega
          have hz3 : w.heap.size < w2.heap.size := by omega
          go_wp2_with fail
          go_loopw [5] (fun i wr => ∃ j : Nat, j ≤ lp.length ∧ i = .int .i64 j ∧ Below w2.heap.size w2 wr ∧ noneTo (badM R (V + 1)) lp j = true) (fun i _ => lp.length - (intOf i).toNat)
          case atStart => exact ⟨0, by omega, rfl, Below.refl _ _, noneTo_zero _ _⟩
          case round =>
            obtain ⟨j, hj, rfl, hb, hno⟩ := hrel
            have HN2 := Lib.hid hno; clear hno
            have hzr : w2.heap.size ≤ wr.heap.size := hb.size
            have HBR := Lib.hid hb
            have u1 : wr.cell? ⟨w.heap.size, 1, none⟩ = some (.slice P lp.length d) := (hb.cell (p := ⟨w.heap.size, 1, none⟩) hz3).trans y1
            clear hb
            have HB3 := Lib.hid (B2.out.trans (HBR.out.mono (by omega)))
            by_cases hjn : j < lp.length
            · obtain ⟨b, off, m, rfl, hb2, hy, d0, d1, d2, d3, d4⟩ := msg_cells (HR.out.below HB3.out (Nat.le_refl _)) hjn
              have HM := Lib.hid hy
              clear hy
              have hb2' : b < wr.heap.size := by omega
              cases t1 : (m.k == 3)
              case false =>
                have HF : Hid (badM (R : Int) ((V : Int) + 1) m = false) := by show _ = _; simp [badM, *]
                go_wp2_with fail
                go_roundw
                case rel => exact ⟨j + 1, by omega, by go_num, HBR.out.alloc HBR.out.size _, noneTo_succ HM.out HN2.out HF.out⟩
                case measure => simp [intOf]; omega
              by_cases t2 : m.f ≤ 3
              case neg =>
                have HF : Hid (badM (R : Int) ((V : Int) + 1) m = false) := by show _ = _; simp [badM, *]
                go_wp2_with fail
                go_roundw
                case rel => exact ⟨j + 1, by omega, by go_num, HBR.out.alloc HBR.out.size _, noneTo_succ HM.out HN2.out HF.out⟩
                case measure => simp [intOf]; omega
              by_cases t3 : (R : Int) < m.r
              case neg =>
                have HF : Hid (badM (R : Int) ((V : Int) + 1) m = false) := by show _ = _; simp [badM, *]
                go_wp2_with fail
                go_roundw
                case rel => exact ⟨j + 1, by omega, by go_num, HBR.out.alloc HBR.out.size _, noneTo_succ HM.out HN2.out HF.out⟩
                case measure => simp [intOf]; omega
              by_cases t4 : 0 < m.v
              case neg =>
                have HF : Hid (badM (R : Int) ((V : Int) + 1) m = false) := by show _ = _; simp [badM, *]
                go_wp2_with fail
                go_roundw
                case rel => exact ⟨j + 1, by omega, by go_num, HBR.out.alloc HBR.out.size _, noneTo_succ HM.out HN2.out HF.out⟩
                case measure => simp [intOf]; omega
              cases t5 : (m.v == ((V : Int) + 1))
              case true =>
                have t5n : (m.v != ((V : Int) + 1)) = false := by simp only [bne, t5]; rfl
                have HF : Hid (badM (R : Int) ((V : Int) + 1) m = false) := by show _ = _; simp [badM, *]
                go_wp2_with fail
                go_roundw
                case rel => exact ⟨j + 1, by omega, by go_num, HBR.out.alloc HBR.out.size _, noneTo_succ HM.out HN2.out HF.out⟩
                case measure => simp [intOf]; omega
              have t5n : (m.v != ((V : Int) + 1)) = true := by simp only [bne, t5]; rfl
              have HF : Hid (allTo (heldA lp) lp lp.length = false) := rv_no HM0.out hRn hVn (by simp only [heldRV, HC.out]; rw [noneTo_no HM.out hjn (by simp [badM, *])]; simp; omega)
              go_wp2_with fail
              go_ret
              exact ⟨by rw [HE.out, HF.out]; rfl, HB.out.trans ((HB3.out.alloc (by omega) _).mono HB.out.size)⟩
            · obtain rfl : j = lp.length := by omega
              have HF : Hid (heldRV lp R (V + 1) = true) := by show _ = _; simp [heldRV, HN2.out]
              go_wp2_with fail
              go_roundw
              case rel => exact ⟨V + 1, by omega, by go_num, HBV.out.trans (HB3.out.mono hzv), rv_next HNV.out HF.out⟩
              case measure => simp [intOf]; omega
        · obtain rfl : V = 20 := by omega
          go_wp2_with fail
          go_roundw
          case rel => exact ⟨R + 1, by omega, by go_num, HBV.out, rv_row HNV.out⟩
          case measure => simp [intOf]; omega
    · obtain rfl : R = 12 := by omega
      have HF : Hid (allTo (heldA lp) lp lp.length = true) := (rv_all HM0.out).2 HNO.out
      have HB : Hid (Below w.heap.size w wo) := HW.out.trans (HBO.out.mono (by omega))
      go_wp2
      go_ret
      exact ⟨by rw [HE.out, HF.out]; rfl, HB.out⟩
end Go.Proofs.Ytjgaelnonacdkaa
