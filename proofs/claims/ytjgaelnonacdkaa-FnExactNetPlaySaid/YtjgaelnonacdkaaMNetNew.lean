/- NetNew of the program and of the reference (written by wip/netnew.py). -/
import Derived.Deep.DeepMust
import Derived.WalkKit
import Derived.WalkSpells
import Derived.WalkLawsBesides
import Derived.Lib.Hide
import Derived.Test.YtjgaelnonacdkaaMNodesMk
import Derived.Test.YtjgaelnonacdkaaG06
namespace Go.Proofs.Ytjgaelnonacdkaa
open Go.RowKit

def newS (me : Int) : NodeS := ⟨me, -1, 1, 0, -1, 0, -1, -1, 0⟩
def newV (me : Int) : NodeV := ⟨newS me, none, 0, 0⟩
def newL (j : Nat) : List NodeV := (List.range j).map fun (i : Nat) => newV ((i : Int) + 1)
def newN : List NodeD := [⟨newS 1, []⟩, ⟨newS 2, []⟩, ⟨newS 3, []⟩]
theorem newL_next (j : Nat) : newL (j + 1) = newL j ++ [newV ((j : Int) + 1)] := by unfold newL; rw [List.range_succ, List.map_append]; rfl
theorem newL_three : newL 3 = [newV 1, newV 2, newV 3] := rfl
theorem newL_len (j : Nat) : (newL j).length = j := by simp [newL]
theorem newL_own {w : World} {lo hi : Nat} {A : Option Addr} {c : Nat} (h : OwnL nodeC 10 79 w lo hi A 3 c (newL 3)) : NodesOwn w lo hi A 3 c newN := by
  refine ⟨newL 3, h, rfl, fun i v hv => ?_, fun i j vi vj g hi' _ ei => ?_⟩
  · have hi' : i < 3 := (List.getElem?_eq_some_iff.1 hv).1
    rw [newL_three] at hv
    rcases (by omega : i = 0 ∨ i = 1 ∨ i = 2) with rfl | rfl | rfl <;> (simp at hv; subst hv; exact ⟨_, rfl, rfl, rfl, .inl ⟨rfl, rfl, rfl⟩⟩)
  · have hi2 : i < 3 := (List.getElem?_eq_some_iff.1 hi').1
    rw [newL_three] at hi'
    rcases (by omega : i = 0 ∨ i = 1 ∨ i = 2) with rfl | rfl | rfl <;> (simp at hi'; subst hi'; simp [newV] at ei)
theorem Rd_one (w : World) (cs : Array Value) (t : TypeId) (size : Nat) (h : cs.size = size) (g : Nat) (hg : g = w.heap.size) : Rd (w.alloc (.cells cs t)) (w.heap.size + 1) (some ⟨g, 0, none⟩) 1 1 size cs.toList := by
  subst hg
  refine ⟨by simp [h], Nat.le_refl _, by unfold maxLen; omega, fun _ => ⟨w.heap.size, 0, rfl, by omega, fun j hj => ?_⟩⟩
  have hb : Blk (w.alloc (.cells cs t)) w.heap.size t cs := heap_alloc_new w _
  rw [hb.cell, Nat.zero_add]; simp
theorem infoNode' : (Try.prog.info? 79).map (fun i => (i.zero, i.size, i.bytes)) = some (some (.agg #[.int .i64 0, .int .i64 0, .int .i64 0, .int .i64 0, .int .i64 0, .int .i64 0, .int .i64 0, .int .i64 0, .int .i64 0, .slice none 0 0]), 10, 96) := by kernel_rfl

set_option maxRecDepth 100000 in
set_option maxHeartbeats 2000000 in
theorem NetNew_any (w : World) : Calls Try.prog 34 #[] w fun e w' => ∃ A c, e = .returned (.agg #[.slice A 3 c, .slice none 0 0]) ∧ NodesOwn w' w.heap.size w'.heap.size A 3 c newN ∧ Below w.heap.size w w' := by
  obtain ⟨i0, hi, hz0, hz1, hz2⟩ := info_parts infoNode'
  go_enter Try.func34, Try.ntmps34
  go_wp2_with fail
  go_loopw [2] (fun i wr => ∃ (j : Nat) (A : Option Addr) (c : Nat), j ≤ 3 ∧ i = .int .i64 ((j : Int) + 1) ∧ w.heap.size + 2 ≤ wr.heap.size ∧ OwnL nodeC 10 79 wr (w.heap.size + 2) wr.heap.size A j c (newL j) ∧
      wr.cell? ⟨w.heap.size + 1, 0, none⟩ = some (.slice A j c) ∧ wr.cell? ⟨w.heap.size + 1, 1, none⟩ = some (.slice none 0 0) ∧ wr.cell? ⟨w.heap.size, 0, none⟩ = some (.slice none 0 0) ∧ wr.cell? ⟨w.heap.size, 1, none⟩ = some (.slice none 0 0) ∧
      (∀ o, wr.frozen? ⟨w.heap.size + 1, o, none⟩ = false) ∧ (∀ o, wr.frozen? ⟨w.heap.size, o, none⟩ = false) ∧ Below w.heap.size w wr) (fun i _ => 4 - (intOf i).toNat)
  case atStart => exact ⟨0, none, 0, by omega, rfl, by simp, ⟨rfl, .inl ⟨rfl, rfl, rfl⟩⟩, by simp, by simp, by simp, by simp, fun o => by simp, fun o => by simp, (by repeat (first | exact Below.refl _ _ | assumption | refine Below.drew ?_ | refine belN ?_ _ | refine Below.alloc ?_ (by first | exact Nat.le_refl _ | (simp; done) | (simp; omega) | omega) _ | refine Below.setCell ?_ (by first | exact Nat.le_refl _ | (simp; done) | (simp; omega) | omega) _ | refine Below.trans ?_ (Below.mono (by assumption) (by first | exact Nat.le_refl _ | (simp; done) | (simp; omega) | omega))))⟩
  case round =>
    obtain ⟨j, A, c, hj, rfl, hsz, hown, x0, x1, r0, r1, fx, fr, hb⟩ := hrel
    have HO := Lib.hid hown
    have HB := Lib.hid hb
    clear hown hb
    have hp0 : w.heap.size < wr.heap.size := by omega
    have hp1 : w.heap.size + 1 < wr.heap.size := by omega
    by_cases hj3 : j < 3
    · have hin : inB ((j : Int) + 1) 1 4 = true := by rw [inB_iff]; omega
      go_wp2_with fail
      refine (NodeNew_yes ((j : Int) + 1) _ hin).mono ?_
      rintro e w1 ⟨rfl, hb⟩
      obtain ⟨hc, hf, hz⟩ := bcell hb
      have kx0 := (hc _ 0 hp1).trans x0
      have kx1 := (hc _ 1 hp1).trans x1
      have kr0 := (hc _ 0 hp0).trans r0
      have kr1 := (hc _ 1 hp0).trans r1
      have kfx : ∀ o, w1.frozen? ⟨w.heap.size + 1, o, none⟩ = false := fun o => (hf _ o hp1).trans (fx o)
      have kfr : ∀ o, w1.frozen? ⟨w.heap.size, o, none⟩ = false := fun o => (hf _ o hp0).trans (fr o)
      have hq0 : w.heap.size < w1.heap.size := by omega
      have hq1 : w.heap.size + 1 < w1.heap.size := by omega
      have HO1 := Lib.hid (HO.out.below hb (Nat.le_refl _))
      have HB1 := Lib.hid (HB.out.trans (hb.mono (by omega)))
      have hz1' : wr.heap.size ≤ w1.heap.size := hz
      clear hc hf hz hb x0 x1 r0 r1 fx fr
      go_wp2_with (at_builtin; go_must (refine wpList_app_rd _ rfl _ _ _ rfl (w.heap.size + 2) 79 i0 _ 10 96 Try.underlying24 hi hz0 hz1 hz2 rfl (by decide) (.slice A j c) j ((newL j).flatMap nodeC) rfl (by exact ((HO1.out.owns nodeC_len).alloc _).alloc _) _ _ 1 1 _ rfl (by exact (Rd_one _ #[.int .i64 ((j : Int) + 1), .int .i64 (-1), .int .i64 1, .int .i64 0, .int .i64 (-1), .int .i64 0, .int .i64 (-1), .int .i64 (-1), .int .i64 0, .slice none 0 0] 79 10 rfl _ (by simp))) (by simp [Value.oneCell']) (by unfold maxLen; omega) (by omega) (by first | with_reducible exact Nat.le_refl _ | (simp; done) | omega | (simp; omega)) ?_))
      intro v5 w5 hown hg hat
      clear hat
      have hown : w5.ownsRow (w.heap.size + 2) 79 10 v5 (j + 1) ((newL (j + 1)).flatMap nodeC) := by rw [newL_next, List.flatMap_append]; exact hown
      obtain ⟨A3, c3, rfl, ho⟩ := OwnL.of_own (l := newL (j + 1)) (n := j + 1) (by simp [newL]) hown
      have C5 := Lib.hid ((((Chg.refl (w.heap.size + 2) wr.heap.size w1).alloc _).alloc _).trans (grown_chg (lo := w.heap.size + 2) (hi := wr.heap.size) hg (fun g e => HO.out.block g e)))
      have HO5 := Lib.hid ho
      clear hown ho hg
      have hs5 : w1.heap.size ≤ w5.heap.size := C5.out.size
      have yx0 := (C5.out.cell hq1 (.inl (by omega))).trans kx0
      have yx1 := (C5.out.cell hq1 (.inl (by omega))).trans kx1
      have yr0 := (C5.out.cell hq0 (.inl (by omega))).trans kr0
      have yr1 := (C5.out.cell hq0 (.inl (by omega))).trans kr1
      have yfx : ∀ o, w5.frozen? ⟨w.heap.size + 1, o, none⟩ = false := fun o => (C5.out.frozen hq1 (.inl (by omega))).trans (kfx o)
      have yfr : ∀ o, w5.frozen? ⟨w.heap.size, o, none⟩ = false := fun o => (C5.out.frozen hq0 (.inl (by omega))).trans (kfr o)
      have HB5 := Lib.hid (HB1.out.trans (C5.out.below (by omega) (by omega)))
      clear C5 kx0 kx1 kr0 kr1 kfx kfr
      have hne : w.heap.size ≠ w.heap.size + 1 := by omega
      go_wp2
      go_roundw
      case rel =>
        have D : Chg (w.heap.size + 1) (w.heap.size + 1 + 1) w5 (w5.setCell ⟨w.heap.size + 1, 0, none⟩ (.slice A3 (j + 1) c3)) := Chg.setCell (p := ⟨w.heap.size + 1, 0, none⟩) (Chg.refl _ _ w5) (Nat.le_refl _) (Nat.lt_succ_self _) _
        have hw0 : w.heap.size < w5.heap.size := by omega
        have e0 : (w5.setCell ⟨w.heap.size + 1, 0, none⟩ (.slice A3 (j + 1) c3)).cell? ⟨w.heap.size + 1, 0, none⟩ = some (.slice A3 (j + 1) c3) := by simp [go_sem, yx0]
        have e1 : (w5.setCell ⟨w.heap.size + 1, 0, none⟩ (.slice A3 (j + 1) c3)).cell? ⟨w.heap.size + 1, 1, none⟩ = some (.slice none 0 0) := by simp [go_sem, yx1]
        have e2 : ∀ o, (w5.setCell ⟨w.heap.size + 1, 0, none⟩ (.slice A3 (j + 1) c3)).frozen? ⟨w.heap.size + 1, o, none⟩ = false := fun o => by simp [go_sem, yfx]
        refine ⟨j + 1, A3, c3, by omega, by go_num, by simp; omega, (HO5.out.chg D (.inr (Nat.le_refl _))).wide (Nat.le_refl _) D.size, e0, e1, (D.cell hw0 (.inl (by omega))).trans yr0, (D.cell hw0 (.inl (by omega))).trans yr1, e2, fun o => (D.frozen hw0 (.inl (by omega))).trans (yfr o), HB5.out.setCell (by show w.heap.size ≤ w.heap.size + 1; omega) _⟩
      case measure => simp [intOf]; omega
    · obtain rfl : j = 3 := by omega
      go_wp2
      refine bodyPost_ret (v := .agg #[.slice A 3 c, .slice none 0 0]) (by simp [results, Try.results34, go_sem, r0, r1]) rfl ⟨A, c, rfl, ?_, ?_⟩
      · refine (newL_own ((HO.out.chg (lo' := w.heap.size) (hi' := w.heap.size + 1) ?_ (.inr (by omega))))).wide (by omega) (by simp only [World.size_setCell]; exact Nat.le_refl _)
        (repeat (first | with_reducible refine Chg.setCell ?_ (by first | exact Nat.le_refl _ | (simp; done) | (simp; omega)) (by first | (simp; done) | (simp; omega)) _ | with_reducible refine Chg.alloc ?_ _ | with_reducible refine Chg.drew ?_)); (with_reducible exact Chg.refl _ _ _)
      · (repeat (first | with_reducible refine Below.setCell ?_ (by first | exact Nat.le_refl _ | (simp; done) | (simp; omega)) _ | with_reducible refine Below.alloc ?_ (by first | exact Nat.le_refl _ | (simp; done) | (simp; omega)) _ | with_reducible refine Below.drew ?_)); (with_reducible exact HB.out)

set_option maxRecDepth 100000 in
set_option maxHeartbeats 2000000 in
theorem sNetNew_any (w : World) : Calls Try.prog 32 #[] w fun e w' => ∃ A c, e = .returned (.agg #[.slice A 3 c, .slice none 0 0]) ∧ NodesOwn w' w.heap.size w'.heap.size A 3 c newN ∧ Below w.heap.size w w' := by
  obtain ⟨i0, hi, hz0, hz1, hz2⟩ := info_parts infoNode'
  go_enter Try.func32, Try.ntmps32
  go_wp2_with fail
  go_loopw [2] (fun i wr => ∃ (j : Nat) (A : Option Addr) (c : Nat), j ≤ 3 ∧ i = .int .i64 ((j : Int) + 1) ∧ w.heap.size + 2 ≤ wr.heap.size ∧ OwnL nodeC 10 79 wr (w.heap.size + 2) wr.heap.size A j c (newL j) ∧
      wr.cell? ⟨w.heap.size + 1, 0, none⟩ = some (.slice A j c) ∧ wr.cell? ⟨w.heap.size + 1, 1, none⟩ = some (.slice none 0 0) ∧ wr.cell? ⟨w.heap.size, 0, none⟩ = some (.slice none 0 0) ∧ wr.cell? ⟨w.heap.size, 1, none⟩ = some (.slice none 0 0) ∧
      (∀ o, wr.frozen? ⟨w.heap.size + 1, o, none⟩ = false) ∧ (∀ o, wr.frozen? ⟨w.heap.size, o, none⟩ = false) ∧ Below w.heap.size w wr) (fun i _ => 4 - (intOf i).toNat)
  case atStart => exact ⟨0, none, 0, by omega, rfl, by simp, ⟨rfl, .inl ⟨rfl, rfl, rfl⟩⟩, by simp, by simp, by simp, by simp, fun o => by simp, fun o => by simp, (by repeat (first | exact Below.refl _ _ | assumption | refine Below.drew ?_ | refine belN ?_ _ | refine Below.alloc ?_ (by first | exact Nat.le_refl _ | (simp; done) | (simp; omega) | omega) _ | refine Below.setCell ?_ (by first | exact Nat.le_refl _ | (simp; done) | (simp; omega) | omega) _ | refine Below.trans ?_ (Below.mono (by assumption) (by first | exact Nat.le_refl _ | (simp; done) | (simp; omega) | omega))))⟩
  case round =>
    obtain ⟨j, A, c, hj, rfl, hsz, hown, x0, x1, r0, r1, fx, fr, hb⟩ := hrel
    have HO := Lib.hid hown
    have HB := Lib.hid hb
    clear hown hb
    have hp0 : w.heap.size < wr.heap.size := by omega
    have hp1 : w.heap.size + 1 < wr.heap.size := by omega
    by_cases hj3 : j < 3
    · have hin : inB ((j : Int) + 1) 1 4 = true := by rw [inB_iff]; omega
      go_wp2_with fail
      refine (sNodeNew_yes ((j : Int) + 1) _ hin).mono ?_
      rintro e w1 ⟨rfl, hb⟩
      obtain ⟨hc, hf, hz⟩ := bcell hb
      have kx0 := (hc _ 0 hp1).trans x0
      have kx1 := (hc _ 1 hp1).trans x1
      have kr0 := (hc _ 0 hp0).trans r0
      have kr1 := (hc _ 1 hp0).trans r1
      have kfx : ∀ o, w1.frozen? ⟨w.heap.size + 1, o, none⟩ = false := fun o => (hf _ o hp1).trans (fx o)
      have kfr : ∀ o, w1.frozen? ⟨w.heap.size, o, none⟩ = false := fun o => (hf _ o hp0).trans (fr o)
      have hq0 : w.heap.size < w1.heap.size := by omega
      have hq1 : w.heap.size + 1 < w1.heap.size := by omega
      have HO1 := Lib.hid (HO.out.below hb (Nat.le_refl _))
      have HB1 := Lib.hid (HB.out.trans (hb.mono (by omega)))
      have hz1' : wr.heap.size ≤ w1.heap.size := hz
      clear hc hf hz hb x0 x1 r0 r1 fx fr
      go_wp2_with (at_builtin; go_must (refine wpList_app_rd _ rfl _ _ _ rfl (w.heap.size + 2) 79 i0 _ 10 96 Try.underlying24 hi hz0 hz1 hz2 rfl (by decide) (.slice A j c) j ((newL j).flatMap nodeC) rfl (by exact ((HO1.out.owns nodeC_len).alloc _).alloc _) _ _ 1 1 _ rfl (by exact (Rd_one _ #[.int .i64 ((j : Int) + 1), .int .i64 (-1), .int .i64 1, .int .i64 0, .int .i64 (-1), .int .i64 0, .int .i64 (-1), .int .i64 (-1), .int .i64 0, .slice none 0 0] 79 10 rfl _ (by simp))) (by simp [Value.oneCell']) (by unfold maxLen; omega) (by omega) (by first | with_reducible exact Nat.le_refl _ | (simp; done) | omega | (simp; omega)) ?_))
      intro v5 w5 hown hg hat
      clear hat
      have hown : w5.ownsRow (w.heap.size + 2) 79 10 v5 (j + 1) ((newL (j + 1)).flatMap nodeC) := by rw [newL_next, List.flatMap_append]; exact hown
      obtain ⟨A3, c3, rfl, ho⟩ := OwnL.of_own (l := newL (j + 1)) (n := j + 1) (by simp [newL]) hown
      have C5 := Lib.hid ((((Chg.refl (w.heap.size + 2) wr.heap.size w1).alloc _).alloc _).trans (grown_chg (lo := w.heap.size + 2) (hi := wr.heap.size) hg (fun g e => HO.out.block g e)))
      have HO5 := Lib.hid ho
      clear hown ho hg
      have hs5 : w1.heap.size ≤ w5.heap.size := C5.out.size
      have yx0 := (C5.out.cell hq1 (.inl (by omega))).trans kx0
      have yx1 := (C5.out.cell hq1 (.inl (by omega))).trans kx1
      have yr0 := (C5.out.cell hq0 (.inl (by omega))).trans kr0
      have yr1 := (C5.out.cell hq0 (.inl (by omega))).trans kr1
      have yfx : ∀ o, w5.frozen? ⟨w.heap.size + 1, o, none⟩ = false := fun o => (C5.out.frozen hq1 (.inl (by omega))).trans (kfx o)
      have yfr : ∀ o, w5.frozen? ⟨w.heap.size, o, none⟩ = false := fun o => (C5.out.frozen hq0 (.inl (by omega))).trans (kfr o)
      have HB5 := Lib.hid (HB1.out.trans (C5.out.below (by omega) (by omega)))
      clear C5 kx0 kx1 kr0 kr1 kfx kfr
      have hne : w.heap.size ≠ w.heap.size + 1 := by omega
      go_wp2
      go_roundw
      case rel =>
        have D : Chg (w.heap.size + 1) (w.heap.size + 1 + 1) w5 (w5.setCell ⟨w.heap.size + 1, 0, none⟩ (.slice A3 (j + 1) c3)) := Chg.setCell (p := ⟨w.heap.size + 1, 0, none⟩) (Chg.refl _ _ w5) (Nat.le_refl _) (Nat.lt_succ_self _) _
        have hw0 : w.heap.size < w5.heap.size := by omega
        have e0 : (w5.setCell ⟨w.heap.size + 1, 0, none⟩ (.slice A3 (j + 1) c3)).cell? ⟨w.heap.size + 1, 0, none⟩ = some (.slice A3 (j + 1) c3) := by simp [go_sem, yx0]
        have e1 : (w5.setCell ⟨w.heap.size + 1, 0, none⟩ (.slice A3 (j + 1) c3)).cell? ⟨w.heap.size + 1, 1, none⟩ = some (.slice none 0 0) := by simp [go_sem, yx1]
        have e2 : ∀ o, (w5.setCell ⟨w.heap.size + 1, 0, none⟩ (.slice A3 (j + 1) c3)).frozen? ⟨w.heap.size + 1, o, none⟩ = false := fun o => by simp [go_sem, yfx]
        refine ⟨j + 1, A3, c3, by omega, by go_num, by simp; omega, (HO5.out.chg D (.inr (Nat.le_refl _))).wide (Nat.le_refl _) D.size, e0, e1, (D.cell hw0 (.inl (by omega))).trans yr0, (D.cell hw0 (.inl (by omega))).trans yr1, e2, fun o => (D.frozen hw0 (.inl (by omega))).trans (yfr o), HB5.out.setCell (by show w.heap.size ≤ w.heap.size + 1; omega) _⟩
      case measure => simp [intOf]; omega
    · obtain rfl : j = 3 := by omega
      go_wp2
      refine bodyPost_ret (v := .agg #[.slice A 3 c, .slice none 0 0]) (by simp [results, Try.results32, go_sem, r0, r1]) rfl ⟨A, c, rfl, ?_, ?_⟩
      · refine (newL_own ((HO.out.chg (lo' := w.heap.size) (hi' := w.heap.size + 1) ?_ (.inr (by omega))))).wide (by omega) (by simp only [World.size_setCell]; exact Nat.le_refl _)
        (repeat (first | with_reducible refine Chg.setCell ?_ (by first | exact Nat.le_refl _ | (simp; done) | (simp; omega)) (by first | (simp; done) | (simp; omega)) _ | with_reducible refine Chg.alloc ?_ _ | with_reducible refine Chg.drew ?_)); (with_reducible exact Chg.refl _ _ _)
      · (repeat (first | with_reducible refine Below.setCell ?_ (by first | exact Nat.le_refl _ | (simp; done) | (simp; omega)) _ | with_reducible refine Below.alloc ?_ (by first | exact Nat.le_refl _ | (simp; done) | (simp; omega)) _ | with_reducible refine Below.drew ?_)); (with_reducible exact HB.out)

/-- a net whose pool is empty -/
theorem markNet0_any (A : Option Addr) (n c : Nat) (ln : List NodeD) (P : Option Addr) (d : Nat) (lo hi k : Nat) (w : World) (h : NodesOwn w lo hi A n c ln) (hh : hi ≤ w.heap.size) (hP : P = none ∧ d = 0) (hk0 : 0 < k) (hn : n ≤ 1048576) (hk : k + szND ln ≤ 10000000) :
    Calls Try.prog 14 #[.agg #[.slice A n c, .slice P 0 d], .int .i64 k] w fun e w' => e = .returned (.int .i64 ((k + szND ln : Nat) : Int)) ∧ Chg lo hi w w' ∧ ∃ lm, NodesOwn w' lo hi A n c lm ∧ MixD k ln n lm := by
  obtain ⟨rfl, rfl⟩ := hP
  have H := Lib.hid h
  clear h
  go_enter Try.func14, Try.ntmps14
  go_wp2_with fail
  refine (markNodeS_any A n c ln lo hi k _ (by exact H.out.chg ((Chg.refl 0 0 w).alloc _) (.inr (Nat.zero_le _))) hk0 hn hk).mono ?_
  rintro e w1 ⟨rfl, hc, lm, ho, hm⟩
  have s1 : w1.cell? ⟨w.heap.size, 1, none⟩ = some (.slice none 0 0) := by rw [hc.cell (k := w.heap.size) (by simp) (.inr hh)]; simp
  have HC := Lib.hid ((((Chg.refl lo hi w).alloc _)).trans hc)
  have HO := Lib.hid ho
  have HM := Lib.hid hm
  clear hc ho hm
  go_wp2_with fail
  refine (markNMsgS_any 49 none 0 0 [] 0 0 (k + szND ln) _ ⟨rfl, .inl ⟨rfl, rfl, rfl⟩⟩ (by omega) (by omega) (by omega)).mono ?_
  rintro e w2 ⟨rfl, _, hg⟩
  have HG := Lib.hid hg
  clear hg
  go_wp2_with fail
  go_ret
  refine ⟨by simp, HC.out.trans ⟨HG.out.os, HG.out.tape, HG.out.output, HG.out.size, fun q h1 h2 => HG.out.block q h1 (.inr (Nat.zero_le _))⟩, lm, HO.out.chg HG.out (.inr (Nat.zero_le _)), HM.out⟩
theorem heldNet0_any (A : Option Addr) (n c : Nat) (ln lm : List NodeD) (P : Option Addr) (d : Nat) (k : Nat) (w : World) (h : NodesRd w w.heap.size A n c lm) (hm : MixD k ln n lm) (hP : P = none ∧ d = 0) (hk0 : 0 < k) (hn : n ≤ 1048576) (hk : k + szND ln ≤ 10000000) :
    Calls Try.prog 15 #[.agg #[.slice A n c, .slice P 0 d], .int .i64 k] w fun e w' => e = .returned (.int .i64 ((k + szND ln : Nat) : Int)) ∧ Below w.heap.size w w' := by
  obtain ⟨rfl, rfl⟩ := hP
  have H := Lib.hid h
  have HM := Lib.hid hm
  clear h hm
  have hnn : ¬ ((k + szND ln : Nat) : Int) < 0 := by omega
  have hnn0 : ¬ ((k + szND ln + 0 * 5 : Nat) : Int) < 0 := by omega
  go_enter Try.func15, Try.ntmps15
  go_wp2_with fail
  refine (heldNodeS_any A n c ln lm k _ (by exact (H.out.alloc (Nat.le_refl _) _).more (by simp)) HM.out hk0 hn hk).mono ?_
  rintro e w1 ⟨rfl, hb⟩
  obtain ⟨hc, hf, hz⟩ := bcell hb
  have s1 : w1.cell? ⟨w.heap.size, 1, none⟩ = some (.slice none 0 0) := by rw [hc _ _ (by simp)]; simp
  have HB : Hid (Below w.heap.size w w1) := (by repeat (first | exact Below.refl _ _ | assumption | refine Below.drew ?_ | refine belN ?_ _ | refine Below.alloc ?_ (by first | exact Nat.le_refl _ | (simp; done) | (simp; omega) | omega) _ | refine Below.setCell ?_ (by first | exact Nat.le_refl _ | (simp; done) | (simp; omega) | omega) _ | refine Below.trans ?_ (Below.mono (by assumption) (by first | exact Nat.le_refl _ | (simp; done) | (simp; omega) | omega))))
  clear hc hf hz hb
  go_wp2_with fail
  refine (heldNMsgS_any none 0 0 (k + szND ln) _ ⟨rfl, Rd.nil _ _ _⟩ (by omega) (by omega) (by omega)).mono ?_
  rintro e w2 ⟨rfl, hb⟩
  have HB2 := Lib.hid (HB.out.trans (hb.mono HB.out.size))
  clear hb
  go_wp2_with fail
  go_ret
  exact ⟨by simp, HB2.out⟩
end Go.Proofs.Ytjgaelnonacdkaa
