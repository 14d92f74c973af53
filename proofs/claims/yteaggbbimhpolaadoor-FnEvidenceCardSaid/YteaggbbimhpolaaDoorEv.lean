/- Votes with signatures, evidence: copies, sizes; Culprit. (printed by ev.py) -/
import Derived.Test.YteaggbbimhpolaaDoorSign
import Derived.Test.YteaggbbimhpolaaDoorL
import Derived.WalkKit
import Derived.WalkSpells
import Derived.WalkLawsBesides
import Derived.Lib.Hide
namespace Go.Proofs.YteaggbbimhpolaaDoor
open Go.RowKit

set_option maxHeartbeats 1000000 in
theorem toSVote_any (p : VoteD) (sg : ByteArray) (w : World) :
    Calls Tryd.prog 33 #[.agg #[.int .i64 p.h, .int .i64 p.r, .int .i64 p.st, .string p.id, .int .i64 p.v, .string sg]] w fun e w' => e = .returned (.agg #[.int .i64 p.h, .int .i64 p.r, .int .i64 p.st, .string p.id, .int .i64 p.v, .string sg]) ∧ Below w.heap.size w w' := by
  go_enter Tryd.func33, Tryd.ntmps33
  go_wp2_with fail
  refine (toVote_any p.h p.r p.st p.id p.v _).mono ?_
  rintro e w1 ⟨rfl, hb⟩
  obtain ⟨hc, hf, hz⟩ := bcell hb
  have hz' : w.heap.size + 3 ≤ w1.heap.size := by simp at hz; omega
  have hy := nlt hz'
  have HB : Hid (Below w.heap.size w w1) := (by repeat (first | exact Below.refl _ _ | assumption | refine Below.drew ?_ | refine belN ?_ _ | refine Below.alloc ?_ (by first | exact Nat.le_refl _ | (simp; done) | (simp; omega) | omega) _ | refine Below.setCell ?_ (by first | exact Nat.le_refl _ | (simp; done) | (simp; omega) | omega) _ | refine Below.trans ?_ (Below.mono (by assumption) (by first | exact Nat.le_refl _ | (simp; done) | (simp; omega) | omega))))
  go_wp2
  refine bodyPost_ret (v := .agg #[.int .i64 p.h, .int .i64 p.r, .int .i64 p.st, .string p.id, .int .i64 p.v, .string sg]) (by simp [results, Tryd.results33, go_sem, hc]) rfl ⟨rfl, ?_⟩
  repeat with_reducible refine Below.setCell ?_ (by first | (simp; done) | (simp; omega)) _
  with_reducible exact HB.out
set_option maxHeartbeats 2000000 in
theorem toEvidence_any (e : EvD) (w : World) :
    Calls Tryd.prog 10 #[.agg #[.int .i64 e.a.h, .int .i64 e.a.r, .int .i64 e.a.st, .string e.a.id, .int .i64 e.a.v, .string e.sa, .int .i64 e.b.h, .int .i64 e.b.r, .int .i64 e.b.st, .string e.b.id, .int .i64 e.b.v, .string e.sb]] w fun r w' => r = .returned (.agg #[.int .i64 e.a.h, .int .i64 e.a.r, .int .i64 e.a.st, .string e.a.id, .int .i64 e.a.v, .string e.sa, .int .i64 e.b.h, .int .i64 e.b.r, .int .i64 e.b.st, .string e.b.id, .int .i64 e.b.v, .string e.sb]) ∧ Below w.heap.size w w' := by
  go_enter Tryd.func10, Tryd.ntmps10
  go_wp2_with fail
  refine (toSVote_any e.a e.sa _).mono ?_
  rintro r w1 ⟨rfl, hb⟩
  obtain ⟨hc, hf, hz⟩ := bcell hb
  have hz' : w.heap.size + 3 ≤ w1.heap.size := by simp at hz; omega
  have hy := nlt hz'
  have HB : Hid (Below w.heap.size w w1) := (by repeat (first | exact Below.refl _ _ | assumption | refine Below.drew ?_ | refine belN ?_ _ | refine Below.alloc ?_ (by first | exact Nat.le_refl _ | (simp; done) | (simp; omega) | omega) _ | refine Below.setCell ?_ (by first | exact Nat.le_refl _ | (simp; done) | (simp; omega) | omega) _ | refine Below.trans ?_ (Below.mono (by assumption) (by first | exact Nat.le_refl _ | (simp; done) | (simp; omega) | omega))))
  have Z0 : Blk (((w.alloc (.cells #[.int .i64 e.a.h, .int .i64 e.a.r, .int .i64 e.a.st, .string e.a.id, .int .i64 e.a.v, .string e.sa, .int .i64 e.b.h, .int .i64 e.b.r, .int .i64 e.b.st, .string e.b.id, .int .i64 e.b.v, .string e.sb] 27)).alloc (.cells #[.int .i64 0, .int .i64 0, .int .i64 0, .string ⟨#[]⟩, .int .i64 0, .string ⟨#[]⟩, .int .i64 0, .int .i64 0, .int .i64 0, .string ⟨#[]⟩, .int .i64 0, .string ⟨#[]⟩] 34)).alloc (.cells #[.int .i64 0, .int .i64 0, .int .i64 0, .string ⟨#[]⟩, .int .i64 0, .string ⟨#[]⟩, .int .i64 0, .int .i64 0, .int .i64 0, .string ⟨#[]⟩, .int .i64 0, .string ⟨#[]⟩] 34)) (w.heap.size + 1 + 1) 34 #[.int .i64 0, .int .i64 0, .int .i64 0, .string ⟨#[]⟩, .int .i64 0, .string ⟨#[]⟩, .int .i64 0, .int .i64 0, .int .i64 0, .string ⟨#[]⟩, .int .i64 0, .string ⟨#[]⟩] := blk_newAt _ _ _ _ (by rw [World.size_alloc, World.size_alloc])
  have Y0 : Blk (((w.alloc (.cells #[.int .i64 e.a.h, .int .i64 e.a.r, .int .i64 e.a.st, .string e.a.id, .int .i64 e.a.v, .string e.sa, .int .i64 e.b.h, .int .i64 e.b.r, .int .i64 e.b.st, .string e.b.id, .int .i64 e.b.v, .string e.sb] 27)).alloc (.cells #[.int .i64 0, .int .i64 0, .int .i64 0, .string ⟨#[]⟩, .int .i64 0, .string ⟨#[]⟩, .int .i64 0, .int .i64 0, .int .i64 0, .string ⟨#[]⟩, .int .i64 0, .string ⟨#[]⟩] 34)).alloc (.cells #[.int .i64 0, .int .i64 0, .int .i64 0, .string ⟨#[]⟩, .int .i64 0, .string ⟨#[]⟩, .int .i64 0, .int .i64 0, .int .i64 0, .string ⟨#[]⟩, .int .i64 0, .string ⟨#[]⟩] 34)) (w.heap.size + 1) 34 #[.int .i64 0, .int .i64 0, .int .i64 0, .string ⟨#[]⟩, .int .i64 0, .string ⟨#[]⟩, .int .i64 0, .int .i64 0, .int .i64 0, .string ⟨#[]⟩, .int .i64 0, .string ⟨#[]⟩] := (blk_newAt (w.alloc (.cells #[.int .i64 e.a.h, .int .i64 e.a.r, .int .i64 e.a.st, .string e.a.id, .int .i64 e.a.v, .string e.sa, .int .i64 e.b.h, .int .i64 e.b.r, .int .i64 e.b.st, .string e.b.id, .int .i64 e.b.v, .string e.sb] 27)) (w.heap.size + 1) _ _ (World.size_alloc _ _)).alloc _
  have HZ1 := Z0.below hb Z0.lt
  have HY1 := Y0.below hb Y0.lt
  clear Z0 Y0
  have HZ2 : Hid (Blk ((((((w1.setCell ⟨w.heap.size + 1 + 1, 0, none⟩ (.int .i64 e.a.h)).setCell ⟨w.heap.size + 1 + 1, 1, none⟩ (.int .i64 e.a.r)).setCell ⟨w.heap.size + 1 + 1, 2, none⟩ (.int .i64 e.a.st)).setCell ⟨w.heap.size + 1 + 1, 3, none⟩ (.string e.a.id)).setCell ⟨w.heap.size + 1 + 1, 4, none⟩ (.int .i64 e.a.v)).setCell ⟨w.heap.size + 1 + 1, 5, none⟩ (.string e.sa)) (w.heap.size + 1 + 1) 34 #[.int .i64 e.a.h, .int .i64 e.a.r, .int .i64 e.a.st, .string e.a.id, .int .i64 e.a.v, .string e.sa, .int .i64 0, .int .i64 0, .int .i64 0, .string ⟨#[]⟩, .int .i64 0, .string ⟨#[]⟩]) := by
    show Blk _ _ _ _
    have h := ((((((HZ1.set_ 0 (.int .i64 e.a.h)).set_ 1 (.int .i64 e.a.r)).set_ 2 (.int .i64 e.a.st)).set_ 3 (.string e.a.id)).set_ 4 (.int .i64 e.a.v)).set_ 5 (.string e.sa))
    simpa using h
  have HY2 : Hid (Blk ((((((w1.setCell ⟨w.heap.size + 1 + 1, 0, none⟩ (.int .i64 e.a.h)).setCell ⟨w.heap.size + 1 + 1, 1, none⟩ (.int .i64 e.a.r)).setCell ⟨w.heap.size + 1 + 1, 2, none⟩ (.int .i64 e.a.st)).setCell ⟨w.heap.size + 1 + 1, 3, none⟩ (.string e.a.id)).setCell ⟨w.heap.size + 1 + 1, 4, none⟩ (.int .i64 e.a.v)).setCell ⟨w.heap.size + 1 + 1, 5, none⟩ (.string e.sa)) (w.heap.size + 1) 34 #[.int .i64 0, .int .i64 0, .int .i64 0, .string ⟨#[]⟩, .int .i64 0, .string ⟨#[]⟩, .int .i64 0, .int .i64 0, .int .i64 0, .string ⟨#[]⟩, .int .i64 0, .string ⟨#[]⟩]) := ((((((HY1.far (by simp) _).far (by simp) _).far (by simp) _).far (by simp) _).far (by simp) _).far (by simp) _)
  have HB2 : Hid (Below w.heap.size w ((((((w1.setCell ⟨w.heap.size + 1 + 1, 0, none⟩ (.int .i64 e.a.h)).setCell ⟨w.heap.size + 1 + 1, 1, none⟩ (.int .i64 e.a.r)).setCell ⟨w.heap.size + 1 + 1, 2, none⟩ (.int .i64 e.a.st)).setCell ⟨w.heap.size + 1 + 1, 3, none⟩ (.string e.a.id)).setCell ⟨w.heap.size + 1 + 1, 4, none⟩ (.int .i64 e.a.v)).setCell ⟨w.heap.size + 1 + 1, 5, none⟩ (.string e.sa))) := by
    show Below _ _ _
    repeat with_reducible refine Below.setCell ?_ (by first | (simp; done) | (simp; omega)) _
    with_reducible exact HB.out
  go_wp2_with fail
  clear hc hf hz hz' hy HZ1 HY1 hb
  generalize ((((((w1.setCell ⟨w.heap.size + 1 + 1, 0, none⟩ (.int .i64 e.a.h)).setCell ⟨w.heap.size + 1 + 1, 1, none⟩ (.int .i64 e.a.r)).setCell ⟨w.heap.size + 1 + 1, 2, none⟩ (.int .i64 e.a.st)).setCell ⟨w.heap.size + 1 + 1, 3, none⟩ (.string e.a.id)).setCell ⟨w.heap.size + 1 + 1, 4, none⟩ (.int .i64 e.a.v)).setCell ⟨w.heap.size + 1 + 1, 5, none⟩ (.string e.sa)) = wc at *
  refine (toSVote_any e.b e.sb _).mono ?_
  rintro r w2 ⟨rfl, hb2⟩
  have HZ3 := HZ2.out.below hb2 HZ2.out.lt
  have HY3 := HY2.out.below hb2 HY2.out.lt
  have zf := HZ3.frozen
  have yf := HY3.frozen
  have z0 : w2.cell? ⟨w.heap.size + 1 + 1, 0, none⟩ = some (.int .i64 e.a.h) := (HZ3.cell 0).trans rfl
  have z1 : w2.cell? ⟨w.heap.size + 1 + 1, 1, none⟩ = some (.int .i64 e.a.r) := (HZ3.cell 1).trans rfl
  have z2 : w2.cell? ⟨w.heap.size + 1 + 1, 2, none⟩ = some (.int .i64 e.a.st) := (HZ3.cell 2).trans rfl
  have z3 : w2.cell? ⟨w.heap.size + 1 + 1, 3, none⟩ = some (.string e.a.id) := (HZ3.cell 3).trans rfl
  have z4 : w2.cell? ⟨w.heap.size + 1 + 1, 4, none⟩ = some (.int .i64 e.a.v) := (HZ3.cell 4).trans rfl
  have z5 : w2.cell? ⟨w.heap.size + 1 + 1, 5, none⟩ = some (.string e.sa) := (HZ3.cell 5).trans rfl
  have z6 : w2.cell? ⟨w.heap.size + 1 + 1, 6, none⟩ = some (.int .i64 0) := (HZ3.cell 6).trans rfl
  have z7 : w2.cell? ⟨w.heap.size + 1 + 1, 7, none⟩ = some (.int .i64 0) := (HZ3.cell 7).trans rfl
  have z8 : w2.cell? ⟨w.heap.size + 1 + 1, 8, none⟩ = some (.int .i64 0) := (HZ3.cell 8).trans rfl
  have z9 : w2.cell? ⟨w.heap.size + 1 + 1, 9, none⟩ = some (.string ⟨#[]⟩) := (HZ3.cell 9).trans rfl
  have z10 : w2.cell? ⟨w.heap.size + 1 + 1, 10, none⟩ = some (.int .i64 0) := (HZ3.cell 10).trans rfl
  have z11 : w2.cell? ⟨w.heap.size + 1 + 1, 11, none⟩ = some (.string ⟨#[]⟩) := (HZ3.cell 11).trans rfl
  have y0 : w2.cell? ⟨w.heap.size + 1, 0, none⟩ = some (.int .i64 0) := (HY3.cell 0).trans rfl
  have y1 : w2.cell? ⟨w.heap.size + 1, 1, none⟩ = some (.int .i64 0) := (HY3.cell 1).trans rfl
  have y2 : w2.cell? ⟨w.heap.size + 1, 2, none⟩ = some (.int .i64 0) := (HY3.cell 2).trans rfl
  have y3 : w2.cell? ⟨w.heap.size + 1, 3, none⟩ = some (.string ⟨#[]⟩) := (HY3.cell 3).trans rfl
  have y4 : w2.cell? ⟨w.heap.size + 1, 4, none⟩ = some (.int .i64 0) := (HY3.cell 4).trans rfl
  have y5 : w2.cell? ⟨w.heap.size + 1, 5, none⟩ = some (.string ⟨#[]⟩) := (HY3.cell 5).trans rfl
  have y6 : w2.cell? ⟨w.heap.size + 1, 6, none⟩ = some (.int .i64 0) := (HY3.cell 6).trans rfl
  have y7 : w2.cell? ⟨w.heap.size + 1, 7, none⟩ = some (.int .i64 0) := (HY3.cell 7).trans rfl
  have y8 : w2.cell? ⟨w.heap.size + 1, 8, none⟩ = some (.int .i64 0) := (HY3.cell 8).trans rfl
  have y9 : w2.cell? ⟨w.heap.size + 1, 9, none⟩ = some (.string ⟨#[]⟩) := (HY3.cell 9).trans rfl
  have y10 : w2.cell? ⟨w.heap.size + 1, 10, none⟩ = some (.int .i64 0) := (HY3.cell 10).trans rfl
  have y11 : w2.cell? ⟨w.heap.size + 1, 11, none⟩ = some (.string ⟨#[]⟩) := (HY3.cell 11).trans rfl
  have HB3 : Hid (Below w.heap.size w w2) := HB2.out.trans (hb2.mono HB2.out.size)
  clear HZ3 HY3 hb2
  go_wp2
  refine bodyPost_ret (v := .agg #[.int .i64 e.a.h, .int .i64 e.a.r, .int .i64 e.a.st, .string e.a.id, .int .i64 e.a.v, .string e.sa, .int .i64 e.b.h, .int .i64 e.b.r, .int .i64 e.b.st, .string e.b.id, .int .i64 e.b.v, .string e.sb]) (by simp [results, Tryd.results10, go_sem, y0, y1, y2, y3, y4, y5, y6, y7, y8, y9, y10, y11]) rfl ⟨rfl, ?_⟩
  repeat with_reducible refine Below.setCell ?_ (by first | (simp; done) | (simp; omega)) _
  with_reducible exact HB3.out
def SzRes (left : Int) (w : World) (e : Ending) (w' : World) : Prop := ∃ r : Int, e = .returned (.int .i64 r) ∧ -1 ≤ r ∧ r ≤ left ∧ Below w.heap.size w w'
theorem szSVote_any (p : VoteD) (sg : ByteArray) (left : Int) (w : World) (hl : 0 ≤ left) (hm : left ≤ 1048576) (hs : p.id.size ≤ maxLen) (hs2 : sg.size ≤ maxLen) :
    Calls Tryd.prog 31 #[.agg #[.int .i64 p.h, .int .i64 p.r, .int .i64 p.st, .string p.id, .int .i64 p.v, .string sg], .int .i64 left] w (SzRes left w) := by
  have hs' := hs
  have hs2' := hs2
  unfold maxLen at hs' hs2'
  by_cases h1 : left < p.id.size
  · have HS : ∀ wx : World, Hid (Calls Tryd.prog 42 #[.agg #[.int .i64 p.h, .int .i64 p.r, .int .i64 p.st, .string p.id, .int .i64 p.v], .int .i64 left] wx fun e w' => e = .returned (.int .i64 (-1)) ∧ Below wx.heap.size wx w') := fun wx => by
      have h := szVote_any p.h p.r p.st p.id p.v left wx hl hm hs
      rw [if_pos h1] at h
      exact h
    go_enter Tryd.func31, Tryd.ntmps31
    go_wp2_with (go_at_call 42; (with_reducible refine (HS _).out.mono ?_); rintro e w1 ⟨rfl, hb⟩)
    go_ret
    exact ⟨_, rfl, by omega, by omega, ((Below.refl _ _).alloc (Nat.le_refl _) _).trans (hb.mono (by rw [World.size_alloc]; omega))⟩
  · have HS : ∀ wx : World, Hid (Calls Tryd.prog 42 #[.agg #[.int .i64 p.h, .int .i64 p.r, .int .i64 p.st, .string p.id, .int .i64 p.v], .int .i64 left] wx fun e w' => e = .returned (.int .i64 (left - p.id.size)) ∧ Below wx.heap.size wx w') := fun wx => by
      have h := szVote_any p.h p.r p.st p.id p.v left wx hl hm hs
      rw [if_neg h1] at h
      exact h
    have h1' : (p.id.size : Int) ≤ left := by omega
    by_cases h2 : left - p.id.size < sg.size
    all_goals
      go_enter Tryd.func31, Tryd.ntmps31
      go_wp2_with (go_at_call 42; (with_reducible refine (HS _).out.mono ?_); rintro e w1 ⟨rfl, hb⟩; have hc := (bcell hb).1; have t5 : w1.cell? ⟨w.heap.size, 5, none⟩ = some (.string sg) := (by rw [hc _ _ (by rw [World.size_alloc]; omega)]; simp); clear hc)
      go_ret
      exact ⟨_, rfl, by omega, by omega, ((Below.refl _ _).alloc (Nat.le_refl _) _).trans (hb.mono (by rw [World.size_alloc]; omega))⟩
theorem szEvidence_any (e : EvD) (left : Int) (w : World) (hl : 0 ≤ left) (hm : left ≤ 1048576) (h1 : e.a.id.size ≤ maxLen) (h2 : e.sa.size ≤ maxLen) (h3 : e.b.id.size ≤ maxLen) (h4 : e.sb.size ≤ maxLen) :
    Calls Tryd.prog 8 #[.agg #[.int .i64 e.a.h, .int .i64 e.a.r, .int .i64 e.a.st, .string e.a.id, .int .i64 e.a.v, .string e.sa, .int .i64 e.b.h, .int .i64 e.b.r, .int .i64 e.b.st, .string e.b.id, .int .i64 e.b.v, .string e.sb], .int .i64 left] w (SzRes left w) := by
  go_enter Tryd.func8, Tryd.ntmps8
  go_wp2_with fail
  refine (szSVote_any e.a e.sa left _ hl hm h1 h2).mono ?_
  rintro r w1 ⟨r1, rfl, q0, q1, hb⟩
  have A0 : Blk (w.alloc (.cells #[.int .i64 e.a.h, .int .i64 e.a.r, .int .i64 e.a.st, .string e.a.id, .int .i64 e.a.v, .string e.sa, .int .i64 e.b.h, .int .i64 e.b.r, .int .i64 e.b.st, .string e.b.id, .int .i64 e.b.v, .string e.sb] 27)) w.heap.size 27 #[.int .i64 e.a.h, .int .i64 e.a.r, .int .i64 e.a.st, .string e.a.id, .int .i64 e.a.v, .string e.sa, .int .i64 e.b.h, .int .i64 e.b.r, .int .i64 e.b.st, .string e.b.id, .int .i64 e.b.v, .string e.sb] := heap_alloc_new w _
  have A1 := A0.below hb A0.lt
  have HB1 : Hid (Below w.heap.size w w1) := ((Below.refl _ _).alloc (Nat.le_refl _) _).trans (hb.mono (by rw [World.size_alloc]; omega))
  have t6 : w1.cell? ⟨w.heap.size, 6, none⟩ = some (.int .i64 e.b.h) := (A1.cell 6).trans rfl
  have t7 : w1.cell? ⟨w.heap.size, 7, none⟩ = some (.int .i64 e.b.r) := (A1.cell 7).trans rfl
  have t8 : w1.cell? ⟨w.heap.size, 8, none⟩ = some (.int .i64 e.b.st) := (A1.cell 8).trans rfl
  have t9 : w1.cell? ⟨w.heap.size, 9, none⟩ = some (.string e.b.id) := (A1.cell 9).trans rfl
  have t10 : w1.cell? ⟨w.heap.size, 10, none⟩ = some (.int .i64 e.b.v) := (A1.cell 10).trans rfl
  have t11 : w1.cell? ⟨w.heap.size, 11, none⟩ = some (.string e.sb) := (A1.cell 11).trans rfl
  clear A0 A1 hb
  by_cases hr : r1 < 0
  · go_wp2_with fail
    go_ret
    exact ⟨_, rfl, by omega, by omega, HB1.out⟩
  · go_wp2_with fail
    refine (szSVote_any e.b e.sb r1 _ (by omega) (by omega) h3 h4).mono ?_
    rintro r w2 ⟨r2, rfl, q2, q3, hb2⟩
    by_cases hr2 : r2 < 0
    all_goals
      go_wp2_with fail
      go_ret
      exact ⟨_, rfl, by omega, by omega, HB1.out.trans (hb2.mono HB1.out.size)⟩

theorem Culprit_any (e : EvD) (w : World) (ht : Tab w) :
    Calls Tryd.prog 13 #[.agg #[.int .i64 e.a.h, .int .i64 e.a.r, .int .i64 e.a.st, .string e.a.id, .int .i64 e.a.v, .string e.sa, .int .i64 e.b.h, .int .i64 e.b.r, .int .i64 e.b.st, .string e.b.id, .int .i64 e.b.v, .string e.sb]] w fun r w' => r = .returned (.int .i64 (if evB e = true then e.a.v else 0)) ∧ Below w.heap.size w w' := by
  have HX : Hid (Calls Tryd.prog 11 #[.agg #[.int .i64 e.a.h, .int .i64 e.a.r, .int .i64 e.a.st, .string e.a.id, .int .i64 e.a.v, .string e.sa, .int .i64 e.b.h, .int .i64 e.b.r, .int .i64 e.b.st, .string e.b.id, .int .i64 e.b.v, .string e.sb]] (w.alloc (.cells #[.int .i64 e.a.h, .int .i64 e.a.r, .int .i64 e.a.st, .string e.a.id, .int .i64 e.a.v, .string e.sa, .int .i64 e.b.h, .int .i64 e.b.r, .int .i64 e.b.st, .string e.b.id, .int .i64 e.b.v, .string e.sb] 34)) fun r w' => r = .returned (.bool (evB e)) ∧ Below (w.alloc (.cells #[.int .i64 e.a.h, .int .i64 e.a.r, .int .i64 e.a.st, .string e.a.id, .int .i64 e.a.v, .string e.sa, .int .i64 e.b.h, .int .i64 e.b.r, .int .i64 e.b.st, .string e.b.id, .int .i64 e.b.v, .string e.sb] 34)).heap.size (w.alloc (.cells #[.int .i64 e.a.h, .int .i64 e.a.r, .int .i64 e.a.st, .string e.a.id, .int .i64 e.a.v, .string e.sa, .int .i64 e.b.h, .int .i64 e.b.r, .int .i64 e.b.st, .string e.b.id, .int .i64 e.b.v, .string e.sb] 34)) w') := EvidOk_any e _ (ht.alloc _)
  have A0 : Hid (Blk (w.alloc (.cells #[.int .i64 e.a.h, .int .i64 e.a.r, .int .i64 e.a.st, .string e.a.id, .int .i64 e.a.v, .string e.sa, .int .i64 e.b.h, .int .i64 e.b.r, .int .i64 e.b.st, .string e.b.id, .int .i64 e.b.v, .string e.sb] 34)) w.heap.size 34 #[.int .i64 e.a.h, .int .i64 e.a.r, .int .i64 e.a.st, .string e.a.id, .int .i64 e.a.v, .string e.sa, .int .i64 e.b.h, .int .i64 e.b.r, .int .i64 e.b.st, .string e.b.id, .int .i64 e.b.v, .string e.sb]) := heap_alloc_new w _
  have HB0 : Hid (Below w.heap.size w (w.alloc (.cells #[.int .i64 e.a.h, .int .i64 e.a.r, .int .i64 e.a.st, .string e.a.id, .int .i64 e.a.v, .string e.sa, .int .i64 e.b.h, .int .i64 e.b.r, .int .i64 e.b.st, .string e.b.id, .int .i64 e.b.v, .string e.sb] 34))) := (Below.refl _ _).alloc (Nat.le_refl _) _
  generalize evB e = g at *
  cases g
  all_goals
    go_enter Tryd.func13, Tryd.ntmps13
    go_wp2_with (go_at_call 11; (with_reducible refine HX.out.mono ?_); rintro r w1 ⟨rfl, hb⟩; have t4 : w1.cell? ⟨w.heap.size, 4, none⟩ = some (.int .i64 e.a.v) := ((A0.out.below hb A0.out.lt).cell 4).trans rfl)
    go_ret
    exact ⟨rfl, HB0.out.trans (hb.mono HB0.out.size)⟩

theorem sCulprit_any (e : EvD) (w : World) :
    Calls Tryd.prog 12 #[.agg #[.int .i64 e.a.h, .int .i64 e.a.r, .int .i64 e.a.st, .string e.a.id, .int .i64 e.a.v, .string e.sa, .int .i64 e.b.h, .int .i64 e.b.r, .int .i64 e.b.st, .string e.b.id, .int .i64 e.b.v, .string e.sb]] w fun r w' => r = .returned (.int .i64 (if evB e = true then e.a.v else 0)) ∧ Below w.heap.size w w' := by
  have HX : Hid (Calls Tryd.prog 9 #[.agg #[.int .i64 e.a.h, .int .i64 e.a.r, .int .i64 e.a.st, .string e.a.id, .int .i64 e.a.v, .string e.sa, .int .i64 e.b.h, .int .i64 e.b.r, .int .i64 e.b.st, .string e.b.id, .int .i64 e.b.v, .string e.sb]] (w.alloc (.cells #[.int .i64 e.a.h, .int .i64 e.a.r, .int .i64 e.a.st, .string e.a.id, .int .i64 e.a.v, .string e.sa, .int .i64 e.b.h, .int .i64 e.b.r, .int .i64 e.b.st, .string e.b.id, .int .i64 e.b.v, .string e.sb] 34)) fun r w' => r = .returned (.bool (evB e)) ∧ Below (w.alloc (.cells #[.int .i64 e.a.h, .int .i64 e.a.r, .int .i64 e.a.st, .string e.a.id, .int .i64 e.a.v, .string e.sa, .int .i64 e.b.h, .int .i64 e.b.r, .int .i64 e.b.st, .string e.b.id, .int .i64 e.b.v, .string e.sb] 34)).heap.size (w.alloc (.cells #[.int .i64 e.a.h, .int .i64 e.a.r, .int .i64 e.a.st, .string e.a.id, .int .i64 e.a.v, .string e.sa, .int .i64 e.b.h, .int .i64 e.b.r, .int .i64 e.b.st, .string e.b.id, .int .i64 e.b.v, .string e.sb] 34)) w') := sEvidOk_any e _
  have A0 : Hid (Blk (w.alloc (.cells #[.int .i64 e.a.h, .int .i64 e.a.r, .int .i64 e.a.st, .string e.a.id, .int .i64 e.a.v, .string e.sa, .int .i64 e.b.h, .int .i64 e.b.r, .int .i64 e.b.st, .string e.b.id, .int .i64 e.b.v, .string e.sb] 34)) w.heap.size 34 #[.int .i64 e.a.h, .int .i64 e.a.r, .int .i64 e.a.st, .string e.a.id, .int .i64 e.a.v, .string e.sa, .int .i64 e.b.h, .int .i64 e.b.r, .int .i64 e.b.st, .string e.b.id, .int .i64 e.b.v, .string e.sb]) := heap_alloc_new w _
  have HB0 : Hid (Below w.heap.size w (w.alloc (.cells #[.int .i64 e.a.h, .int .i64 e.a.r, .int .i64 e.a.st, .string e.a.id, .int .i64 e.a.v, .string e.sa, .int .i64 e.b.h, .int .i64 e.b.r, .int .i64 e.b.st, .string e.b.id, .int .i64 e.b.v, .string e.sb] 34))) := (Below.refl _ _).alloc (Nat.le_refl _) _
  generalize evB e = g at *
  cases g
  all_goals
    go_enter Tryd.func12, Tryd.ntmps12
    go_wp2_with (go_at_call 9; (with_reducible refine HX.out.mono ?_); rintro r w1 ⟨rfl, hb⟩; have t4 : w1.cell? ⟨w.heap.size, 4, none⟩ = some (.int .i64 e.a.v) := ((A0.out.below hb A0.out.lt).cell 4).trans rfl)
    go_ret
    exact ⟨rfl, HB0.out.trans (hb.mono HB0.out.size)⟩
end Go.Proofs.YteaggbbimhpolaaDoor
