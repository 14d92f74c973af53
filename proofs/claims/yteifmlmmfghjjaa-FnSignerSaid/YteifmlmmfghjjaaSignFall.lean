/- SignFall of the program and of the reference. -/
import Derived.Test.YteifmlmmfghjjaaSgnFun
import Derived.WalkKit
import Derived.WalkSpells
import Derived.WalkLawsBesides
import Derived.Lib.Hide
namespace Go.Proofs.Yteifmlmmfghjjaa
open Go.RowKit

def zeroS : SignS := ⟨0, 0, 0, 0, ⟨#[]⟩, 0, 0, 0, ⟨#[]⟩, false⟩
theorem signB_len {s : SignS} {l : List VoteD} (h : signB s l = true) : l.length ≤ 60 := by
  simp only [signB, Bool.and_eq_true, decide_eq_true_eq] at h
  omega
def fallS (s : SignS) (l : List VoteD) : SignS := if signB s l = true then ⟨s.val, s.dh, s.dr, s.ds, s.di, s.dh, s.dr, s.ds, s.di, false⟩ else zeroS
def fallL (s : SignS) (l : List VoteD) : List VoteD := if signB s l = true then l else []
def fallB (s : SignS) (l : List VoteD) : Bool := signB s l
theorem SignFall_len (s : SignS) (l : List VoteD) : (fallL s l).length ≤ l.length + 1 := by
  unfold fallL; split <;> simp

set_option maxHeartbeats 2000000 in
theorem SignFall_any (s : SignS) (A : Option Addr) (c : Nat) (l : List VoteD) (w : World) (hl : RdL voteC 5 w w.heap.size A l.length c l) :
    Calls Try.prog 14 #[.agg #[.int .i64 s.val, .int .i64 s.dh, .int .i64 s.dr, .int .i64 s.ds, .string s.di, .int .i64 s.mh, .int .i64 s.mr, .int .i64 s.ms, .string s.mi, .bool s.pend, .slice A l.length c]] w (SignerOutK (fallS s l) (fallL s l) (.bool (fallB s l)) w) := by
  have HL := Lib.hid hl
  clear hl
  cases hB : signB s l
  · have E1 : Hid (fallS s l = zeroS) := by show _ = _; simp [fallS, hB]
    have E2 : Hid (fallL s l = []) := by show _ = _; simp [fallL, hB]
    have E3 : Hid (fallB s l = false) := by show _ = _; simp [fallB, hB]
    have HB := Lib.hid hB
    clear hB
    go_enter Try.func14, Try.ntmps14
    go_wp2_with fail
    refine (SignerOk_any s A l.length c l _ (by exact ((HL.out.alloc (Nat.le_refl _) _).alloc (by simp) _).more (by simp; omega))).mono ?_
    rw [HB.out]
    rintro e w1 ⟨rfl, hb⟩
    obtain ⟨hc, hf, hz⟩ := bcell hb
    have hz' : w.heap.size + 2 ≤ w1.heap.size := by simpa using hz
    have tr0 : w1.cell? ⟨w.heap.size + 1, 0, none⟩ = some (.int .i64 0) := by rw [hc _ _ (by simp)]; simp
    have tr1 : w1.cell? ⟨w.heap.size + 1, 1, none⟩ = some (.int .i64 0) := by rw [hc _ _ (by simp)]; simp
    have tr2 : w1.cell? ⟨w.heap.size + 1, 2, none⟩ = some (.int .i64 0) := by rw [hc _ _ (by simp)]; simp
    have tr3 : w1.cell? ⟨w.heap.size + 1, 3, none⟩ = some (.int .i64 0) := by rw [hc _ _ (by simp)]; simp
    have tr4 : w1.cell? ⟨w.heap.size + 1, 4, none⟩ = some (.string ⟨#[]⟩) := by rw [hc _ _ (by simp)]; simp
    have tr5 : w1.cell? ⟨w.heap.size + 1, 5, none⟩ = some (.int .i64 0) := by rw [hc _ _ (by simp)]; simp
    have tr6 : w1.cell? ⟨w.heap.size + 1, 6, none⟩ = some (.int .i64 0) := by rw [hc _ _ (by simp)]; simp
    have tr7 : w1.cell? ⟨w.heap.size + 1, 7, none⟩ = some (.int .i64 0) := by rw [hc _ _ (by simp)]; simp
    have tr8 : w1.cell? ⟨w.heap.size + 1, 8, none⟩ = some (.string ⟨#[]⟩) := by rw [hc _ _ (by simp)]; simp
    have tr9 : w1.cell? ⟨w.heap.size + 1, 9, none⟩ = some (.bool false) := by rw [hc _ _ (by simp)]; simp
    have tr10 : w1.cell? ⟨w.heap.size + 1, 10, none⟩ = some (.slice none 0 0) := by rw [hc _ _ (by simp)]; simp
    have fr : ∀ o, w1.frozen? ⟨w.heap.size + 1, o, none⟩ = false := fun o => by rw [hf _ _ (by simp)]; simp
    have GB := Lib.hid (Below.trans (show Below w.heap.size w _ by exact (by repeat (first | exact Below.refl _ _ | assumption | refine Below.drew ?_ | refine belN ?_ _ | refine Below.alloc ?_ (by first | exact Nat.le_refl _ | (simp; done) | (simp; omega) | omega) _ | refine Below.setCell ?_ (by first | exact Nat.le_refl _ | (simp; done) | (simp; omega) | omega) _ | refine Below.trans ?_ (Below.mono (by assumption) (by first | exact Nat.le_refl _ | (simp; done) | (simp; omega) | omega))))) (Below.mono hb (by simp; omega)))
    clear hc hf hz hb
    go_wp2
    refine bodyPost_ret (v := .tuple #[.agg #[.int .i64 0, .int .i64 0, .int .i64 0, .int .i64 0, .string ⟨#[]⟩, .int .i64 0, .int .i64 0, .int .i64 0, .string ⟨#[]⟩, .bool false, .slice none 0 0], .bool false]) (by simp [results, Try.results14, go_sem, tr0, tr1, tr2, tr3, tr4, tr5, tr6, tr7, tr8, tr9, tr10]) rfl ?_
    rw [E1.out, E2.out, E3.out]
    refine ⟨none, 0, rfl, ⟨rfl, .inl ⟨rfl, rfl, rfl⟩⟩, ?_⟩
    (repeat (first | with_reducible refine Below.setCell ?_ (by first | exact Nat.le_refl _ | (simp; done) | (simp; omega)) _ | with_reducible refine Below.alloc ?_ (by first | exact Nat.le_refl _ | (simp; done) | (simp; omega)) _ | with_reducible refine Below.drew ?_)); (with_reducible exact GB.out)
  · have hn := signB_len hB
    have E1 : Hid (fallS s l = ⟨s.val, s.dh, s.dr, s.ds, s.di, s.dh, s.dr, s.ds, s.di, false⟩) := by show _ = _; simp [fallS, hB]
    have E2 : Hid (fallL s l = l) := by show _ = _; simp [fallL, hB]
    have E3 : Hid (fallB s l = true) := by show _ = _; simp [fallB, hB]
    have HB := Lib.hid hB
    clear hB
    go_enter Try.func14, Try.ntmps14
    go_wp2_with fail
    refine (SignerOk_any s A l.length c l _ (by exact ((HL.out.alloc (Nat.le_refl _) _).alloc (by simp) _).more (by simp; omega))).mono ?_
    rw [HB.out]
    rintro e w1 ⟨rfl, hb⟩
    obtain ⟨hc, hf, hz⟩ := bcell hb
    have hz' : w.heap.size + 2 ≤ w1.heap.size := by simpa using hz
    have ta0 : w1.cell? ⟨w.heap.size, 0, none⟩ = some (.int .i64 s.val) := by rw [hc _ _ (by simp; omega)]; simp
    have ta1 : w1.cell? ⟨w.heap.size, 1, none⟩ = some (.int .i64 s.dh) := by rw [hc _ _ (by simp; omega)]; simp
    have ta2 : w1.cell? ⟨w.heap.size, 2, none⟩ = some (.int .i64 s.dr) := by rw [hc _ _ (by simp; omega)]; simp
    have ta3 : w1.cell? ⟨w.heap.size, 3, none⟩ = some (.int .i64 s.ds) := by rw [hc _ _ (by simp; omega)]; simp
    have ta4 : w1.cell? ⟨w.heap.size, 4, none⟩ = some (.string s.di) := by rw [hc _ _ (by simp; omega)]; simp
    have ta5 : w1.cell? ⟨w.heap.size, 5, none⟩ = some (.int .i64 s.mh) := by rw [hc _ _ (by simp; omega)]; simp
    have ta6 : w1.cell? ⟨w.heap.size, 6, none⟩ = some (.int .i64 s.mr) := by rw [hc _ _ (by simp; omega)]; simp
    have ta7 : w1.cell? ⟨w.heap.size, 7, none⟩ = some (.int .i64 s.ms) := by rw [hc _ _ (by simp; omega)]; simp
    have ta8 : w1.cell? ⟨w.heap.size, 8, none⟩ = some (.string s.mi) := by rw [hc _ _ (by simp; omega)]; simp
    have ta9 : w1.cell? ⟨w.heap.size, 9, none⟩ = some (.bool s.pend) := by rw [hc _ _ (by simp; omega)]; simp
    have ta10 : w1.cell? ⟨w.heap.size, 10, none⟩ = some (.slice A l.length c) := by rw [hc _ _ (by simp; omega)]; simp
    have tr0 : w1.cell? ⟨w.heap.size + 1, 0, none⟩ = some (.int .i64 0) := by rw [hc _ _ (by simp)]; simp
    have tr1 : w1.cell? ⟨w.heap.size + 1, 1, none⟩ = some (.int .i64 0) := by rw [hc _ _ (by simp)]; simp
    have tr2 : w1.cell? ⟨w.heap.size + 1, 2, none⟩ = some (.int .i64 0) := by rw [hc _ _ (by simp)]; simp
    have tr3 : w1.cell? ⟨w.heap.size + 1, 3, none⟩ = some (.int .i64 0) := by rw [hc _ _ (by simp)]; simp
    have tr4 : w1.cell? ⟨w.heap.size + 1, 4, none⟩ = some (.string ⟨#[]⟩) := by rw [hc _ _ (by simp)]; simp
    have tr5 : w1.cell? ⟨w.heap.size + 1, 5, none⟩ = some (.int .i64 0) := by rw [hc _ _ (by simp)]; simp
    have tr6 : w1.cell? ⟨w.heap.size + 1, 6, none⟩ = some (.int .i64 0) := by rw [hc _ _ (by simp)]; simp
    have tr7 : w1.cell? ⟨w.heap.size + 1, 7, none⟩ = some (.int .i64 0) := by rw [hc _ _ (by simp)]; simp
    have tr8 : w1.cell? ⟨w.heap.size + 1, 8, none⟩ = some (.string ⟨#[]⟩) := by rw [hc _ _ (by simp)]; simp
    have tr9 : w1.cell? ⟨w.heap.size + 1, 9, none⟩ = some (.bool false) := by rw [hc _ _ (by simp)]; simp
    have tr10 : w1.cell? ⟨w.heap.size + 1, 10, none⟩ = some (.slice none 0 0) := by rw [hc _ _ (by simp)]; simp
    have fr : ∀ o, w1.frozen? ⟨w.heap.size + 1, o, none⟩ = false := fun o => by rw [hf _ _ (by simp)]; simp
    have GB := Lib.hid (Below.trans (show Below w.heap.size w _ by exact (by repeat (first | exact Below.refl _ _ | assumption | refine Below.drew ?_ | refine belN ?_ _ | refine Below.alloc ?_ (by first | exact Nat.le_refl _ | (simp; done) | (simp; omega) | omega) _ | refine Below.setCell ?_ (by first | exact Nat.le_refl _ | (simp; done) | (simp; omega) | omega) _ | refine Below.trans ?_ (Below.mono (by assumption) (by first | exact Nat.le_refl _ | (simp; done) | (simp; omega) | omega))))) (Below.mono hb (by simp; omega)))
    clear hc hf hz hb
    go_wp2_with fail
    refine (copySigner_any s A l.length c l _ (by exact (HL.out.below GB.out (Nat.le_refl _)).more GB.out.size) (by omega)).mono ?_
    rintro e w2 ⟨A2, n2, c2, rfl, ho, hb⟩
    obtain rfl : l.length = n2 := ho.1
    have HO := Lib.hid ho
    clear ho
    obtain ⟨hc, hf, hz⟩ := bcell hb
    have hp0 : w.heap.size < w1.heap.size := by omega
    have hp1 : w.heap.size + 1 < w1.heap.size := by omega
    have hq0 : w.heap.size < w2.heap.size := by omega
    have hq1 : w.heap.size + 1 < w2.heap.size := by omega
    have ua0 := (hc w.heap.size 0 hp0).trans ta0
    have ua1 := (hc w.heap.size 1 hp0).trans ta1
    have ua2 := (hc w.heap.size 2 hp0).trans ta2
    have ua3 := (hc w.heap.size 3 hp0).trans ta3
    have ua4 := (hc w.heap.size 4 hp0).trans ta4
    have ua5 := (hc w.heap.size 5 hp0).trans ta5
    have ua6 := (hc w.heap.size 6 hp0).trans ta6
    have ua7 := (hc w.heap.size 7 hp0).trans ta7
    have ua8 := (hc w.heap.size 8 hp0).trans ta8
    have ua9 := (hc w.heap.size 9 hp0).trans ta9
    have ua10 := (hc w.heap.size 10 hp0).trans ta10
    have ur0 := (hc (w.heap.size + 1) 0 hp1).trans tr0
    have ur1 := (hc (w.heap.size + 1) 1 hp1).trans tr1
    have ur2 := (hc (w.heap.size + 1) 2 hp1).trans tr2
    have ur3 := (hc (w.heap.size + 1) 3 hp1).trans tr3
    have ur4 := (hc (w.heap.size + 1) 4 hp1).trans tr4
    have ur5 := (hc (w.heap.size + 1) 5 hp1).trans tr5
    have ur6 := (hc (w.heap.size + 1) 6 hp1).trans tr6
    have ur7 := (hc (w.heap.size + 1) 7 hp1).trans tr7
    have ur8 := (hc (w.heap.size + 1) 8 hp1).trans tr8
    have ur9 := (hc (w.heap.size + 1) 9 hp1).trans tr9
    have ur10 := (hc (w.heap.size + 1) 10 hp1).trans tr10
    have vr : ∀ o, w2.frozen? ⟨w.heap.size + 1, o, none⟩ = false := fun o => (hf _ _ hp1).trans (fr o)
    have GB2 := Lib.hid (GB.out.trans (Below.mono hb (by omega)))
    clear hc hf hz hb fr ta0 ta1 ta2 ta3 ta4 ta5 ta6 ta7 ta8 ta9 ta10 tr0 tr1 tr2 tr3 tr4 tr5 tr6 tr7 tr8 tr9 tr10
    go_wp2
    refine bodyPost_ret (v := .tuple #[.agg #[.int .i64 s.val, .int .i64 s.dh, .int .i64 s.dr, .int .i64 s.ds, .string s.di, .int .i64 s.dh, .int .i64 s.dr, .int .i64 s.ds, .string s.di, .bool false, .slice A2 l.length c2], .bool true]) (by simp [results, Try.results14, go_sem, ur0, ur1, ur2, ur3, ur4, ur5, ur6, ur7, ur8, ur9, ur10, hq1]) rfl ?_
    rw [E1.out, E2.out, E3.out]
    refine ⟨A2, c2, rfl, ?_, ?_⟩
    · refine ((HO.out.chg (lo' := w.heap.size) (hi' := w.heap.size + 2) ?_ (.inr (by omega))).wide (by omega) (by simp))
      (repeat (first | with_reducible refine Chg.setCell ?_ (by first | exact Nat.le_refl _ | (simp; done) | (simp; omega)) (by first | (simp; done) | (simp; omega)) _ | with_reducible refine Chg.alloc ?_ _ | with_reducible refine Chg.drew ?_)); (with_reducible exact Chg.refl _ _ _)
    · (repeat (first | with_reducible refine Below.setCell ?_ (by first | exact Nat.le_refl _ | (simp; done) | (simp; omega)) _ | with_reducible refine Below.alloc ?_ (by first | exact Nat.le_refl _ | (simp; done) | (simp; omega)) _ | with_reducible refine Below.drew ?_)); (with_reducible exact GB2.out)

set_option maxHeartbeats 2000000 in
theorem sSignFall_any (s : SignS) (A : Option Addr) (c : Nat) (l : List VoteD) (w : World) (hl : RdL voteC 5 w w.heap.size A l.length c l) :
    Calls Try.prog 13 #[.agg #[.int .i64 s.val, .int .i64 s.dh, .int .i64 s.dr, .int .i64 s.ds, .string s.di, .int .i64 s.mh, .int .i64 s.mr, .int .i64 s.ms, .string s.mi, .bool s.pend, .slice A l.length c]] w (SignerOutK (fallS s l) (fallL s l) (.bool (fallB s l)) w) := by
  have HL := Lib.hid hl
  clear hl
  cases hB : signB s l
  · have E1 : Hid (fallS s l = zeroS) := by show _ = _; simp [fallS, hB]
    have E2 : Hid (fallL s l = []) := by show _ = _; simp [fallL, hB]
    have E3 : Hid (fallB s l = false) := by show _ = _; simp [fallB, hB]
    have HB := Lib.hid hB
    clear hB
    go_enter Try.func13, Try.ntmps13
    go_wp2_with fail
    refine (sSignerOk_any s A l.length c l _ (by exact ((HL.out.alloc (Nat.le_refl _) _).alloc (by simp) _).more (by simp; omega))).mono ?_
    rw [HB.out]
    rintro e w1 ⟨rfl, hb⟩
    obtain ⟨hc, hf, hz⟩ := bcell hb
    have hz' : w.heap.size + 2 ≤ w1.heap.size := by simpa using hz
    have tr0 : w1.cell? ⟨w.heap.size + 1, 0, none⟩ = some (.int .i64 0) := by rw [hc _ _ (by simp)]; simp
    have tr1 : w1.cell? ⟨w.heap.size + 1, 1, none⟩ = some (.int .i64 0) := by rw [hc _ _ (by simp)]; simp
    have tr2 : w1.cell? ⟨w.heap.size + 1, 2, none⟩ = some (.int .i64 0) := by rw [hc _ _ (by simp)]; simp
    have tr3 : w1.cell? ⟨w.heap.size + 1, 3, none⟩ = some (.int .i64 0) := by rw [hc _ _ (by simp)]; simp
    have tr4 : w1.cell? ⟨w.heap.size + 1, 4, none⟩ = some (.string ⟨#[]⟩) := by rw [hc _ _ (by simp)]; simp
    have tr5 : w1.cell? ⟨w.heap.size + 1, 5, none⟩ = some (.int .i64 0) := by rw [hc _ _ (by simp)]; simp
    have tr6 : w1.cell? ⟨w.heap.size + 1, 6, none⟩ = some (.int .i64 0) := by rw [hc _ _ (by simp)]; simp
    have tr7 : w1.cell? ⟨w.heap.size + 1, 7, none⟩ = some (.int .i64 0) := by rw [hc _ _ (by simp)]; simp
    have tr8 : w1.cell? ⟨w.heap.size + 1, 8, none⟩ = some (.string ⟨#[]⟩) := by rw [hc _ _ (by simp)]; simp
    have tr9 : w1.cell? ⟨w.heap.size + 1, 9, none⟩ = some (.bool false) := by rw [hc _ _ (by simp)]; simp
    have tr10 : w1.cell? ⟨w.heap.size + 1, 10, none⟩ = some (.slice none 0 0) := by rw [hc _ _ (by simp)]; simp
    have fr : ∀ o, w1.frozen? ⟨w.heap.size + 1, o, none⟩ = false := fun o => by rw [hf _ _ (by simp)]; simp
    have GB := Lib.hid (Below.trans (show Below w.heap.size w _ by exact (by repeat (first | exact Below.refl _ _ | assumption | refine Below.drew ?_ | refine belN ?_ _ | refine Below.alloc ?_ (by first | exact Nat.le_refl _ | (simp; done) | (simp; omega) | omega) _ | refine Below.setCell ?_ (by first | exact Nat.le_refl _ | (simp; done) | (simp; omega) | omega) _ | refine Below.trans ?_ (Below.mono (by assumption) (by first | exact Nat.le_refl _ | (simp; done) | (simp; omega) | omega))))) (Below.mono hb (by simp; omega)))
    clear hc hf hz hb
    go_wp2
    refine bodyPost_ret (v := .tuple #[.agg #[.int .i64 0, .int .i64 0, .int .i64 0, .int .i64 0, .string ⟨#[]⟩, .int .i64 0, .int .i64 0, .int .i64 0, .string ⟨#[]⟩, .bool false, .slice none 0 0], .bool false]) (by simp [results, Try.results13, go_sem, tr0, tr1, tr2, tr3, tr4, tr5, tr6, tr7, tr8, tr9, tr10]) rfl ?_
    rw [E1.out, E2.out, E3.out]
    refine ⟨none, 0, rfl, ⟨rfl, .inl ⟨rfl, rfl, rfl⟩⟩, ?_⟩
    (repeat (first | with_reducible refine Below.setCell ?_ (by first | exact Nat.le_refl _ | (simp; done) | (simp; omega)) _ | with_reducible refine Below.alloc ?_ (by first | exact Nat.le_refl _ | (simp; done) | (simp; omega)) _ | with_reducible refine Below.drew ?_)); (with_reducible exact GB.out)
  · have hn := signB_len hB
    have E1 : Hid (fallS s l = ⟨s.val, s.dh, s.dr, s.ds, s.di, s.dh, s.dr, s.ds, s.di, false⟩) := by show _ = _; simp [fallS, hB]
    have E2 : Hid (fallL s l = l) := by show _ = _; simp [fallL, hB]
    have E3 : Hid (fallB s l = true) := by show _ = _; simp [fallB, hB]
    have HB := Lib.hid hB
    clear hB
    go_enter Try.func13, Try.ntmps13
    go_wp2_with fail
    refine (sSignerOk_any s A l.length c l _ (by exact ((HL.out.alloc (Nat.le_refl _) _).alloc (by simp) _).more (by simp; omega))).mono ?_
    rw [HB.out]
    rintro e w1 ⟨rfl, hb⟩
    obtain ⟨hc, hf, hz⟩ := bcell hb
    have hz' : w.heap.size + 2 ≤ w1.heap.size := by simpa using hz
    have ta0 : w1.cell? ⟨w.heap.size, 0, none⟩ = some (.int .i64 s.val) := by rw [hc _ _ (by simp; omega)]; simp
    have ta1 : w1.cell? ⟨w.heap.size, 1, none⟩ = some (.int .i64 s.dh) := by rw [hc _ _ (by simp; omega)]; simp
    have ta2 : w1.cell? ⟨w.heap.size, 2, none⟩ = some (.int .i64 s.dr) := by rw [hc _ _ (by simp; omega)]; simp
    have ta3 : w1.cell? ⟨w.heap.size, 3, none⟩ = some (.int .i64 s.ds) := by rw [hc _ _ (by simp; omega)]; simp
    have ta4 : w1.cell? ⟨w.heap.size, 4, none⟩ = some (.string s.di) := by rw [hc _ _ (by simp; omega)]; simp
    have ta5 : w1.cell? ⟨w.heap.size, 5, none⟩ = some (.int .i64 s.mh) := by rw [hc _ _ (by simp; omega)]; simp
    have ta6 : w1.cell? ⟨w.heap.size, 6, none⟩ = some (.int .i64 s.mr) := by rw [hc _ _ (by simp; omega)]; simp
    have ta7 : w1.cell? ⟨w.heap.size, 7, none⟩ = some (.int .i64 s.ms) := by rw [hc _ _ (by simp; omega)]; simp
    have ta8 : w1.cell? ⟨w.heap.size, 8, none⟩ = some (.string s.mi) := by rw [hc _ _ (by simp; omega)]; simp
    have ta9 : w1.cell? ⟨w.heap.size, 9, none⟩ = some (.bool s.pend) := by rw [hc _ _ (by simp; omega)]; simp
    have ta10 : w1.cell? ⟨w.heap.size, 10, none⟩ = some (.slice A l.length c) := by rw [hc _ _ (by simp; omega)]; simp
    have tr0 : w1.cell? ⟨w.heap.size + 1, 0, none⟩ = some (.int .i64 0) := by rw [hc _ _ (by simp)]; simp
    have tr1 : w1.cell? ⟨w.heap.size + 1, 1, none⟩ = some (.int .i64 0) := by rw [hc _ _ (by simp)]; simp
    have tr2 : w1.cell? ⟨w.heap.size + 1, 2, none⟩ = some (.int .i64 0) := by rw [hc _ _ (by simp)]; simp
    have tr3 : w1.cell? ⟨w.heap.size + 1, 3, none⟩ = some (.int .i64 0) := by rw [hc _ _ (by simp)]; simp
    have tr4 : w1.cell? ⟨w.heap.size + 1, 4, none⟩ = some (.string ⟨#[]⟩) := by rw [hc _ _ (by simp)]; simp
    have tr5 : w1.cell? ⟨w.heap.size + 1, 5, none⟩ = some (.int .i64 0) := by rw [hc _ _ (by simp)]; simp
    have tr6 : w1.cell? ⟨w.heap.size + 1, 6, none⟩ = some (.int .i64 0) := by rw [hc _ _ (by simp)]; simp
    have tr7 : w1.cell? ⟨w.heap.size + 1, 7, none⟩ = some (.int .i64 0) := by rw [hc _ _ (by simp)]; simp
    have tr8 : w1.cell? ⟨w.heap.size + 1, 8, none⟩ = some (.string ⟨#[]⟩) := by rw [hc _ _ (by simp)]; simp
    have tr9 : w1.cell? ⟨w.heap.size + 1, 9, none⟩ = some (.bool false) := by rw [hc _ _ (by simp)]; simp
    have tr10 : w1.cell? ⟨w.heap.size + 1, 10, none⟩ = some (.slice none 0 0) := by rw [hc _ _ (by simp)]; simp
    have fr : ∀ o, w1.frozen? ⟨w.heap.size + 1, o, none⟩ = false := fun o => by rw [hf _ _ (by simp)]; simp
    have GB := Lib.hid (Below.trans (show Below w.heap.size w _ by exact (by repeat (first | exact Below.refl _ _ | assumption | refine Below.drew ?_ | refine belN ?_ _ | refine Below.alloc ?_ (by first | exact Nat.le_refl _ | (simp; done) | (simp; omega) | omega) _ | refine Below.setCell ?_ (by first | exact Nat.le_refl _ | (simp; done) | (simp; omega) | omega) _ | refine Below.trans ?_ (Below.mono (by assumption) (by first | exact Nat.le_refl _ | (simp; done) | (simp; omega) | omega))))) (Below.mono hb (by simp; omega)))
    clear hc hf hz hb
    go_wp2_with fail
    refine (l14Copy_any s A l.length c l _ (by exact (HL.out.below GB.out (Nat.le_refl _)).more GB.out.size) (by omega)).mono ?_
    rintro e w2 ⟨A2, n2, c2, rfl, ho, hb⟩
    obtain rfl : l.length = n2 := ho.1
    have HO := Lib.hid ho
    clear ho
    obtain ⟨hc, hf, hz⟩ := bcell hb
    have hp0 : w.heap.size < w1.heap.size := by omega
    have hp1 : w.heap.size + 1 < w1.heap.size := by omega
    have hq0 : w.heap.size < w2.heap.size := by omega
    have hq1 : w.heap.size + 1 < w2.heap.size := by omega
    have ua0 := (hc w.heap.size 0 hp0).trans ta0
    have ua1 := (hc w.heap.size 1 hp0).trans ta1
    have ua2 := (hc w.heap.size 2 hp0).trans ta2
    have ua3 := (hc w.heap.size 3 hp0).trans ta3
    have ua4 := (hc w.heap.size 4 hp0).trans ta4
    have ua5 := (hc w.heap.size 5 hp0).trans ta5
    have ua6 := (hc w.heap.size 6 hp0).trans ta6
    have ua7 := (hc w.heap.size 7 hp0).trans ta7
    have ua8 := (hc w.heap.size 8 hp0).trans ta8
    have ua9 := (hc w.heap.size 9 hp0).trans ta9
    have ua10 := (hc w.heap.size 10 hp0).trans ta10
    have ur0 := (hc (w.heap.size + 1) 0 hp1).trans tr0
    have ur1 := (hc (w.heap.size + 1) 1 hp1).trans tr1
    have ur2 := (hc (w.heap.size + 1) 2 hp1).trans tr2
    have ur3 := (hc (w.heap.size + 1) 3 hp1).trans tr3
    have ur4 := (hc (w.heap.size + 1) 4 hp1).trans tr4
    have ur5 := (hc (w.heap.size + 1) 5 hp1).trans tr5
    have ur6 := (hc (w.heap.size + 1) 6 hp1).trans tr6
    have ur7 := (hc (w.heap.size + 1) 7 hp1).trans tr7
    have ur8 := (hc (w.heap.size + 1) 8 hp1).trans tr8
    have ur9 := (hc (w.heap.size + 1) 9 hp1).trans tr9
    have ur10 := (hc (w.heap.size + 1) 10 hp1).trans tr10
    have vr : ∀ o, w2.frozen? ⟨w.heap.size + 1, o, none⟩ = false := fun o => (hf _ _ hp1).trans (fr o)
    have GB2 := Lib.hid (GB.out.trans (Below.mono hb (by omega)))
    clear hc hf hz hb fr ta0 ta1 ta2 ta3 ta4 ta5 ta6 ta7 ta8 ta9 ta10 tr0 tr1 tr2 tr3 tr4 tr5 tr6 tr7 tr8 tr9 tr10
    go_wp2
    refine bodyPost_ret (v := .tuple #[.agg #[.int .i64 s.val, .int .i64 s.dh, .int .i64 s.dr, .int .i64 s.ds, .string s.di, .int .i64 s.dh, .int .i64 s.dr, .int .i64 s.ds, .string s.di, .bool false, .slice A2 l.length c2], .bool true]) (by simp [results, Try.results13, go_sem, ur0, ur1, ur2, ur3, ur4, ur5, ur6, ur7, ur8, ur9, ur10, hq1]) rfl ?_
    rw [E1.out, E2.out, E3.out]
    refine ⟨A2, c2, rfl, ?_, ?_⟩
    · refine ((HO.out.chg (lo' := w.heap.size) (hi' := w.heap.size + 2) ?_ (.inr (by omega))).wide (by omega) (by simp))
      (repeat (first | with_reducible refine Chg.setCell ?_ (by first | exact Nat.le_refl _ | (simp; done) | (simp; omega)) (by first | (simp; done) | (simp; omega)) _ | with_reducible refine Chg.alloc ?_ _ | with_reducible refine Chg.drew ?_)); (with_reducible exact Chg.refl _ _ _)
    · (repeat (first | with_reducible refine Below.setCell ?_ (by first | exact Nat.le_refl _ | (simp; done) | (simp; omega)) _ | with_reducible refine Below.alloc ?_ (by first | exact Nat.le_refl _ | (simp; done) | (simp; omega)) _ | with_reducible refine Below.drew ?_)); (with_reducible exact GB2.out)
end Go.Proofs.Yteifmlmmfghjjaa
