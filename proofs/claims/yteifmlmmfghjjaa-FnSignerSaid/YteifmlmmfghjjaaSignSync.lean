/- SignSync of the program and of the reference (written by wip/sgn.py). -/
import Derived.Test.YteifmlmmfghjjaaSignFall
import Derived.Deep.DeepMust
import Derived.Deep.RegionWith
import Derived.Deep.DeepCutAuto
import Derived.WalkKit
import Derived.WalkSpells
import Derived.WalkLawsBesides
import Derived.Lib.Hide
namespace Go.Proofs.Yteifmlmmfghjjaa
open Go.RowKit

theorem Rd.one (w : World) (cs : Array Value) (t : TypeId) (size : Nat) (h : cs.size = size) (g : Nat) (hg : g = w.heap.size) : Rd (w.alloc (.cells cs t)) (w.heap.size + 1) (some ⟨g, 0, none⟩) 1 1 size cs.toList := by
  subst hg
  refine ⟨by simp [h], Nat.le_refl _, by unfold maxLen; omega, fun _ => ⟨w.heap.size, 0, rfl, by omega, fun j hj => ?_⟩⟩
  have hb : Blk (w.alloc (.cells cs t)) w.heap.size t cs := heap_alloc_new w _
  rw [hb.cell, Nat.zero_add]; simp
def syncS (s : SignS) (l : List VoteD) : SignS := if signB s l = true then (if s.pend = true then ⟨s.val, s.mh, s.mr, s.ms, s.mi, s.mh, s.mr, s.ms, s.mi, false⟩ else s) else zeroS
def syncL (s : SignS) (l : List VoteD) : List VoteD := if signB s l = true then (if s.pend = true ∧ l.length < 60 then l ++ [⟨s.mh, s.mr, s.ms, s.mi, s.val⟩] else l) else []
def syncK (s : SignS) (l : List VoteD) : Bool := signB s l && s.pend
theorem SignSync_len (s : SignS) (l : List VoteD) : (syncL s l).length ≤ l.length + 1 := by
  unfold syncL; split
  · split <;> simp
  · simp

set_option maxRecDepth 100000 in
set_option maxHeartbeats 4000000 in
theorem SignSync_any (s : SignS) (A : Option Addr) (c : Nat) (l : List VoteD) (w : World) (hl : RdL voteC 5 w w.heap.size A l.length c l) :
    Calls Try.prog 18 #[.agg #[.int .i64 s.val, .int .i64 s.dh, .int .i64 s.dr, .int .i64 s.ds, .string s.di, .int .i64 s.mh, .int .i64 s.mr, .int .i64 s.ms, .string s.mi, .bool s.pend, .slice A l.length c]] w (SignerOutK (syncS s l) (syncL s l) (.bool (syncK s l)) w) := by
  have HL := Lib.hid hl
  clear hl
  cases hB : signB s l
  · have HB := Lib.hid hB
    have E1 : Hid (syncS s l = zeroS) := by show _ = _; simp [syncS, hB]
    have E2 : Hid (syncL s l = []) := by show _ = _; simp [syncL, hB]
    have E3 : Hid (syncK s l = false) := by show _ = _; simp [syncK, hB]
    clear hB
    go_enter Try.func18, Try.ntmps18
    go_wp2_with fail
    refine (SignerOk_any s A l.length c l _ (by exact (((HL.out).alloc (by first | with_reducible exact Nat.le_refl _ | (simp; done) | omega | (simp; omega)) _).alloc (by first | with_reducible exact Nat.le_refl _ | (simp; done) | omega | (simp; omega)) _).more (by first | with_reducible exact Nat.le_refl _ | (simp; done) | omega | (simp; omega)))).mono ?_
    rw [HB.out]
    rintro e w1 ⟨rfl, hb⟩
    obtain ⟨hc, hf, hz⟩ := bcell hb
    have hz' : w.heap.size + 2 ≤ w1.heap.size := by simp at hz; omega
    have tr0 : w1.cell? ⟨w.heap.size + 1, 0, none⟩ = some (.int .i64 0) := by rw [hc _ _ (by first | (simp; done) | (simp; omega))]; simp
    have tr1 : w1.cell? ⟨w.heap.size + 1, 1, none⟩ = some (.int .i64 0) := by rw [hc _ _ (by first | (simp; done) | (simp; omega))]; simp
    have tr2 : w1.cell? ⟨w.heap.size + 1, 2, none⟩ = some (.int .i64 0) := by rw [hc _ _ (by first | (simp; done) | (simp; omega))]; simp
    have tr3 : w1.cell? ⟨w.heap.size + 1, 3, none⟩ = some (.int .i64 0) := by rw [hc _ _ (by first | (simp; done) | (simp; omega))]; simp
    have tr4 : w1.cell? ⟨w.heap.size + 1, 4, none⟩ = some (.string ⟨#[]⟩) := by rw [hc _ _ (by first | (simp; done) | (simp; omega))]; simp
    have tr5 : w1.cell? ⟨w.heap.size + 1, 5, none⟩ = some (.int .i64 0) := by rw [hc _ _ (by first | (simp; done) | (simp; omega))]; simp
    have tr6 : w1.cell? ⟨w.heap.size + 1, 6, none⟩ = some (.int .i64 0) := by rw [hc _ _ (by first | (simp; done) | (simp; omega))]; simp
    have tr7 : w1.cell? ⟨w.heap.size + 1, 7, none⟩ = some (.int .i64 0) := by rw [hc _ _ (by first | (simp; done) | (simp; omega))]; simp
    have tr8 : w1.cell? ⟨w.heap.size + 1, 8, none⟩ = some (.string ⟨#[]⟩) := by rw [hc _ _ (by first | (simp; done) | (simp; omega))]; simp
    have tr9 : w1.cell? ⟨w.heap.size + 1, 9, none⟩ = some (.bool false) := by rw [hc _ _ (by first | (simp; done) | (simp; omega))]; simp
    have tr10 : w1.cell? ⟨w.heap.size + 1, 10, none⟩ = some (.slice none 0 0) := by rw [hc _ _ (by first | (simp; done) | (simp; omega))]; simp
    have fr : ∀ o, w1.frozen? ⟨w.heap.size + 1, o, none⟩ = false := fun o => by rw [hf _ _ (by first | (simp; done) | (simp; omega))]; simp
    have GB := Lib.hid (Below.trans (show Below w.heap.size w _ by exact (by repeat (first | exact Below.refl _ _ | assumption | refine Below.drew ?_ | refine belN ?_ _ | refine Below.alloc ?_ (by first | exact Nat.le_refl _ | (simp; done) | (simp; omega) | omega) _ | refine Below.setCell ?_ (by first | exact Nat.le_refl _ | (simp; done) | (simp; omega) | omega) _ | refine Below.trans ?_ (Below.mono (by assumption) (by first | exact Nat.le_refl _ | (simp; done) | (simp; omega) | omega))))) (Below.mono hb (by first | with_reducible exact Nat.le_refl _ | (simp; done) | omega | (simp; omega))))
    clear hc hf hz hb
    go_wp2
    refine bodyPost_ret (v := .tuple #[.agg #[.int .i64 0, .int .i64 0, .int .i64 0, .int .i64 0, .string ⟨#[]⟩, .int .i64 0, .int .i64 0, .int .i64 0, .string ⟨#[]⟩, .bool false, .slice none 0 0], .bool false]) (by simp [results, Try.results18, go_sem, tr0, tr1, tr2, tr3, tr4, tr5, tr6, tr7, tr8, tr9, tr10]) rfl ?_
    rw [E1.out, E2.out, E3.out]
    refine ⟨none, 0, rfl, ⟨rfl, .inl ⟨rfl, rfl, rfl⟩⟩, ?_⟩
    (repeat (first | with_reducible refine Below.setCell ?_ (by first | exact Nat.le_refl _ | (simp; done) | (simp; omega)) _ | with_reducible refine Below.alloc ?_ (by first | exact Nat.le_refl _ | (simp; done) | (simp; omega)) _ | with_reducible refine Below.drew ?_)); (with_reducible exact GB.out)
  have hn := signB_len hB
  obtain ⟨val, dh, dr, ds, di, mh, mr, ms, mi, pend⟩ := s
  cases pend
  · have HB := Lib.hid hB
    have E1 : Hid (syncS ⟨val, dh, dr, ds, di, mh, mr, ms, mi, false⟩ l = ⟨val, dh, dr, ds, di, mh, mr, ms, mi, false⟩) := by show _ = _; simp [syncS, hB]
    have E2 : Hid (syncL ⟨val, dh, dr, ds, di, mh, mr, ms, mi, false⟩ l = l) := by show _ = _; simp [syncL, hB]
    have E3 : Hid (syncK ⟨val, dh, dr, ds, di, mh, mr, ms, mi, false⟩ l = false) := by show _ = _; simp [syncK, hB]
    clear hB
    go_enter Try.func18, Try.ntmps18
    go_wp2_with fail
    refine (SignerOk_any ⟨val, dh, dr, ds, di, mh, mr, ms, mi, false⟩ A l.length c l _ (by exact (((HL.out).alloc (by first | with_reducible exact Nat.le_refl _ | (simp; done) | omega | (simp; omega)) _).alloc (by first | with_reducible exact Nat.le_refl _ | (simp; done) | omega | (simp; omega)) _).more (by first | with_reducible exact Nat.le_refl _ | (simp; done) | omega | (simp; omega)))).mono ?_
    rw [HB.out]
    rintro e w1 ⟨rfl, hb⟩
    obtain ⟨hc, hf, hz⟩ := bcell hb
    have hz' : w.heap.size + 2 ≤ w1.heap.size := by simp at hz; omega
    have ta0 : w1.cell? ⟨w.heap.size, 0, none⟩ = some (.int .i64 val) := by rw [hc _ _ (by first | (simp; done) | (simp; omega))]; simp
    have ta1 : w1.cell? ⟨w.heap.size, 1, none⟩ = some (.int .i64 dh) := by rw [hc _ _ (by first | (simp; done) | (simp; omega))]; simp
    have ta2 : w1.cell? ⟨w.heap.size, 2, none⟩ = some (.int .i64 dr) := by rw [hc _ _ (by first | (simp; done) | (simp; omega))]; simp
    have ta3 : w1.cell? ⟨w.heap.size, 3, none⟩ = some (.int .i64 ds) := by rw [hc _ _ (by first | (simp; done) | (simp; omega))]; simp
    have ta4 : w1.cell? ⟨w.heap.size, 4, none⟩ = some (.string di) := by rw [hc _ _ (by first | (simp; done) | (simp; omega))]; simp
    have ta5 : w1.cell? ⟨w.heap.size, 5, none⟩ = some (.int .i64 mh) := by rw [hc _ _ (by first | (simp; done) | (simp; omega))]; simp
    have ta6 : w1.cell? ⟨w.heap.size, 6, none⟩ = some (.int .i64 mr) := by rw [hc _ _ (by first | (simp; done) | (simp; omega))]; simp
    have ta7 : w1.cell? ⟨w.heap.size, 7, none⟩ = some (.int .i64 ms) := by rw [hc _ _ (by first | (simp; done) | (simp; omega))]; simp
    have ta8 : w1.cell? ⟨w.heap.size, 8, none⟩ = some (.string mi) := by rw [hc _ _ (by first | (simp; done) | (simp; omega))]; simp
    have ta9 : w1.cell? ⟨w.heap.size, 9, none⟩ = some (.bool false) := by rw [hc _ _ (by first | (simp; done) | (simp; omega))]; simp
    have ta10 : w1.cell? ⟨w.heap.size, 10, none⟩ = some (.slice A l.length c) := by rw [hc _ _ (by first | (simp; done) | (simp; omega))]; simp
    have tr0 : w1.cell? ⟨w.heap.size + 1, 0, none⟩ = some (.int .i64 0) := by rw [hc _ _ (by first | (simp; done) | (simp; omega))]; simp
    have tr1 : w1.cell? ⟨w.heap.size + 1, 1, none⟩ = some (.int .i64 0) := by rw [hc _ _ (by first | (simp; done) | (simp; omega))]; simp
    have tr2 : w1.cell? ⟨w.heap.size + 1, 2, none⟩ = some (.int .i64 0) := by rw [hc _ _ (by first | (simp; done) | (simp; omega))]; simp
    have tr3 : w1.cell? ⟨w.heap.size + 1, 3, none⟩ = some (.int .i64 0) := by rw [hc _ _ (by first | (simp; done) | (simp; omega))]; simp
    have tr4 : w1.cell? ⟨w.heap.size + 1, 4, none⟩ = some (.string ⟨#[]⟩) := by rw [hc _ _ (by first | (simp; done) | (simp; omega))]; simp
    have tr5 : w1.cell? ⟨w.heap.size + 1, 5, none⟩ = some (.int .i64 0) := by rw [hc _ _ (by first | (simp; done) | (simp; omega))]; simp
    have tr6 : w1.cell? ⟨w.heap.size + 1, 6, none⟩ = some (.int .i64 0) := by rw [hc _ _ (by first | (simp; done) | (simp; omega))]; simp
    have tr7 : w1.cell? ⟨w.heap.size + 1, 7, none⟩ = some (.int .i64 0) := by rw [hc _ _ (by first | (simp; done) | (simp; omega))]; simp
    have tr8 : w1.cell? ⟨w.heap.size + 1, 8, none⟩ = some (.string ⟨#[]⟩) := by rw [hc _ _ (by first | (simp; done) | (simp; omega))]; simp
    have tr9 : w1.cell? ⟨w.heap.size + 1, 9, none⟩ = some (.bool false) := by rw [hc _ _ (by first | (simp; done) | (simp; omega))]; simp
    have tr10 : w1.cell? ⟨w.heap.size + 1, 10, none⟩ = some (.slice none 0 0) := by rw [hc _ _ (by first | (simp; done) | (simp; omega))]; simp
    have fr : ∀ o, w1.frozen? ⟨w.heap.size + 1, o, none⟩ = false := fun o => by rw [hf _ _ (by first | (simp; done) | (simp; omega))]; simp
    have GB := Lib.hid (Below.trans (show Below w.heap.size w _ by exact (by repeat (first | exact Below.refl _ _ | assumption | refine Below.drew ?_ | refine belN ?_ _ | refine Below.alloc ?_ (by first | exact Nat.le_refl _ | (simp; done) | (simp; omega) | omega) _ | refine Below.setCell ?_ (by first | exact Nat.le_refl _ | (simp; done) | (simp; omega) | omega) _ | refine Below.trans ?_ (Below.mono (by assumption) (by first | exact Nat.le_refl _ | (simp; done) | (simp; omega) | omega))))) (Below.mono hb (by first | with_reducible exact Nat.le_refl _ | (simp; done) | omega | (simp; omega))))
    clear hc hf hz hb
    go_wp2_with fail
    refine (copySigner_any ⟨val, dh, dr, ds, di, mh, mr, ms, mi, false⟩ A l.length c l _ (by exact (HL.out.below GB.out (Nat.le_refl _)).more GB.out.size) (by omega)).mono ?_
    rintro e w2 ⟨A2, n2, c2, rfl, ho, hb⟩
    obtain rfl : l.length = n2 := ho.1
    have HO := Lib.hid ho
    clear ho
    obtain ⟨hc, hf, hz⟩ := bcell hb
    have hw12 : w1.heap.size ≤ w2.heap.size := hz
    have hp0 : w.heap.size < w1.heap.size := by omega
    have hq0 : w.heap.size < w2.heap.size := by omega
    have hp1 : w.heap.size + 1 < w1.heap.size := by omega
    have hq1 : w.heap.size + 1 < w2.heap.size := by omega
    have ua0 := (hc w.heap.size 0 hp0).trans ta0
    have ua1 := (hc w.heap.size 1 hp0).trans ta1
    have ua2 := (hc w.heap.size 2 hp0).trans ta2
    have ua3 := (hc w.heap.size 3 hp0).trans ta3
    have ua4 := (hc w.heap.size 4 hp0).trans ta4
    have ua5 := (hc w.heap.size 5 hp0).trans ta5
    have ua6 := (hc w.heap.size 6 hp0).trans ta6
    have ua7 := (hc w.heap.size 7 hp0).trans ta7
    have ua8 := (hc w.heap.size 8 hp0).trans ta8
    have ua9 := (hc w.heap.size 9 hp0).trans ta9
    have ua10 := (hc w.heap.size 10 hp0).trans ta10
    have ur0 := (hc (w.heap.size + 1) 0 hp1).trans tr0
    have ur1 := (hc (w.heap.size + 1) 1 hp1).trans tr1
    have ur2 := (hc (w.heap.size + 1) 2 hp1).trans tr2
    have ur3 := (hc (w.heap.size + 1) 3 hp1).trans tr3
    have ur4 := (hc (w.heap.size + 1) 4 hp1).trans tr4
    have ur5 := (hc (w.heap.size + 1) 5 hp1).trans tr5
    have ur6 := (hc (w.heap.size + 1) 6 hp1).trans tr6
    have ur7 := (hc (w.heap.size + 1) 7 hp1).trans tr7
    have ur8 := (hc (w.heap.size + 1) 8 hp1).trans tr8
    have ur9 := (hc (w.heap.size + 1) 9 hp1).trans tr9
    have ur10 := (hc (w.heap.size + 1) 10 hp1).trans tr10
    have vr : ∀ o, w2.frozen? ⟨w.heap.size + 1, o, none⟩ = false := fun o => (hf _ _ hp1).trans (fr o)
    have GB2 := Lib.hid (GB.out.trans (Below.mono hb (by omega)))
    clear hc hf hz hb fr ta0 ta1 ta2 ta3 ta4 ta5 ta6 ta7 ta8 ta9 ta10 tr0 tr1 tr2 tr3 tr4 tr5 tr6 tr7 tr8 tr9 tr10
    go_wp2
    refine bodyPost_ret (v := .tuple #[.agg #[.int .i64 val, .int .i64 dh, .int .i64 dr, .int .i64 ds, .string di, .int .i64 mh, .int .i64 mr, .int .i64 ms, .string mi, .bool false, .slice A2 l.length c2], .bool false]) (by simp [results, Try.results18, go_sem, ur0, ur1, ur2, ur3, ur4, ur5, ur6, ur7, ur8, ur9, ur10, hq1]) rfl ?_
    rw [E1.out, E2.out, E3.out]
    refine ⟨_, _, rfl, ?_, ?_⟩
    · refine ((HO.out.chg (lo' := w.heap.size) (hi' := w.heap.size + 1 + 1) ?_ (.inr (by first | with_reducible exact Nat.le_refl _ | (simp; done) | omega | (simp; omega)))).wide (by first | with_reducible exact Nat.le_refl _ | (simp; done) | omega | (simp; omega)) (by simp))
      (repeat (first | with_reducible refine Chg.setCell ?_ (by first | exact Nat.le_refl _ | (simp; done) | (simp; omega)) (by first | (simp; done) | (simp; omega)) _ | with_reducible refine Chg.alloc ?_ _ | with_reducible refine Chg.drew ?_)); (with_reducible exact Chg.refl _ _ _)
    · (repeat (first | with_reducible refine Below.setCell ?_ (by first | exact Nat.le_refl _ | (simp; done) | (simp; omega)) _ | with_reducible refine Below.alloc ?_ (by first | exact Nat.le_refl _ | (simp; done) | (simp; omega)) _ | with_reducible refine Below.drew ?_)); (with_reducible exact GB2.out)
  by_cases h60 : l.length < 60
  · have HB := Lib.hid hB
    have E1 : Hid (syncS ⟨val, dh, dr, ds, di, mh, mr, ms, mi, true⟩ l = ⟨val, mh, mr, ms, mi, mh, mr, ms, mi, false⟩) := by show _ = _; simp [syncS, hB]
    have E2 : Hid (syncL ⟨val, dh, dr, ds, di, mh, mr, ms, mi, true⟩ l = l ++ [⟨mh, mr, ms, mi, val⟩]) := by show _ = _; simp [syncL, hB, h60]
    have E3 : Hid (syncK ⟨val, dh, dr, ds, di, mh, mr, ms, mi, true⟩ l = true) := by show _ = _; simp [syncK, hB]
    clear hB
    go_enter Try.func18, Try.ntmps18
    go_wp2_with fail
    refine (SignerOk_any ⟨val, dh, dr, ds, di, mh, mr, ms, mi, true⟩ A l.length c l _ (by exact (((HL.out).alloc (by first | with_reducible exact Nat.le_refl _ | (simp; done) | omega | (simp; omega)) _).alloc (by first | with_reducible exact Nat.le_refl _ | (simp; done) | omega | (simp; omega)) _).more (by first | with_reducible exact Nat.le_refl _ | (simp; done) | omega | (simp; omega)))).mono ?_
    rw [HB.out]
    rintro e w1 ⟨rfl, hb⟩
    obtain ⟨hc, hf, hz⟩ := bcell hb
    have hz' : w.heap.size + 2 ≤ w1.heap.size := by simp at hz; omega
    have ta0 : w1.cell? ⟨w.heap.size, 0, none⟩ = some (.int .i64 val) := by rw [hc _ _ (by first | (simp; done) | (simp; omega))]; simp
    have ta1 : w1.cell? ⟨w.heap.size, 1, none⟩ = some (.int .i64 dh) := by rw [hc _ _ (by first | (simp; done) | (simp; omega))]; simp
    have ta2 : w1.cell? ⟨w.heap.size, 2, none⟩ = some (.int .i64 dr) := by rw [hc _ _ (by first | (simp; done) | (simp; omega))]; simp
    have ta3 : w1.cell? ⟨w.heap.size, 3, none⟩ = some (.int .i64 ds) := by rw [hc _ _ (by first | (simp; done) | (simp; omega))]; simp
    have ta4 : w1.cell? ⟨w.heap.size, 4, none⟩ = some (.string di) := by rw [hc _ _ (by first | (simp; done) | (simp; omega))]; simp
    have ta5 : w1.cell? ⟨w.heap.size, 5, none⟩ = some (.int .i64 mh) := by rw [hc _ _ (by first | (simp; done) | (simp; omega))]; simp
    have ta6 : w1.cell? ⟨w.heap.size, 6, none⟩ = some (.int .i64 mr) := by rw [hc _ _ (by first | (simp; done) | (simp; omega))]; simp
    have ta7 : w1.cell? ⟨w.heap.size, 7, none⟩ = some (.int .i64 ms) := by rw [hc _ _ (by first | (simp; done) | (simp; omega))]; simp
    have ta8 : w1.cell? ⟨w.heap.size, 8, none⟩ = some (.string mi) := by rw [hc _ _ (by first | (simp; done) | (simp; omega))]; simp
    have ta9 : w1.cell? ⟨w.heap.size, 9, none⟩ = some (.bool true) := by rw [hc _ _ (by first | (simp; done) | (simp; omega))]; simp
    have ta10 : w1.cell? ⟨w.heap.size, 10, none⟩ = some (.slice A l.length c) := by rw [hc _ _ (by first | (simp; done) | (simp; omega))]; simp
    have tr0 : w1.cell? ⟨w.heap.size + 1, 0, none⟩ = some (.int .i64 0) := by rw [hc _ _ (by first | (simp; done) | (simp; omega))]; simp
    have tr1 : w1.cell? ⟨w.heap.size + 1, 1, none⟩ = some (.int .i64 0) := by rw [hc _ _ (by first | (simp; done) | (simp; omega))]; simp
    have tr2 : w1.cell? ⟨w.heap.size + 1, 2, none⟩ = some (.int .i64 0) := by rw [hc _ _ (by first | (simp; done) | (simp; omega))]; simp
    have tr3 : w1.cell? ⟨w.heap.size + 1, 3, none⟩ = some (.int .i64 0) := by rw [hc _ _ (by first | (simp; done) | (simp; omega))]; simp
    have tr4 : w1.cell? ⟨w.heap.size + 1, 4, none⟩ = some (.string ⟨#[]⟩) := by rw [hc _ _ (by first | (simp; done) | (simp; omega))]; simp
    have tr5 : w1.cell? ⟨w.heap.size + 1, 5, none⟩ = some (.int .i64 0) := by rw [hc _ _ (by first | (simp; done) | (simp; omega))]; simp
    have tr6 : w1.cell? ⟨w.heap.size + 1, 6, none⟩ = some (.int .i64 0) := by rw [hc _ _ (by first | (simp; done) | (simp; omega))]; simp
    have tr7 : w1.cell? ⟨w.heap.size + 1, 7, none⟩ = some (.int .i64 0) := by rw [hc _ _ (by first | (simp; done) | (simp; omega))]; simp
    have tr8 : w1.cell? ⟨w.heap.size + 1, 8, none⟩ = some (.string ⟨#[]⟩) := by rw [hc _ _ (by first | (simp; done) | (simp; omega))]; simp
    have tr9 : w1.cell? ⟨w.heap.size + 1, 9, none⟩ = some (.bool false) := by rw [hc _ _ (by first | (simp; done) | (simp; omega))]; simp
    have tr10 : w1.cell? ⟨w.heap.size + 1, 10, none⟩ = some (.slice none 0 0) := by rw [hc _ _ (by first | (simp; done) | (simp; omega))]; simp
    have fr : ∀ o, w1.frozen? ⟨w.heap.size + 1, o, none⟩ = false := fun o => by rw [hf _ _ (by first | (simp; done) | (simp; omega))]; simp
    have GB := Lib.hid (Below.trans (show Below w.heap.size w _ by exact (by repeat (first | exact Below.refl _ _ | assumption | refine Below.drew ?_ | refine belN ?_ _ | refine Below.alloc ?_ (by first | exact Nat.le_refl _ | (simp; done) | (simp; omega) | omega) _ | refine Below.setCell ?_ (by first | exact Nat.le_refl _ | (simp; done) | (simp; omega) | omega) _ | refine Below.trans ?_ (Below.mono (by assumption) (by first | exact Nat.le_refl _ | (simp; done) | (simp; omega) | omega))))) (Below.mono hb (by first | with_reducible exact Nat.le_refl _ | (simp; done) | omega | (simp; omega))))
    clear hc hf hz hb
    go_wp2_with fail
    refine (copySigner_any ⟨val, dh, dr, ds, di, mh, mr, ms, mi, true⟩ A l.length c l _ (by exact (HL.out.below GB.out (Nat.le_refl _)).more GB.out.size) (by omega)).mono ?_
    rintro e w2 ⟨A2, n2, c2, rfl, ho, hb⟩
    obtain rfl : l.length = n2 := ho.1
    have HO := Lib.hid ho
    clear ho
    obtain ⟨hc, hf, hz⟩ := bcell hb
    have hw12 : w1.heap.size ≤ w2.heap.size := hz
    have hp0 : w.heap.size < w1.heap.size := by omega
    have hq0 : w.heap.size < w2.heap.size := by omega
    have hp1 : w.heap.size + 1 < w1.heap.size := by omega
    have hq1 : w.heap.size + 1 < w2.heap.size := by omega
    have ua0 := (hc w.heap.size 0 hp0).trans ta0
    have ua1 := (hc w.heap.size 1 hp0).trans ta1
    have ua2 := (hc w.heap.size 2 hp0).trans ta2
    have ua3 := (hc w.heap.size 3 hp0).trans ta3
    have ua4 := (hc w.heap.size 4 hp0).trans ta4
    have ua5 := (hc w.heap.size 5 hp0).trans ta5
    have ua6 := (hc w.heap.size 6 hp0).trans ta6
    have ua7 := (hc w.heap.size 7 hp0).trans ta7
    have ua8 := (hc w.heap.size 8 hp0).trans ta8
    have ua9 := (hc w.heap.size 9 hp0).trans ta9
    have ua10 := (hc w.heap.size 10 hp0).trans ta10
    have ur0 := (hc (w.heap.size + 1) 0 hp1).trans tr0
    have ur1 := (hc (w.heap.size + 1) 1 hp1).trans tr1
    have ur2 := (hc (w.heap.size + 1) 2 hp1).trans tr2
    have ur3 := (hc (w.heap.size + 1) 3 hp1).trans tr3
    have ur4 := (hc (w.heap.size + 1) 4 hp1).trans tr4
    have ur5 := (hc (w.heap.size + 1) 5 hp1).trans tr5
    have ur6 := (hc (w.heap.size + 1) 6 hp1).trans tr6
    have ur7 := (hc (w.heap.size + 1) 7 hp1).trans tr7
    have ur8 := (hc (w.heap.size + 1) 8 hp1).trans tr8
    have ur9 := (hc (w.heap.size + 1) 9 hp1).trans tr9
    have ur10 := (hc (w.heap.size + 1) 10 hp1).trans tr10
    have vr : ∀ o, w2.frozen? ⟨w.heap.size + 1, o, none⟩ = false := fun o => (hf _ _ hp1).trans (fr o)
    have GB2 := Lib.hid (GB.out.trans (Below.mono hb (by omega)))
    clear hc hf hz hb fr ta0 ta1 ta2 ta3 ta4 ta5 ta6 ta7 ta8 ta9 ta10 tr0 tr1 tr2 tr3 tr4 tr5 tr6 tr7 tr8 tr9 tr10
    obtain ⟨i0, hi, hz0, hz1, hz2⟩ := info_parts infoVote
    have hcap := HO.out.rd voteC_len |>.2.2.1
    go_wp2_with (at_builtin; go_must (refine wpList_app_rd _ rfl _ _ _ rfl w1.heap.size 44 i0 _ 5 48 Try.underlying30 hi hz0 hz1 hz2 rfl (by decide) (.slice A2 l.length c2) l.length (l.flatMap voteC) rfl (by exact ((HO.out.owns voteC_len).alloc _).alloc _) _ _ 1 1 _ rfl (by exact (Rd.one _ #[.int .i64 mh, .int .i64 mr, .int .i64 ms, .string mi, .int .i64 val] 44 5 rfl _ (by simp))) (by simp [Value.oneCell']) (by unfold maxLen; omega) (by omega) (by first | with_reducible exact Nat.le_refl _ | (simp; done) | omega | (simp; omega)) ?_))
    intro v3 w3 hown hg hat
    have hown : w3.ownsRow w1.heap.size 44 5 v3 (l.length + 1) ((l ++ ([⟨mh, mr, ms, mi, val⟩] : List VoteD)).flatMap voteC) := by rw [List.flatMap_append]; exact hown
    obtain ⟨A3, c3, rfl, ho⟩ := OwnL.of_own (l := l ++ ([⟨mh, mr, ms, mi, val⟩] : List VoteD)) (n := l.length + 1) (by simp) hown
    have HO3 := Lib.hid ho
    have C3 := Lib.hid (grown_chg (lo := w1.heap.size) (hi := w2.heap.size) hg (fun g e => HO.out.block g e))
    have C4 := Lib.hid (((Chg.refl w1.heap.size w2.heap.size (w2.alloc (.cells #[.int .i64 val, .int .i64 mh, .int .i64 mr, .int .i64 ms, .string mi, .int .i64 mh, .int .i64 mr, .int .i64 ms, .string mi, .bool false, .slice A2 l.length c2] 32))).alloc _).trans C3.out)
    have HNE : Hid (∀ g, Value.ownBlock (.slice A3 (l.length + 1) c3) = some g → g ≠ w2.heap.size ∧ g ≠ w.heap.size + 1) := by
      intro g e
      rcases hat with h | h
      · rw [h] at e; have := HO.out.block g e; omega
      · rw [h] at e; simp at e; omega
    clear hown ho hg hat C3
    have hs3 : w2.heap.size + 1 ≤ w3.heap.size := by have := C4.out.size; simp at this; omega
    have D3 := Lib.hid (((Chg.refl w1.heap.size w2.heap.size w2).alloc _).trans C4.out)
    have wr0 : w3.cell? ⟨w.heap.size + 1, 0, none⟩ = some (.int .i64 0) := (D3.out.cell hq1 (.inl hp1)).trans ur0
    have wr1 : w3.cell? ⟨w.heap.size + 1, 1, none⟩ = some (.int .i64 0) := (D3.out.cell hq1 (.inl hp1)).trans ur1
    have wr2 : w3.cell? ⟨w.heap.size + 1, 2, none⟩ = some (.int .i64 0) := (D3.out.cell hq1 (.inl hp1)).trans ur2
    have wr3 : w3.cell? ⟨w.heap.size + 1, 3, none⟩ = some (.int .i64 0) := (D3.out.cell hq1 (.inl hp1)).trans ur3
    have wr4 : w3.cell? ⟨w.heap.size + 1, 4, none⟩ = some (.string ⟨#[]⟩) := (D3.out.cell hq1 (.inl hp1)).trans ur4
    have wr5 : w3.cell? ⟨w.heap.size + 1, 5, none⟩ = some (.int .i64 0) := (D3.out.cell hq1 (.inl hp1)).trans ur5
    have wr6 : w3.cell? ⟨w.heap.size + 1, 6, none⟩ = some (.int .i64 0) := (D3.out.cell hq1 (.inl hp1)).trans ur6
    have wr7 : w3.cell? ⟨w.heap.size + 1, 7, none⟩ = some (.int .i64 0) := (D3.out.cell hq1 (.inl hp1)).trans ur7
    have wr8 : w3.cell? ⟨w.heap.size + 1, 8, none⟩ = some (.string ⟨#[]⟩) := (D3.out.cell hq1 (.inl hp1)).trans ur8
    have wr9 : w3.cell? ⟨w.heap.size + 1, 9, none⟩ = some (.bool false) := (D3.out.cell hq1 (.inl hp1)).trans ur9
    have wr10 : w3.cell? ⟨w.heap.size + 1, 10, none⟩ = some (.slice none 0 0) := (D3.out.cell hq1 (.inl hp1)).trans ur10
    have wo0 : w3.cell? ⟨w2.heap.size, 0, none⟩ = some (.int .i64 val) := (C4.out.cell (by simp) (.inr (Nat.le_refl _))).trans (by simp)
    have wo1 : w3.cell? ⟨w2.heap.size, 1, none⟩ = some (.int .i64 mh) := (C4.out.cell (by simp) (.inr (Nat.le_refl _))).trans (by simp)
    have wo2 : w3.cell? ⟨w2.heap.size, 2, none⟩ = some (.int .i64 mr) := (C4.out.cell (by simp) (.inr (Nat.le_refl _))).trans (by simp)
    have wo3 : w3.cell? ⟨w2.heap.size, 3, none⟩ = some (.int .i64 ms) := (C4.out.cell (by simp) (.inr (Nat.le_refl _))).trans (by simp)
    have wo4 : w3.cell? ⟨w2.heap.size, 4, none⟩ = some (.string mi) := (C4.out.cell (by simp) (.inr (Nat.le_refl _))).trans (by simp)
    have wo5 : w3.cell? ⟨w2.heap.size, 5, none⟩ = some (.int .i64 mh) := (C4.out.cell (by simp) (.inr (Nat.le_refl _))).trans (by simp)
    have wo6 : w3.cell? ⟨w2.heap.size, 6, none⟩ = some (.int .i64 mr) := (C4.out.cell (by simp) (.inr (Nat.le_refl _))).trans (by simp)
    have wo7 : w3.cell? ⟨w2.heap.size, 7, none⟩ = some (.int .i64 ms) := (C4.out.cell (by simp) (.inr (Nat.le_refl _))).trans (by simp)
    have wo8 : w3.cell? ⟨w2.heap.size, 8, none⟩ = some (.string mi) := (C4.out.cell (by simp) (.inr (Nat.le_refl _))).trans (by simp)
    have wo9 : w3.cell? ⟨w2.heap.size, 9, none⟩ = some (.bool false) := (C4.out.cell (by simp) (.inr (Nat.le_refl _))).trans (by simp)
    have wo10 : w3.cell? ⟨w2.heap.size, 10, none⟩ = some (.slice A2 l.length c2) := (C4.out.cell (by simp) (.inr (Nat.le_refl _))).trans (by simp)
    have fr3 : ∀ o, w3.frozen? ⟨w.heap.size + 1, o, none⟩ = false := fun o => (D3.out.frozen hq1 (.inl hp1)).trans (vr o)
    have fo3 : ∀ o, w3.frozen? ⟨w2.heap.size, o, none⟩ = false := fun o => (C4.out.frozen (by simp) (.inr (Nat.le_refl _))).trans (by simp)
    have GB3 := Lib.hid (GB2.out.trans (D3.out.below (by omega) (by omega)))
    have hne1 : w.heap.size + 1 ≠ w2.heap.size := by omega
    have hne1' : w2.heap.size ≠ w.heap.size + 1 := by omega
    clear C4 D3 ur0 ur1 ur2 ur3 ur4 ur5 ur6 ur7 ur8 ur9 ur10 vr
    go_wp2
    obtain ⟨w4, hw4⟩ : ∃ q, q = w3.setCell ⟨w2.heap.size, 10, none⟩ (.slice A3 (l.length + 1) c3) := ⟨_, rfl⟩
    have D5 : Hid (Chg w2.heap.size (w2.heap.size + 1) w3 w4) := by show Chg _ _ _ _; rw [hw4]; exact Chg.setCell (lo := w2.heap.size) (hi := w2.heap.size + 1) (p := ⟨w2.heap.size, 10, none⟩) (Chg.refl _ _ w3) (Nat.le_refl _) (Nat.lt_succ_self _) _
    have HO4 : Hid (OwnL voteC 5 44 w4 w1.heap.size w3.heap.size A3 (l.length + 1) c3 (l ++ [⟨mh, mr, ms, mi, val⟩])) := Lib.hid (HO3.out.keep fun g h1 h2 e => by rw [hw4]; exact Below.heap_setCell _ _ _ g (HNE.out g e).1)
    have hR3 : w.heap.size + 1 < w3.heap.size := by omega
    have hR4 : w.heap.size + 1 < w4.heap.size := by have := D5.out.size; omega
    have hs4 : w3.heap.size ≤ w4.heap.size := D5.out.size
    have xr0 : w4.cell? ⟨w.heap.size + 1, 0, none⟩ = some (.int .i64 0) := (D5.out.cell hR3 (by omega)).trans wr0
    have xr1 : w4.cell? ⟨w.heap.size + 1, 1, none⟩ = some (.int .i64 0) := (D5.out.cell hR3 (by omega)).trans wr1
    have xr2 : w4.cell? ⟨w.heap.size + 1, 2, none⟩ = some (.int .i64 0) := (D5.out.cell hR3 (by omega)).trans wr2
    have xr3 : w4.cell? ⟨w.heap.size + 1, 3, none⟩ = some (.int .i64 0) := (D5.out.cell hR3 (by omega)).trans wr3
    have xr4 : w4.cell? ⟨w.heap.size + 1, 4, none⟩ = some (.string ⟨#[]⟩) := (D5.out.cell hR3 (by omega)).trans wr4
    have xr5 : w4.cell? ⟨w.heap.size + 1, 5, none⟩ = some (.int .i64 0) := (D5.out.cell hR3 (by omega)).trans wr5
    have xr6 : w4.cell? ⟨w.heap.size + 1, 6, none⟩ = some (.int .i64 0) := (D5.out.cell hR3 (by omega)).trans wr6
    have xr7 : w4.cell? ⟨w.heap.size + 1, 7, none⟩ = some (.int .i64 0) := (D5.out.cell hR3 (by omega)).trans wr7
    have xr8 : w4.cell? ⟨w.heap.size + 1, 8, none⟩ = some (.string ⟨#[]⟩) := (D5.out.cell hR3 (by omega)).trans wr8
    have xr9 : w4.cell? ⟨w.heap.size + 1, 9, none⟩ = some (.bool false) := (D5.out.cell hR3 (by omega)).trans wr9
    have xr10 : w4.cell? ⟨w.heap.size + 1, 10, none⟩ = some (.slice none 0 0) := (D5.out.cell hR3 (by omega)).trans wr10
    have GB4 : Hid (Below w.heap.size w w4) := by show Below _ _ _; rw [hw4]; exact GB3.out.setCell (by show w.heap.size ≤ w2.heap.size; omega) _
    have hlen : (l ++ ([⟨mh, mr, ms, mi, val⟩] : List VoteD)).length = l.length + 1 := by simp
    rw [← hw4]
    clear hw4 wr0 wr1 wr2 wr3 wr4 wr5 wr6 wr7 wr8 wr9 wr10 wo0 wo1 wo2 wo3 wo4 wo5 wo6 wo7 wo8 wo9 wo10 fo3 D5
    refine bodyPost_ret (v := .tuple #[.agg #[.int .i64 val, .int .i64 mh, .int .i64 mr, .int .i64 ms, .string mi, .int .i64 mh, .int .i64 mr, .int .i64 ms, .string mi, .bool false, .slice A3 (l.length + 1) c3], .bool true]) (by simp [results, Try.results18, go_sem, xr0, xr1, xr2, xr3, xr4, xr5, xr6, xr7, xr8, xr9, xr10]) rfl ?_
    rw [E1.out, E2.out, E3.out]
    refine ⟨A3, c3, by rw [hlen], ?_, ?_⟩
    · rw [hlen]
      refine OwnL.wide (lo := w1.heap.size) (hi := w3.heap.size) (OwnL.keep HO4.out fun g h1 h2 e => ?_) ?_ ?_
      · have hgR := (HNE.out g e).2
        refine Chg.block (lo := w.heap.size + 1) (hi := w.heap.size + 1 + 1) (a := w4) ?_ g ?_ ?_
        · (repeat (first | with_reducible refine Chg.setCell ?_ (by first | exact Nat.le_refl _ | (simp; done) | (simp; omega)) (by first | (simp; done) | (simp; omega)) _ | with_reducible refine Chg.alloc ?_ _ | with_reducible refine Chg.drew ?_)); (with_reducible exact Chg.refl _ _ _)
        · omega
        · omega
      · omega
      · simp only [World.size_setCell]; exact hs4
    · (repeat (first | with_reducible refine Below.setCell ?_ (by first | exact Nat.le_refl _ | (simp; done) | (simp; omega)) _ | with_reducible refine Below.alloc ?_ (by first | exact Nat.le_refl _ | (simp; done) | (simp; omega)) _ | with_reducible refine Below.drew ?_)); (with_reducible exact GB4.out)
  · have HB := Lib.hid hB
    have E1 : Hid (syncS ⟨val, dh, dr, ds, di, mh, mr, ms, mi, true⟩ l = ⟨val, mh, mr, ms, mi, mh, mr, ms, mi, false⟩) := by show _ = _; simp [syncS, hB]
    have E2 : Hid (syncL ⟨val, dh, dr, ds, di, mh, mr, ms, mi, true⟩ l = l) := by show _ = _; simp [syncL, hB, h60]
    have E3 : Hid (syncK ⟨val, dh, dr, ds, di, mh, mr, ms, mi, true⟩ l = true) := by show _ = _; simp [syncK, hB]
    clear hB
    go_enter Try.func18, Try.ntmps18
    go_wp2_with fail
    refine (SignerOk_any ⟨val, dh, dr, ds, di, mh, mr, ms, mi, true⟩ A l.length c l _ (by exact (((HL.out).alloc (by first | with_reducible exact Nat.le_refl _ | (simp; done) | omega | (simp; omega)) _).alloc (by first | with_reducible exact Nat.le_refl _ | (simp; done) | omega | (simp; omega)) _).more (by first | with_reducible exact Nat.le_refl _ | (simp; done) | omega | (simp; omega)))).mono ?_
    rw [HB.out]
    rintro e w1 ⟨rfl, hb⟩
    obtain ⟨hc, hf, hz⟩ := bcell hb
    have hz' : w.heap.size + 2 ≤ w1.heap.size := by simp at hz; omega
    have ta0 : w1.cell? ⟨w.heap.size, 0, none⟩ = some (.int .i64 val) := by rw [hc _ _ (by first | (simp; done) | (simp; omega))]; simp
    have ta1 : w1.cell? ⟨w.heap.size, 1, none⟩ = some (.int .i64 dh) := by rw [hc _ _ (by first | (simp; done) | (simp; omega))]; simp
    have ta2 : w1.cell? ⟨w.heap.size, 2, none⟩ = some (.int .i64 dr) := by rw [hc _ _ (by first | (simp; done) | (simp; omega))]; simp
    have ta3 : w1.cell? ⟨w.heap.size, 3, none⟩ = some (.int .i64 ds) := by rw [hc _ _ (by first | (simp; done) | (simp; omega))]; simp
    have ta4 : w1.cell? ⟨w.heap.size, 4, none⟩ = some (.string di) := by rw [hc _ _ (by first | (simp; done) | (simp; omega))]; simp
    have ta5 : w1.cell? ⟨w.heap.size, 5, none⟩ = some (.int .i64 mh) := by rw [hc _ _ (by first | (simp; done) | (simp; omega))]; simp
    have ta6 : w1.cell? ⟨w.heap.size, 6, none⟩ = some (.int .i64 mr) := by rw [hc _ _ (by first | (simp; done) | (simp; omega))]; simp
    have ta7 : w1.cell? ⟨w.heap.size, 7, none⟩ = some (.int .i64 ms) := by rw [hc _ _ (by first | (simp; done) | (simp; omega))]; simp
    have ta8 : w1.cell? ⟨w.heap.size, 8, none⟩ = some (.string mi) := by rw [hc _ _ (by first | (simp; done) | (simp; omega))]; simp
    have ta9 : w1.cell? ⟨w.heap.size, 9, none⟩ = some (.bool true) := by rw [hc _ _ (by first | (simp; done) | (simp; omega))]; simp
    have ta10 : w1.cell? ⟨w.heap.size, 10, none⟩ = some (.slice A l.length c) := by rw [hc _ _ (by first | (simp; done) | (simp; omega))]; simp
    have tr0 : w1.cell? ⟨w.heap.size + 1, 0, none⟩ = some (.int .i64 0) := by rw [hc _ _ (by first | (simp; done) | (simp; omega))]; simp
    have tr1 : w1.cell? ⟨w.heap.size + 1, 1, none⟩ = some (.int .i64 0) := by rw [hc _ _ (by first | (simp; done) | (simp; omega))]; simp
    have tr2 : w1.cell? ⟨w.heap.size + 1, 2, none⟩ = some (.int .i64 0) := by rw [hc _ _ (by first | (simp; done) | (simp; omega))]; simp
    have tr3 : w1.cell? ⟨w.heap.size + 1, 3, none⟩ = some (.int .i64 0) := by rw [hc _ _ (by first | (simp; done) | (simp; omega))]; simp
    have tr4 : w1.cell? ⟨w.heap.size + 1, 4, none⟩ = some (.string ⟨#[]⟩) := by rw [hc _ _ (by first | (simp; done) | (simp; omega))]; simp
    have tr5 : w1.cell? ⟨w.heap.size + 1, 5, none⟩ = some (.int .i64 0) := by rw [hc _ _ (by first | (simp; done) | (simp; omega))]; simp
    have tr6 : w1.cell? ⟨w.heap.size + 1, 6, none⟩ = some (.int .i64 0) := by rw [hc _ _ (by first | (simp; done) | (simp; omega))]; simp
    have tr7 : w1.cell? ⟨w.heap.size + 1, 7, none⟩ = some (.int .i64 0) := by rw [hc _ _ (by first | (simp; done) | (simp; omega))]; simp
    have tr8 : w1.cell? ⟨w.heap.size + 1, 8, none⟩ = some (.string ⟨#[]⟩) := by rw [hc _ _ (by first | (simp; done) | (simp; omega))]; simp
    have tr9 : w1.cell? ⟨w.heap.size + 1, 9, none⟩ = some (.bool false) := by rw [hc _ _ (by first | (simp; done) | (simp; omega))]; simp
    have tr10 : w1.cell? ⟨w.heap.size + 1, 10, none⟩ = some (.slice none 0 0) := by rw [hc _ _ (by first | (simp; done) | (simp; omega))]; simp
    have fr : ∀ o, w1.frozen? ⟨w.heap.size + 1, o, none⟩ = false := fun o => by rw [hf _ _ (by first | (simp; done) | (simp; omega))]; simp
    have GB := Lib.hid (Below.trans (show Below w.heap.size w _ by exact (by repeat (first | exact Below.refl _ _ | assumption | refine Below.drew ?_ | refine belN ?_ _ | refine Below.alloc ?_ (by first | exact Nat.le_refl _ | (simp; done) | (simp; omega) | omega) _ | refine Below.setCell ?_ (by first | exact Nat.le_refl _ | (simp; done) | (simp; omega) | omega) _ | refine Below.trans ?_ (Below.mono (by assumption) (by first | exact Nat.le_refl _ | (simp; done) | (simp; omega) | omega))))) (Below.mono hb (by first | with_reducible exact Nat.le_refl _ | (simp; done) | omega | (simp; omega))))
    clear hc hf hz hb
    go_wp2_with fail
    refine (copySigner_any ⟨val, dh, dr, ds, di, mh, mr, ms, mi, true⟩ A l.length c l _ (by exact (HL.out.below GB.out (Nat.le_refl _)).more GB.out.size) (by omega)).mono ?_
    rintro e w2 ⟨A2, n2, c2, rfl, ho, hb⟩
    obtain rfl : l.length = n2 := ho.1
    have HO := Lib.hid ho
    clear ho
    obtain ⟨hc, hf, hz⟩ := bcell hb
    have hw12 : w1.heap.size ≤ w2.heap.size := hz
    have hp0 : w.heap.size < w1.heap.size := by omega
    have hq0 : w.heap.size < w2.heap.size := by omega
    have hp1 : w.heap.size + 1 < w1.heap.size := by omega
    have hq1 : w.heap.size + 1 < w2.heap.size := by omega
    have ua0 := (hc w.heap.size 0 hp0).trans ta0
    have ua1 := (hc w.heap.size 1 hp0).trans ta1
    have ua2 := (hc w.heap.size 2 hp0).trans ta2
    have ua3 := (hc w.heap.size 3 hp0).trans ta3
    have ua4 := (hc w.heap.size 4 hp0).trans ta4
    have ua5 := (hc w.heap.size 5 hp0).trans ta5
    have ua6 := (hc w.heap.size 6 hp0).trans ta6
    have ua7 := (hc w.heap.size 7 hp0).trans ta7
    have ua8 := (hc w.heap.size 8 hp0).trans ta8
    have ua9 := (hc w.heap.size 9 hp0).trans ta9
    have ua10 := (hc w.heap.size 10 hp0).trans ta10
    have ur0 := (hc (w.heap.size + 1) 0 hp1).trans tr0
    have ur1 := (hc (w.heap.size + 1) 1 hp1).trans tr1
    have ur2 := (hc (w.heap.size + 1) 2 hp1).trans tr2
    have ur3 := (hc (w.heap.size + 1) 3 hp1).trans tr3
    have ur4 := (hc (w.heap.size + 1) 4 hp1).trans tr4
    have ur5 := (hc (w.heap.size + 1) 5 hp1).trans tr5
    have ur6 := (hc (w.heap.size + 1) 6 hp1).trans tr6
    have ur7 := (hc (w.heap.size + 1) 7 hp1).trans tr7
    have ur8 := (hc (w.heap.size + 1) 8 hp1).trans tr8
    have ur9 := (hc (w.heap.size + 1) 9 hp1).trans tr9
    have ur10 := (hc (w.heap.size + 1) 10 hp1).trans tr10
    have vr : ∀ o, w2.frozen? ⟨w.heap.size + 1, o, none⟩ = false := fun o => (hf _ _ hp1).trans (fr o)
    have GB2 := Lib.hid (GB.out.trans (Below.mono hb (by omega)))
    clear hc hf hz hb fr ta0 ta1 ta2 ta3 ta4 ta5 ta6 ta7 ta8 ta9 ta10 tr0 tr1 tr2 tr3 tr4 tr5 tr6 tr7 tr8 tr9 tr10
    go_wp2
    refine bodyPost_ret (v := .tuple #[.agg #[.int .i64 val, .int .i64 mh, .int .i64 mr, .int .i64 ms, .string mi, .int .i64 mh, .int .i64 mr, .int .i64 ms, .string mi, .bool false, .slice A2 l.length c2], .bool true]) (by simp [results, Try.results18, go_sem, ur0, ur1, ur2, ur3, ur4, ur5, ur6, ur7, ur8, ur9, ur10, hq1]) rfl ?_
    rw [E1.out, E2.out, E3.out]
    refine ⟨_, _, rfl, ?_, ?_⟩
    · refine ((HO.out.chg (lo' := w.heap.size) (hi' := w.heap.size + 1 + 1) ?_ (.inr (by first | with_reducible exact Nat.le_refl _ | (simp; done) | omega | (simp; omega)))).wide (by first | with_reducible exact Nat.le_refl _ | (simp; done) | omega | (simp; omega)) (by simp))
      (repeat (first | with_reducible refine Chg.setCell ?_ (by first | exact Nat.le_refl _ | (simp; done) | (simp; omega)) (by first | (simp; done) | (simp; omega)) _ | with_reducible refine Chg.alloc ?_ _ | with_reducible refine Chg.drew ?_)); (with_reducible exact Chg.refl _ _ _)
    · (repeat (first | with_reducible refine Below.setCell ?_ (by first | exact Nat.le_refl _ | (simp; done) | (simp; omega)) _ | with_reducible refine Below.alloc ?_ (by first | exact Nat.le_refl _ | (simp; done) | (simp; omega)) _ | with_reducible refine Below.drew ?_)); (with_reducible exact GB2.out)
end Go.Proofs.Yteifmlmmfghjjaa
