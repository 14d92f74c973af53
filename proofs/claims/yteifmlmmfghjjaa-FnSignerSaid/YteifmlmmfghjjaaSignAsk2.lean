/- SignAsk of the reference (written by wip/ask.py). -/
import Derived.Test.YteifmlmmfghjjaaSignAsk
import Derived.Test.YteifmlmmfghjjaaMaySign2
import Derived.WalkKit
import Derived.WalkSpells
import Derived.WalkLawsBesides
import Derived.Lib.Hide
namespace Go.Proofs.Yteifmlmmfghjjaa
open Go.RowKit

theorem l14Of_any (h r st : Int) (id : ByteArray) (v : Int) (w : World) :
    Calls Try.prog 45 #[.agg #[.int .i64 h, .int .i64 r, .int .i64 st, .string id, .int .i64 v]] w fun e w' => e = .returned (.agg #[.int .i64 h, .int .i64 r, .int .i64 st, .string id]) ∧ Below w.heap.size w w' := by
  go_enter Try.func45, Try.ntmps45
  go_wp2
  exact bodyPost_ret (v := .agg #[.int .i64 h, .int .i64 r, .int .i64 st, .string id]) (by simp [results, Try.results45, go_sem]) rfl ⟨rfl, (by repeat (first | exact Below.refl _ _ | assumption | refine Below.drew ?_ | refine belN ?_ _ | refine Below.alloc ?_ (by first | exact Nat.le_refl _ | (simp; done) | (simp; omega) | omega) _ | refine Below.setCell ?_ (by first | exact Nat.le_refl _ | (simp; done) | (simp; omega) | omega) _ | refine Below.trans ?_ (Below.mono (by assumption) (by first | exact Nat.le_refl _ | (simp; done) | (simp; omega) | omega))))⟩

set_option maxRecDepth 100000 in
set_option maxHeartbeats 8000000 in
theorem sSignAsk_any (s : SignS) (A : Option Addr) (c : Nat) (l : List VoteD) (v : VoteD) (w : World) (hl : RdL voteC 5 w w.heap.size A l.length c l) :
    Calls Try.prog 20 #[.agg #[.int .i64 s.val, .int .i64 s.dh, .int .i64 s.dr, .int .i64 s.ds, .string s.di, .int .i64 s.mh, .int .i64 s.mr, .int .i64 s.ms, .string s.mi, .bool s.pend, .slice A l.length c], .agg #[.int .i64 v.h, .int .i64 v.r, .int .i64 v.st, .string v.id, .int .i64 v.v]] w (SignerOutK (askS s l v) (askL s l v) (.int .i64 (askK s l v)) w) := by
  have HL := Lib.hid hl
  clear hl
  cases hB : signB s l
  · have HB := Lib.hid hB
    have E1 : Hid (askS s l v = zeroS) := by show _ = _; simp [askS, hB]
    have E2 : Hid (askL s l v = []) := by show _ = _; simp [askL, hB]
    have E3 : Hid (askK s l v = 2) := by show _ = _; simp [askK, hB]
    clear hB
    go_enter Try.func20, Try.ntmps20
    go_wp2_with fail
    refine (sSignerOk_any s A l.length c l _ (by exact ((((HL.out).alloc (by first | with_reducible exact Nat.le_refl _ | (simp; done) | omega | (simp; omega)) _).alloc (by first | with_reducible exact Nat.le_refl _ | (simp; done) | omega | (simp; omega)) _).alloc (by first | with_reducible exact Nat.le_refl _ | (simp; done) | omega | (simp; omega)) _).more (by first | with_reducible exact Nat.le_refl _ | (simp; done) | omega | (simp; omega)))).mono ?_
    rw [HB.out]
    rintro e w1 ⟨rfl, hb⟩
    obtain ⟨hc, hf, hz⟩ := bcell hb
    have hz' : w.heap.size + 3 ≤ w1.heap.size := by simp at hz; omega
    have hq3 := cell_alloc3 w
    have hq4 := cell_alloc3b w
    have tr0 : w1.cell? ⟨w.heap.size + 1 + 1, 0, none⟩ = some (.int .i64 0) := by rw [hc _ _ (by first | (simp; done) | (simp; omega))]; exact (blk_alloc3 w _ _ _ _).cell _
    have tr1 : w1.cell? ⟨w.heap.size + 1 + 1, 1, none⟩ = some (.int .i64 0) := by rw [hc _ _ (by first | (simp; done) | (simp; omega))]; exact (blk_alloc3 w _ _ _ _).cell _
    have tr2 : w1.cell? ⟨w.heap.size + 1 + 1, 2, none⟩ = some (.int .i64 0) := by rw [hc _ _ (by first | (simp; done) | (simp; omega))]; exact (blk_alloc3 w _ _ _ _).cell _
    have tr3 : w1.cell? ⟨w.heap.size + 1 + 1, 3, none⟩ = some (.int .i64 0) := by rw [hc _ _ (by first | (simp; done) | (simp; omega))]; exact (blk_alloc3 w _ _ _ _).cell _
    have tr4 : w1.cell? ⟨w.heap.size + 1 + 1, 4, none⟩ = some (.string ⟨#[]⟩) := by rw [hc _ _ (by first | (simp; done) | (simp; omega))]; exact (blk_alloc3 w _ _ _ _).cell _
    have tr5 : w1.cell? ⟨w.heap.size + 1 + 1, 5, none⟩ = some (.int .i64 0) := by rw [hc _ _ (by first | (simp; done) | (simp; omega))]; exact (blk_alloc3 w _ _ _ _).cell _
    have tr6 : w1.cell? ⟨w.heap.size + 1 + 1, 6, none⟩ = some (.int .i64 0) := by rw [hc _ _ (by first | (simp; done) | (simp; omega))]; exact (blk_alloc3 w _ _ _ _).cell _
    have tr7 : w1.cell? ⟨w.heap.size + 1 + 1, 7, none⟩ = some (.int .i64 0) := by rw [hc _ _ (by first | (simp; done) | (simp; omega))]; exact (blk_alloc3 w _ _ _ _).cell _
    have tr8 : w1.cell? ⟨w.heap.size + 1 + 1, 8, none⟩ = some (.string ⟨#[]⟩) := by rw [hc _ _ (by first | (simp; done) | (simp; omega))]; exact (blk_alloc3 w _ _ _ _).cell _
    have tr9 : w1.cell? ⟨w.heap.size + 1 + 1, 9, none⟩ = some (.bool false) := by rw [hc _ _ (by first | (simp; done) | (simp; omega))]; exact (blk_alloc3 w _ _ _ _).cell _
    have tr10 : w1.cell? ⟨w.heap.size + 1 + 1, 10, none⟩ = some (.slice none 0 0) := by rw [hc _ _ (by first | (simp; done) | (simp; omega))]; exact (blk_alloc3 w _ _ _ _).cell _
    have fr : ∀ o, w1.frozen? ⟨w.heap.size + 1 + 1, o, none⟩ = false := fun o => by rw [hf _ _ (by first | (simp; done) | (simp; omega))]; exact (blk_alloc3 w _ _ _ _).frozen _
    have GB := Lib.hid (Below.trans (show Below w.heap.size w _ by exact (by repeat (first | exact Below.refl _ _ | assumption | refine Below.drew ?_ | refine belN ?_ _ | refine Below.alloc ?_ (by first | exact Nat.le_refl _ | (simp; done) | (simp; omega) | omega) _ | refine Below.setCell ?_ (by first | exact Nat.le_refl _ | (simp; done) | (simp; omega) | omega) _ | refine Below.trans ?_ (Below.mono (by assumption) (by first | exact Nat.le_refl _ | (simp; done) | (simp; omega) | omega))))) (Below.mono hb (by first | with_reducible exact Nat.le_refl _ | (simp; done) | omega | (simp; omega))))
    clear hc hf hz hb hq3 hq4
    go_wp2
    refine bodyPost_ret (v := .tuple #[.agg #[.int .i64 0, .int .i64 0, .int .i64 0, .int .i64 0, .string ⟨#[]⟩, .int .i64 0, .int .i64 0, .int .i64 0, .string ⟨#[]⟩, .bool false, .slice none 0 0], .int .i64 2]) (by simp [results, Try.results20, go_sem, tr0, tr1, tr2, tr3, tr4, tr5, tr6, tr7, tr8, tr9, tr10]) rfl ?_
    rw [E1.out, E2.out, E3.out]
    refine ⟨none, 0, rfl, ⟨rfl, .inl ⟨rfl, rfl, rfl⟩⟩, ?_⟩
    (repeat (first | with_reducible refine Below.setCell ?_ (by first | exact Nat.le_refl _ | (simp; done) | (simp; omega)) _ | with_reducible refine Below.alloc ?_ (by first | exact Nat.le_refl _ | (simp; done) | (simp; omega)) _ | with_reducible refine Below.drew ?_)); (with_reducible exact GB.out)
  have hn := signB_len hB
  obtain ⟨val, dh, dr, ds, di, mh, mr, ms, mi, pend⟩ := s
  obtain ⟨vh, vr', vs, vi, vv⟩ := v
  obtain ⟨k, hk⟩ : ∃ k, maySignN mh mr ms mi vh vr' vs vi vv = k := ⟨_, rfl⟩
  cases pend
  case true =>
    have HB := Lib.hid hB
    have E1 : Hid (askS ⟨val, dh, dr, ds, di, mh, mr, ms, mi, true⟩ l ⟨vh, vr', vs, vi, vv⟩ = ⟨val, dh, dr, ds, di, mh, mr, ms, mi, true⟩) := by show _ = _; simp [askS, hB, askReady]
    have E2 : Hid (askL ⟨val, dh, dr, ds, di, mh, mr, ms, mi, true⟩ l ⟨vh, vr', vs, vi, vv⟩ = l) := by show _ = _; simp [askL, hB, askReady]
    have E3 : Hid (askK ⟨val, dh, dr, ds, di, mh, mr, ms, mi, true⟩ l ⟨vh, vr', vs, vi, vv⟩ = 2) := by show _ = _; simp [askK, hB, askReady]
    have HKK := Lib.hid hk
    clear hB hk
    go_enter Try.func20, Try.ntmps20
    go_wp2_with fail
    refine (sSignerOk_any ⟨val, dh, dr, ds, di, mh, mr, ms, mi, true⟩ A l.length c l _ (by exact ((((HL.out).alloc (by first | with_reducible exact Nat.le_refl _ | (simp; done) | omega | (simp; omega)) _).alloc (by first | with_reducible exact Nat.le_refl _ | (simp; done) | omega | (simp; omega)) _).alloc (by first | with_reducible exact Nat.le_refl _ | (simp; done) | omega | (simp; omega)) _).more (by first | with_reducible exact Nat.le_refl _ | (simp; done) | omega | (simp; omega)))).mono ?_
    rw [HB.out]
    rintro e w1 ⟨rfl, hb⟩
    obtain ⟨hc, hf, hz⟩ := bcell hb
    have hz' : w.heap.size + 3 ≤ w1.heap.size := by simp at hz; omega
    have hq3 := cell_alloc3 w
    have hq4 := cell_alloc3b w
    have ta0 : w1.cell? ⟨w.heap.size, 0, none⟩ = some (.int .i64 val) := by rw [hc _ _ (by first | (simp; done) | (simp; omega)), hq3]; simp
    have ta1 : w1.cell? ⟨w.heap.size, 1, none⟩ = some (.int .i64 dh) := by rw [hc _ _ (by first | (simp; done) | (simp; omega)), hq3]; simp
    have ta2 : w1.cell? ⟨w.heap.size, 2, none⟩ = some (.int .i64 dr) := by rw [hc _ _ (by first | (simp; done) | (simp; omega)), hq3]; simp
    have ta3 : w1.cell? ⟨w.heap.size, 3, none⟩ = some (.int .i64 ds) := by rw [hc _ _ (by first | (simp; done) | (simp; omega)), hq3]; simp
    have ta4 : w1.cell? ⟨w.heap.size, 4, none⟩ = some (.string di) := by rw [hc _ _ (by first | (simp; done) | (simp; omega)), hq3]; simp
    have ta5 : w1.cell? ⟨w.heap.size, 5, none⟩ = some (.int .i64 mh) := by rw [hc _ _ (by first | (simp; done) | (simp; omega)), hq3]; simp
    have ta6 : w1.cell? ⟨w.heap.size, 6, none⟩ = some (.int .i64 mr) := by rw [hc _ _ (by first | (simp; done) | (simp; omega)), hq3]; simp
    have ta7 : w1.cell? ⟨w.heap.size, 7, none⟩ = some (.int .i64 ms) := by rw [hc _ _ (by first | (simp; done) | (simp; omega)), hq3]; simp
    have ta8 : w1.cell? ⟨w.heap.size, 8, none⟩ = some (.string mi) := by rw [hc _ _ (by first | (simp; done) | (simp; omega)), hq3]; simp
    have ta9 : w1.cell? ⟨w.heap.size, 9, none⟩ = some (.bool true) := by rw [hc _ _ (by first | (simp; done) | (simp; omega)), hq3]; simp
    have ta10 : w1.cell? ⟨w.heap.size, 10, none⟩ = some (.slice A l.length c) := by rw [hc _ _ (by first | (simp; done) | (simp; omega)), hq3]; simp
    have tv0 : w1.cell? ⟨w.heap.size + 1, 0, none⟩ = some (.int .i64 vh) := by rw [hc _ _ (by first | (simp; done) | (simp; omega)), hq4]; simp
    have tv1 : w1.cell? ⟨w.heap.size + 1, 1, none⟩ = some (.int .i64 vr') := by rw [hc _ _ (by first | (simp; done) | (simp; omega)), hq4]; simp
    have tv2 : w1.cell? ⟨w.heap.size + 1, 2, none⟩ = some (.int .i64 vs) := by rw [hc _ _ (by first | (simp; done) | (simp; omega)), hq4]; simp
    have tv3 : w1.cell? ⟨w.heap.size + 1, 3, none⟩ = some (.string vi) := by rw [hc _ _ (by first | (simp; done) | (simp; omega)), hq4]; simp
    have tv4 : w1.cell? ⟨w.heap.size + 1, 4, none⟩ = some (.int .i64 vv) := by rw [hc _ _ (by first | (simp; done) | (simp; omega)), hq4]; simp
    have tr0 : w1.cell? ⟨w.heap.size + 1 + 1, 0, none⟩ = some (.int .i64 0) := by rw [hc _ _ (by first | (simp; done) | (simp; omega))]; exact (blk_alloc3 w _ _ _ _).cell _
    have tr1 : w1.cell? ⟨w.heap.size + 1 + 1, 1, none⟩ = some (.int .i64 0) := by rw [hc _ _ (by first | (simp; done) | (simp; omega))]; exact (blk_alloc3 w _ _ _ _).cell _
    have tr2 : w1.cell? ⟨w.heap.size + 1 + 1, 2, none⟩ = some (.int .i64 0) := by rw [hc _ _ (by first | (simp; done) | (simp; omega))]; exact (blk_alloc3 w _ _ _ _).cell _
    have tr3 : w1.cell? ⟨w.heap.size + 1 + 1, 3, none⟩ = some (.int .i64 0) := by rw [hc _ _ (by first | (simp; done) | (simp; omega))]; exact (blk_alloc3 w _ _ _ _).cell _
    have tr4 : w1.cell? ⟨w.heap.size + 1 + 1, 4, none⟩ = some (.string ⟨#[]⟩) := by rw [hc _ _ (by first | (simp; done) | (simp; omega))]; exact (blk_alloc3 w _ _ _ _).cell _
    have tr5 : w1.cell? ⟨w.heap.size + 1 + 1, 5, none⟩ = some (.int .i64 0) := by rw [hc _ _ (by first | (simp; done) | (simp; omega))]; exact (blk_alloc3 w _ _ _ _).cell _
    have tr6 : w1.cell? ⟨w.heap.size + 1 + 1, 6, none⟩ = some (.int .i64 0) := by rw [hc _ _ (by first | (simp; done) | (simp; omega))]; exact (blk_alloc3 w _ _ _ _).cell _
    have tr7 : w1.cell? ⟨w.heap.size + 1 + 1, 7, none⟩ = some (.int .i64 0) := by rw [hc _ _ (by first | (simp; done) | (simp; omega))]; exact (blk_alloc3 w _ _ _ _).cell _
    have tr8 : w1.cell? ⟨w.heap.size + 1 + 1, 8, none⟩ = some (.string ⟨#[]⟩) := by rw [hc _ _ (by first | (simp; done) | (simp; omega))]; exact (blk_alloc3 w _ _ _ _).cell _
    have tr9 : w1.cell? ⟨w.heap.size + 1 + 1, 9, none⟩ = some (.bool false) := by rw [hc _ _ (by first | (simp; done) | (simp; omega))]; exact (blk_alloc3 w _ _ _ _).cell _
    have tr10 : w1.cell? ⟨w.heap.size + 1 + 1, 10, none⟩ = some (.slice none 0 0) := by rw [hc _ _ (by first | (simp; done) | (simp; omega))]; exact (blk_alloc3 w _ _ _ _).cell _
    have fr : ∀ o, w1.frozen? ⟨w.heap.size + 1 + 1, o, none⟩ = false := fun o => by rw [hf _ _ (by first | (simp; done) | (simp; omega))]; exact (blk_alloc3 w _ _ _ _).frozen _
    have GB := Lib.hid (Below.trans (show Below w.heap.size w _ by exact (by repeat (first | exact Below.refl _ _ | assumption | refine Below.drew ?_ | refine belN ?_ _ | refine Below.alloc ?_ (by first | exact Nat.le_refl _ | (simp; done) | (simp; omega) | omega) _ | refine Below.setCell ?_ (by first | exact Nat.le_refl _ | (simp; done) | (simp; omega) | omega) _ | refine Below.trans ?_ (Below.mono (by assumption) (by first | exact Nat.le_refl _ | (simp; done) | (simp; omega) | omega))))) (Below.mono hb (by first | with_reducible exact Nat.le_refl _ | (simp; done) | omega | (simp; omega))))
    clear hc hf hz hb hq3 hq4
    go_wp2_with fail
    refine (l14Copy_any ⟨val, dh, dr, ds, di, mh, mr, ms, mi, true⟩ A l.length c l _ (by exact (HL.out.below GB.out (Nat.le_refl _)).more GB.out.size) (by omega)).mono ?_
    rintro e w2 ⟨A2, n2, c2, rfl, ho, hb⟩
    obtain rfl : l.length = n2 := ho.1
    have HO := Lib.hid ho
    clear ho
    obtain ⟨hc, hf, hz⟩ := bcell hb
    have hw12 : w1.heap.size ≤ w2.heap.size := hz
    have hp0 : w.heap.size < w1.heap.size := by omega
    have hq0 : w.heap.size < w2.heap.size := by omega
    have hp1 : w.heap.size + 1 < w1.heap.size := by omega
    have hq1 : w.heap.size + 1 < w2.heap.size := by omega
    have hp2 : w.heap.size + 1 + 1 < w1.heap.size := by omega
    have hq2 : w.heap.size + 1 + 1 < w2.heap.size := by omega
    have ua0 := (hc w.heap.size 0 hp0).trans ta0
    have ua1 := (hc w.heap.size 1 hp0).trans ta1
    have ua2 := (hc w.heap.size 2 hp0).trans ta2
    have ua3 := (hc w.heap.size 3 hp0).trans ta3
    have ua4 := (hc w.heap.size 4 hp0).trans ta4
    have ua5 := (hc w.heap.size 5 hp0).trans ta5
    have ua6 := (hc w.heap.size 6 hp0).trans ta6
    have ua7 := (hc w.heap.size 7 hp0).trans ta7
    have ua8 := (hc w.heap.size 8 hp0).trans ta8
    have ua9 := (hc w.heap.size 9 hp0).trans ta9
    have ua10 := (hc w.heap.size 10 hp0).trans ta10
    have uv0 := (hc (w.heap.size + 1) 0 hp1).trans tv0
    have uv1 := (hc (w.heap.size + 1) 1 hp1).trans tv1
    have uv2 := (hc (w.heap.size + 1) 2 hp1).trans tv2
    have uv3 := (hc (w.heap.size + 1) 3 hp1).trans tv3
    have uv4 := (hc (w.heap.size + 1) 4 hp1).trans tv4
    have ur0 := (hc (w.heap.size + 1 + 1) 0 hp2).trans tr0
    have ur1 := (hc (w.heap.size + 1 + 1) 1 hp2).trans tr1
    have ur2 := (hc (w.heap.size + 1 + 1) 2 hp2).trans tr2
    have ur3 := (hc (w.heap.size + 1 + 1) 3 hp2).trans tr3
    have ur4 := (hc (w.heap.size + 1 + 1) 4 hp2).trans tr4
    have ur5 := (hc (w.heap.size + 1 + 1) 5 hp2).trans tr5
    have ur6 := (hc (w.heap.size + 1 + 1) 6 hp2).trans tr6
    have ur7 := (hc (w.heap.size + 1 + 1) 7 hp2).trans tr7
    have ur8 := (hc (w.heap.size + 1 + 1) 8 hp2).trans tr8
    have ur9 := (hc (w.heap.size + 1 + 1) 9 hp2).trans tr9
    have ur10 := (hc (w.heap.size + 1 + 1) 10 hp2).trans tr10
    have vr : ∀ o, w2.frozen? ⟨w.heap.size + 1 + 1, o, none⟩ = false := fun o => (hf _ _ hp2).trans (fr o)
    have GB2 := Lib.hid (GB.out.trans (Below.mono hb (by omega)))
    clear hc hf hz hb fr ta0 ta1 ta2 ta3 ta4 ta5 ta6 ta7 ta8 ta9 ta10 tr0 tr1 tr2 tr3 tr4 tr5 tr6 tr7 tr8 tr9 tr10 tv0 tv1 tv2 tv3 tv4
    go_wp2
    refine bodyPost_ret (v := .tuple #[.agg #[.int .i64 val, .int .i64 dh, .int .i64 dr, .int .i64 ds, .string di, .int .i64 mh, .int .i64 mr, .int .i64 ms, .string mi, .bool true, .slice A2 l.length c2], .int .i64 2]) (by simp [results, Try.results20, go_sem, ur0, ur1, ur2, ur3, ur4, ur5, ur6, ur7, ur8, ur9, ur10, hq2]) rfl ?_
    rw [E1.out, E2.out, E3.out]
    refine ⟨_, _, rfl, ?_, ?_⟩
    · refine ((HO.out.chg (lo' := w.heap.size) (hi' := w.heap.size + 1 + 1 + 1) ?_ (.inr (by first | with_reducible exact Nat.le_refl _ | (simp; done) | omega | (simp; omega)))).wide (by first | with_reducible exact Nat.le_refl _ | (simp; done) | omega | (simp; omega)) (by simp))
      (repeat (first | with_reducible refine Chg.setCell ?_ (by first | exact Nat.le_refl _ | (simp; done) | (simp; omega)) (by first | (simp; done) | (simp; omega)) _ | with_reducible refine Chg.alloc ?_ _ | with_reducible refine Chg.drew ?_)); (with_reducible exact Chg.refl _ _ _)
    · (repeat (first | with_reducible refine Below.setCell ?_ (by first | exact Nat.le_refl _ | (simp; done) | (simp; omega)) _ | with_reducible refine Below.alloc ?_ (by first | exact Nat.le_refl _ | (simp; done) | (simp; omega)) _ | with_reducible refine Below.drew ?_)); (with_reducible exact GB2.out)
  cases hvv : (vv == val)
  case false =>
    have hvn : (vv != val) = true := by simp only [bne, hvv]; rfl
    have HB := Lib.hid hB
    have E1 : Hid (askS ⟨val, dh, dr, ds, di, mh, mr, ms, mi, false⟩ l ⟨vh, vr', vs, vi, vv⟩ = ⟨val, dh, dr, ds, di, mh, mr, ms, mi, false⟩) := by show _ = _; simp [askS, hB, hvv, askReady]
    have E2 : Hid (askL ⟨val, dh, dr, ds, di, mh, mr, ms, mi, false⟩ l ⟨vh, vr', vs, vi, vv⟩ = l) := by show _ = _; simp [askL, hB, hvv, askReady]
    have E3 : Hid (askK ⟨val, dh, dr, ds, di, mh, mr, ms, mi, false⟩ l ⟨vh, vr', vs, vi, vv⟩ = 2) := by show _ = _; simp [askK, hB, hvv, askReady]
    have HKK := Lib.hid hk
    clear hB hk
    go_enter Try.func20, Try.ntmps20
    go_wp2_with fail
    refine (sSignerOk_any ⟨val, dh, dr, ds, di, mh, mr, ms, mi, false⟩ A l.length c l _ (by exact ((((HL.out).alloc (by first | with_reducible exact Nat.le_refl _ | (simp; done) | omega | (simp; omega)) _).alloc (by first | with_reducible exact Nat.le_refl _ | (simp; done) | omega | (simp; omega)) _).alloc (by first | with_reducible exact Nat.le_refl _ | (simp; done) | omega | (simp; omega)) _).more (by first | with_reducible exact Nat.le_refl _ | (simp; done) | omega | (simp; omega)))).mono ?_
    rw [HB.out]
    rintro e w1 ⟨rfl, hb⟩
    obtain ⟨hc, hf, hz⟩ := bcell hb
    have hz' : w.heap.size + 3 ≤ w1.heap.size := by simp at hz; omega
    have hq3 := cell_alloc3 w
    have hq4 := cell_alloc3b w
    have ta0 : w1.cell? ⟨w.heap.size, 0, none⟩ = some (.int .i64 val) := by rw [hc _ _ (by first | (simp; done) | (simp; omega)), hq3]; simp
    have ta1 : w1.cell? ⟨w.heap.size, 1, none⟩ = some (.int .i64 dh) := by rw [hc _ _ (by first | (simp; done) | (simp; omega)), hq3]; simp
    have ta2 : w1.cell? ⟨w.heap.size, 2, none⟩ = some (.int .i64 dr) := by rw [hc _ _ (by first | (simp; done) | (simp; omega)), hq3]; simp
    have ta3 : w1.cell? ⟨w.heap.size, 3, none⟩ = some (.int .i64 ds) := by rw [hc _ _ (by first | (simp; done) | (simp; omega)), hq3]; simp
    have ta4 : w1.cell? ⟨w.heap.size, 4, none⟩ = some (.string di) := by rw [hc _ _ (by first | (simp; done) | (simp; omega)), hq3]; simp
    have ta5 : w1.cell? ⟨w.heap.size, 5, none⟩ = some (.int .i64 mh) := by rw [hc _ _ (by first | (simp; done) | (simp; omega)), hq3]; simp
    have ta6 : w1.cell? ⟨w.heap.size, 6, none⟩ = some (.int .i64 mr) := by rw [hc _ _ (by first | (simp; done) | (simp; omega)), hq3]; simp
    have ta7 : w1.cell? ⟨w.heap.size, 7, none⟩ = some (.int .i64 ms) := by rw [hc _ _ (by first | (simp; done) | (simp; omega)), hq3]; simp
    have ta8 : w1.cell? ⟨w.heap.size, 8, none⟩ = some (.string mi) := by rw [hc _ _ (by first | (simp; done) | (simp; omega)), hq3]; simp
    have ta9 : w1.cell? ⟨w.heap.size, 9, none⟩ = some (.bool false) := by rw [hc _ _ (by first | (simp; done) | (simp; omega)), hq3]; simp
    have ta10 : w1.cell? ⟨w.heap.size, 10, none⟩ = some (.slice A l.length c) := by rw [hc _ _ (by first | (simp; done) | (simp; omega)), hq3]; simp
    have tv0 : w1.cell? ⟨w.heap.size + 1, 0, none⟩ = some (.int .i64 vh) := by rw [hc _ _ (by first | (simp; done) | (simp; omega)), hq4]; simp
    have tv1 : w1.cell? ⟨w.heap.size + 1, 1, none⟩ = some (.int .i64 vr') := by rw [hc _ _ (by first | (simp; done) | (simp; omega)), hq4]; simp
    have tv2 : w1.cell? ⟨w.heap.size + 1, 2, none⟩ = some (.int .i64 vs) := by rw [hc _ _ (by first | (simp; done) | (simp; omega)), hq4]; simp
    have tv3 : w1.cell? ⟨w.heap.size + 1, 3, none⟩ = some (.string vi) := by rw [hc _ _ (by first | (simp; done) | (simp; omega)), hq4]; simp
    have tv4 : w1.cell? ⟨w.heap.size + 1, 4, none⟩ = some (.int .i64 vv) := by rw [hc _ _ (by first | (simp; done) | (simp; omega)), hq4]; simp
    have tr0 : w1.cell? ⟨w.heap.size + 1 + 1, 0, none⟩ = some (.int .i64 0) := by rw [hc _ _ (by first | (simp; done) | (simp; omega))]; exact (blk_alloc3 w _ _ _ _).cell _
    have tr1 : w1.cell? ⟨w.heap.size + 1 + 1, 1, none⟩ = some (.int .i64 0) := by rw [hc _ _ (by first | (simp; done) | (simp; omega))]; exact (blk_alloc3 w _ _ _ _).cell _
    have tr2 : w1.cell? ⟨w.heap.size + 1 + 1, 2, none⟩ = some (.int .i64 0) := by rw [hc _ _ (by first | (simp; done) | (simp; omega))]; exact (blk_alloc3 w _ _ _ _).cell _
    have tr3 : w1.cell? ⟨w.heap.size + 1 + 1, 3, none⟩ = some (.int .i64 0) := by rw [hc _ _ (by first | (simp; done) | (simp; omega))]; exact (blk_alloc3 w _ _ _ _).cell _
    have tr4 : w1.cell? ⟨w.heap.size + 1 + 1, 4, none⟩ = some (.string ⟨#[]⟩) := by rw [hc _ _ (by first | (simp; done) | (simp; omega))]; exact (blk_alloc3 w _ _ _ _).cell _
    have tr5 : w1.cell? ⟨w.heap.size + 1 + 1, 5, none⟩ = some (.int .i64 0) := by rw [hc _ _ (by first | (simp; done) | (simp; omega))]; exact (blk_alloc3 w _ _ _ _).cell _
    have tr6 : w1.cell? ⟨w.heap.size + 1 + 1, 6, none⟩ = some (.int .i64 0) := by rw [hc _ _ (by first | (simp; done) | (simp; omega))]; exact (blk_alloc3 w _ _ _ _).cell _
    have tr7 : w1.cell? ⟨w.heap.size + 1 + 1, 7, none⟩ = some (.int .i64 0) := by rw [hc _ _ (by first | (simp; done) | (simp; omega))]; exact (blk_alloc3 w _ _ _ _).cell _
    have tr8 : w1.cell? ⟨w.heap.size + 1 + 1, 8, none⟩ = some (.string ⟨#[]⟩) := by rw [hc _ _ (by first | (simp; done) | (simp; omega))]; exact (blk_alloc3 w _ _ _ _).cell _
    have tr9 : w1.cell? ⟨w.heap.size + 1 + 1, 9, none⟩ = some (.bool false) := by rw [hc _ _ (by first | (simp; done) | (simp; omega))]; exact (blk_alloc3 w _ _ _ _).cell _
    have tr10 : w1.cell? ⟨w.heap.size + 1 + 1, 10, none⟩ = some (.slice none 0 0) := by rw [hc _ _ (by first | (simp; done) | (simp; omega))]; exact (blk_alloc3 w _ _ _ _).cell _
    have fr : ∀ o, w1.frozen? ⟨w.heap.size + 1 + 1, o, none⟩ = false := fun o => by rw [hf _ _ (by first | (simp; done) | (simp; omega))]; exact (blk_alloc3 w _ _ _ _).frozen _
    have GB := Lib.hid (Below.trans (show Below w.heap.size w _ by exact (by repeat (first | exact Below.refl _ _ | assumption | refine Below.drew ?_ | refine belN ?_ _ | refine Below.alloc ?_ (by first | exact Nat.le_refl _ | (simp; done) | (simp; omega) | omega) _ | refine Below.setCell ?_ (by first | exact Nat.le_refl _ | (simp; done) | (simp; omega) | omega) _ | refine Below.trans ?_ (Below.mono (by assumption) (by first | exact Nat.le_refl _ | (simp; done) | (simp; omega) | omega))))) (Below.mono hb (by first | with_reducible exact Nat.le_refl _ | (simp; done) | omega | (simp; omega))))
    clear hc hf hz hb hq3 hq4
    go_wp2_with fail
    refine (l14Copy_any ⟨val, dh, dr, ds, di, mh, mr, ms, mi, false⟩ A l.length c l _ (by exact (HL.out.below GB.out (Nat.le_refl _)).more GB.out.size) (by omega)).mono ?_
    rintro e w2 ⟨A2, n2, c2, rfl, ho, hb⟩
    obtain rfl : l.length = n2 := ho.1
    have HO := Lib.hid ho
    clear ho
    obtain ⟨hc, hf, hz⟩ := bcell hb
    have hw12 : w1.heap.size ≤ w2.heap.size := hz
    have hp0 : w.heap.size < w1.heap.size := by omega
    have hq0 : w.heap.size < w2.heap.size := by omega
    have hp1 : w.heap.size + 1 < w1.heap.size := by omega
    have hq1 : w.heap.size + 1 < w2.heap.size := by omega
    have hp2 : w.heap.size + 1 + 1 < w1.heap.size := by omega
    have hq2 : w.heap.size + 1 + 1 < w2.heap.size := by omega
    have ua0 := (hc w.heap.size 0 hp0).trans ta0
    have ua1 := (hc w.heap.size 1 hp0).trans ta1
    have ua2 := (hc w.heap.size 2 hp0).trans ta2
    have ua3 := (hc w.heap.size 3 hp0).trans ta3
    have ua4 := (hc w.heap.size 4 hp0).trans ta4
    have ua5 := (hc w.heap.size 5 hp0).trans ta5
    have ua6 := (hc w.heap.size 6 hp0).trans ta6
    have ua7 := (hc w.heap.size 7 hp0).trans ta7
    have ua8 := (hc w.heap.size 8 hp0).trans ta8
    have ua9 := (hc w.heap.size 9 hp0).trans ta9
    have ua10 := (hc w.heap.size 10 hp0).trans ta10
    have uv0 := (hc (w.heap.size + 1) 0 hp1).trans tv0
    have uv1 := (hc (w.heap.size + 1) 1 hp1).trans tv1
    have uv2 := (hc (w.heap.size + 1) 2 hp1).trans tv2
    have uv3 := (hc (w.heap.size + 1) 3 hp1).trans tv3
    have uv4 := (hc (w.heap.size + 1) 4 hp1).trans tv4
    have ur0 := (hc (w.heap.size + 1 + 1) 0 hp2).trans tr0
    have ur1 := (hc (w.heap.size + 1 + 1) 1 hp2).trans tr1
    have ur2 := (hc (w.heap.size + 1 + 1) 2 hp2).trans tr2
    have ur3 := (hc (w.heap.size + 1 + 1) 3 hp2).trans tr3
    have ur4 := (hc (w.heap.size + 1 + 1) 4 hp2).trans tr4
    have ur5 := (hc (w.heap.size + 1 + 1) 5 hp2).trans tr5
    have ur6 := (hc (w.heap.size + 1 + 1) 6 hp2).trans tr6
    have ur7 := (hc (w.heap.size + 1 + 1) 7 hp2).trans tr7
    have ur8 := (hc (w.heap.size + 1 + 1) 8 hp2).trans tr8
    have ur9 := (hc (w.heap.size + 1 + 1) 9 hp2).trans tr9
    have ur10 := (hc (w.heap.size + 1 + 1) 10 hp2).trans tr10
    have vr : ∀ o, w2.frozen? ⟨w.heap.size + 1 + 1, o, none⟩ = false := fun o => (hf _ _ hp2).trans (fr o)
    have GB2 := Lib.hid (GB.out.trans (Below.mono hb (by omega)))
    clear hc hf hz hb fr ta0 ta1 ta2 ta3 ta4 ta5 ta6 ta7 ta8 ta9 ta10 tr0 tr1 tr2 tr3 tr4 tr5 tr6 tr7 tr8 tr9 tr10 tv0 tv1 tv2 tv3 tv4
    go_wp2
    refine bodyPost_ret (v := .tuple #[.agg #[.int .i64 val, .int .i64 dh, .int .i64 dr, .int .i64 ds, .string di, .int .i64 mh, .int .i64 mr, .int .i64 ms, .string mi, .bool false, .slice A2 l.length c2], .int .i64 2]) (by simp [results, Try.results20, go_sem, ur0, ur1, ur2, ur3, ur4, ur5, ur6, ur7, ur8, ur9, ur10, hq2]) rfl ?_
    rw [E1.out, E2.out, E3.out]
    refine ⟨_, _, rfl, ?_, ?_⟩
    · refine ((HO.out.chg (lo' := w.heap.size) (hi' := w.heap.size + 1 + 1 + 1) ?_ (.inr (by first | with_reducible exact Nat.le_refl _ | (simp; done) | omega | (simp; omega)))).wide (by first | with_reducible exact Nat.le_refl _ | (simp; done) | omega | (simp; omega)) (by simp))
      (repeat (first | with_reducible refine Chg.setCell ?_ (by first | exact Nat.le_refl _ | (simp; done) | (simp; omega)) (by first | (simp; done) | (simp; omega)) _ | with_reducible refine Chg.alloc ?_ _ | with_reducible refine Chg.drew ?_)); (with_reducible exact Chg.refl _ _ _)
    · (repeat (first | with_reducible refine Below.setCell ?_ (by first | exact Nat.le_refl _ | (simp; done) | (simp; omega)) _ | with_reducible refine Below.alloc ?_ (by first | exact Nat.le_refl _ | (simp; done) | (simp; omega)) _ | with_reducible refine Below.drew ?_)); (with_reducible exact GB2.out)
  have hvn : (vv != val) = false := by simp only [bne, hvv]; rfl
  by_cases h60 : l.length < 60
  case neg =>
    have h60b : ((l.length : Int) == 60) = true := by simp; omega
    have h60g : (60 : Int) ≤ l.length := by omega
    have HB := Lib.hid hB
    have E1 : Hid (askS ⟨val, dh, dr, ds, di, mh, mr, ms, mi, false⟩ l ⟨vh, vr', vs, vi, vv⟩ = ⟨val, dh, dr, ds, di, mh, mr, ms, mi, false⟩) := by show _ = _; simp [askS, hB, hvv, h60, askReady]
    have E2 : Hid (askL ⟨val, dh, dr, ds, di, mh, mr, ms, mi, false⟩ l ⟨vh, vr', vs, vi, vv⟩ = l) := by show _ = _; simp [askL, hB, hvv, h60, askReady]
    have E3 : Hid (askK ⟨val, dh, dr, ds, di, mh, mr, ms, mi, false⟩ l ⟨vh, vr', vs, vi, vv⟩ = 2) := by show _ = _; simp [askK, hB, hvv, h60, askReady]
    have HKK := Lib.hid hk
    clear hB hk
    go_enter Try.func20, Try.ntmps20
    go_wp2_with fail
    refine (sSignerOk_any ⟨val, dh, dr, ds, di, mh, mr, ms, mi, false⟩ A l.length c l _ (by exact ((((HL.out).alloc (by first | with_reducible exact Nat.le_refl _ | (simp; done) | omega | (simp; omega)) _).alloc (by first | with_reducible exact Nat.le_refl _ | (simp; done) | omega | (simp; omega)) _).alloc (by first | with_reducible exact Nat.le_refl _ | (simp; done) | omega | (simp; omega)) _).more (by first | with_reducible exact Nat.le_refl _ | (simp; done) | omega | (simp; omega)))).mono ?_
    rw [HB.out]
    rintro e w1 ⟨rfl, hb⟩
    obtain ⟨hc, hf, hz⟩ := bcell hb
    have hz' : w.heap.size + 3 ≤ w1.heap.size := by simp at hz; omega
    have hq3 := cell_alloc3 w
    have hq4 := cell_alloc3b w
    have ta0 : w1.cell? ⟨w.heap.size, 0, none⟩ = some (.int .i64 val) := by rw [hc _ _ (by first | (simp; done) | (simp; omega)), hq3]; simp
    have ta1 : w1.cell? ⟨w.heap.size, 1, none⟩ = some (.int .i64 dh) := by rw [hc _ _ (by first | (simp; done) | (simp; omega)), hq3]; simp
    have ta2 : w1.cell? ⟨w.heap.size, 2, none⟩ = some (.int .i64 dr) := by rw [hc _ _ (by first | (simp; done) | (simp; omega)), hq3]; simp
    have ta3 : w1.cell? ⟨w.heap.size, 3, none⟩ = some (.int .i64 ds) := by rw [hc _ _ (by first | (simp; done) | (simp; omega)), hq3]; simp
    have ta4 : w1.cell? ⟨w.heap.size, 4, none⟩ = some (.string di) := by rw [hc _ _ (by first | (simp; done) | (simp; omega)), hq3]; simp
    have ta5 : w1.cell? ⟨w.heap.size, 5, none⟩ = some (.int .i64 mh) := by rw [hc _ _ (by first | (simp; done) | (simp; omega)), hq3]; simp
    have ta6 : w1.cell? ⟨w.heap.size, 6, none⟩ = some (.int .i64 mr) := by rw [hc _ _ (by first | (simp; done) | (simp; omega)), hq3]; simp
    have ta7 : w1.cell? ⟨w.heap.size, 7, none⟩ = some (.int .i64 ms) := by rw [hc _ _ (by first | (simp; done) | (simp; omega)), hq3]; simp
    have ta8 : w1.cell? ⟨w.heap.size, 8, none⟩ = some (.string mi) := by rw [hc _ _ (by first | (simp; done) | (simp; omega)), hq3]; simp
    have ta9 : w1.cell? ⟨w.heap.size, 9, none⟩ = some (.bool false) := by rw [hc _ _ (by first | (simp; done) | (simp; omega)), hq3]; simp
    have ta10 : w1.cell? ⟨w.heap.size, 10, none⟩ = some (.slice A l.length c) := by rw [hc _ _ (by first | (simp; done) | (simp; omega)), hq3]; simp
    have tv0 : w1.cell? ⟨w.heap.size + 1, 0, none⟩ = some (.int .i64 vh) := by rw [hc _ _ (by first | (simp; done) | (simp; omega)), hq4]; simp
    have tv1 : w1.cell? ⟨w.heap.size + 1, 1, none⟩ = some (.int .i64 vr') := by rw [hc _ _ (by first | (simp; done) | (simp; omega)), hq4]; simp
    have tv2 : w1.cell? ⟨w.heap.size + 1, 2, none⟩ = some (.int .i64 vs) := by rw [hc _ _ (by first | (simp; done) | (simp; omega)), hq4]; simp
    have tv3 : w1.cell? ⟨w.heap.size + 1, 3, none⟩ = some (.string vi) := by rw [hc _ _ (by first | (simp; done) | (simp; omega)), hq4]; simp
    have tv4 : w1.cell? ⟨w.heap.size + 1, 4, none⟩ = some (.int .i64 vv) := by rw [hc _ _ (by first | (simp; done) | (simp; omega)), hq4]; simp
    have tr0 : w1.cell? ⟨w.heap.size + 1 + 1, 0, none⟩ = some (.int .i64 0) := by rw [hc _ _ (by first | (simp; done) | (simp; omega))]; exact (blk_alloc3 w _ _ _ _).cell _
    have tr1 : w1.cell? ⟨w.heap.size + 1 + 1, 1, none⟩ = some (.int .i64 0) := by rw [hc _ _ (by first | (simp; done) | (simp; omega))]; exact (blk_alloc3 w _ _ _ _).cell _
    have tr2 : w1.cell? ⟨w.heap.size + 1 + 1, 2, none⟩ = some (.int .i64 0) := by rw [hc _ _ (by first | (simp; done) | (simp; omega))]; exact (blk_alloc3 w _ _ _ _).cell _
    have tr3 : w1.cell? ⟨w.heap.size + 1 + 1, 3, none⟩ = some (.int .i64 0) := by rw [hc _ _ (by first | (simp; done) | (simp; omega))]; exact (blk_alloc3 w _ _ _ _).cell _
    have tr4 : w1.cell? ⟨w.heap.size + 1 + 1, 4, none⟩ = some (.string ⟨#[]⟩) := by rw [hc _ _ (by first | (simp; done) | (simp; omega))]; exact (blk_alloc3 w _ _ _ _).cell _
    have tr5 : w1.cell? ⟨w.heap.size + 1 + 1, 5, none⟩ = some (.int .i64 0) := by rw [hc _ _ (by first | (simp; done) | (simp; omega))]; exact (blk_alloc3 w _ _ _ _).cell _
    have tr6 : w1.cell? ⟨w.heap.size + 1 + 1, 6, none⟩ = some (.int .i64 0) := by rw [hc _ _ (by first | (simp; done) | (simp; omega))]; exact (blk_alloc3 w _ _ _ _).cell _
    have tr7 : w1.cell? ⟨w.heap.size + 1 + 1, 7, none⟩ = some (.int .i64 0) := by rw [hc _ _ (by first | (simp; done) | (simp; omega))]; exact (blk_alloc3 w _ _ _ _).cell _
    have tr8 : w1.cell? ⟨w.heap.size + 1 + 1, 8, none⟩ = some (.string ⟨#[]⟩) := by rw [hc _ _ (by first | (simp; done) | (simp; omega))]; exact (blk_alloc3 w _ _ _ _).cell _
    have tr9 : w1.cell? ⟨w.heap.size + 1 + 1, 9, none⟩ = some (.bool false) := by rw [hc _ _ (by first | (simp; done) | (simp; omega))]; exact (blk_alloc3 w _ _ _ _).cell _
    have tr10 : w1.cell? ⟨w.heap.size + 1 + 1, 10, none⟩ = some (.slice none 0 0) := by rw [hc _ _ (by first | (simp; done) | (simp; omega))]; exact (blk_alloc3 w _ _ _ _).cell _
    have fr : ∀ o, w1.frozen? ⟨w.heap.size + 1 + 1, o, none⟩ = false := fun o => by rw [hf _ _ (by first | (simp; done) | (simp; omega))]; exact (blk_alloc3 w _ _ _ _).frozen _
    have GB := Lib.hid (Below.trans (show Below w.heap.size w _ by exact (by repeat (first | exact Below.refl _ _ | assumption | refine Below.drew ?_ | refine belN ?_ _ | refine Below.alloc ?_ (by first | exact Nat.le_refl _ | (simp; done) | (simp; omega) | omega) _ | refine Below.setCell ?_ (by first | exact Nat.le_refl _ | (simp; done) | (simp; omega) | omega) _ | refine Below.trans ?_ (Below.mono (by assumption) (by first | exact Nat.le_refl _ | (simp; done) | (simp; omega) | omega))))) (Below.mono hb (by first | with_reducible exact Nat.le_refl _ | (simp; done) | omega | (simp; omega))))
    clear hc hf hz hb hq3 hq4
    go_wp2_with fail
    refine (l14Copy_any ⟨val, dh, dr, ds, di, mh, mr, ms, mi, false⟩ A l.length c l _ (by exact (HL.out.below GB.out (Nat.le_refl _)).more GB.out.size) (by omega)).mono ?_
    rintro e w2 ⟨A2, n2, c2, rfl, ho, hb⟩
    obtain rfl : l.length = n2 := ho.1
    have HO := Lib.hid ho
    clear ho
    obtain ⟨hc, hf, hz⟩ := bcell hb
    have hw12 : w1.heap.size ≤ w2.heap.size := hz
    have hp0 : w.heap.size < w1.heap.size := by omega
    have hq0 : w.heap.size < w2.heap.size := by omega
    have hp1 : w.heap.size + 1 < w1.heap.size := by omega
    have hq1 : w.heap.size + 1 < w2.heap.size := by omega
    have hp2 : w.heap.size + 1 + 1 < w1.heap.size := by omega
    have hq2 : w.heap.size + 1 + 1 < w2.heap.size := by omega
    have ua0 := (hc w.heap.size 0 hp0).trans ta0
    have ua1 := (hc w.heap.size 1 hp0).trans ta1
    have ua2 := (hc w.heap.size 2 hp0).trans ta2
    have ua3 := (hc w.heap.size 3 hp0).trans ta3
    have ua4 := (hc w.heap.size 4 hp0).trans ta4
    have ua5 := (hc w.heap.size 5 hp0).trans ta5
    have ua6 := (hc w.heap.size 6 hp0).trans ta6
    have ua7 := (hc w.heap.size 7 hp0).trans ta7
    have ua8 := (hc w.heap.size 8 hp0).trans ta8
    have ua9 := (hc w.heap.size 9 hp0).trans ta9
    have ua10 := (hc w.heap.size 10 hp0).trans ta10
    have uv0 := (hc (w.heap.size + 1) 0 hp1).trans tv0
    have uv1 := (hc (w.heap.size + 1) 1 hp1).trans tv1
    have uv2 := (hc (w.heap.size + 1) 2 hp1).trans tv2
    have uv3 := (hc (w.heap.size + 1) 3 hp1).trans tv3
    have uv4 := (hc (w.heap.size + 1) 4 hp1).trans tv4
    have ur0 := (hc (w.heap.size + 1 + 1) 0 hp2).trans tr0
    have ur1 := (hc (w.heap.size + 1 + 1) 1 hp2).trans tr1
    have ur2 := (hc (w.heap.size + 1 + 1) 2 hp2).trans tr2
    have ur3 := (hc (w.heap.size + 1 + 1) 3 hp2).trans tr3
    have ur4 := (hc (w.heap.size + 1 + 1) 4 hp2).trans tr4
    have ur5 := (hc (w.heap.size + 1 + 1) 5 hp2).trans tr5
    have ur6 := (hc (w.heap.size + 1 + 1) 6 hp2).trans tr6
    have ur7 := (hc (w.heap.size + 1 + 1) 7 hp2).trans tr7
    have ur8 := (hc (w.heap.size + 1 + 1) 8 hp2).trans tr8
    have ur9 := (hc (w.heap.size + 1 + 1) 9 hp2).trans tr9
    have ur10 := (hc (w.heap.size + 1 + 1) 10 hp2).trans tr10
    have vr : ∀ o, w2.frozen? ⟨w.heap.size + 1 + 1, o, none⟩ = false := fun o => (hf _ _ hp2).trans (fr o)
    have GB2 := Lib.hid (GB.out.trans (Below.mono hb (by omega)))
    clear hc hf hz hb fr ta0 ta1 ta2 ta3 ta4 ta5 ta6 ta7 ta8 ta9 ta10 tr0 tr1 tr2 tr3 tr4 tr5 tr6 tr7 tr8 tr9 tr10 tv0 tv1 tv2 tv3 tv4
    go_wp2
    refine bodyPost_ret (v := .tuple #[.agg #[.int .i64 val, .int .i64 dh, .int .i64 dr, .int .i64 ds, .string di, .int .i64 mh, .int .i64 mr, .int .i64 ms, .string mi, .bool false, .slice A2 l.length c2], .int .i64 2]) (by simp [results, Try.results20, go_sem, ur0, ur1, ur2, ur3, ur4, ur5, ur6, ur7, ur8, ur9, ur10, hq2]) rfl ?_
    rw [E1.out, E2.out, E3.out]
    refine ⟨_, _, rfl, ?_, ?_⟩
    · refine ((HO.out.chg (lo' := w.heap.size) (hi' := w.heap.size + 1 + 1 + 1) ?_ (.inr (by first | with_reducible exact Nat.le_refl _ | (simp; done) | omega | (simp; omega)))).wide (by first | with_reducible exact Nat.le_refl _ | (simp; done) | omega | (simp; omega)) (by simp))
      (repeat (first | with_reducible refine Chg.setCell ?_ (by first | exact Nat.le_refl _ | (simp; done) | (simp; omega)) (by first | (simp; done) | (simp; omega)) _ | with_reducible refine Chg.alloc ?_ _ | with_reducible refine Chg.drew ?_)); (with_reducible exact Chg.refl _ _ _)
    · (repeat (first | with_reducible refine Below.setCell ?_ (by first | exact Nat.le_refl _ | (simp; done) | (simp; omega)) _ | with_reducible refine Below.alloc ?_ (by first | exact Nat.le_refl _ | (simp; done) | (simp; omega)) _ | with_reducible refine Below.drew ?_)); (with_reducible exact GB2.out)
  have h60b : ((l.length : Int) == 60) = false := by simp; omega
  by_cases hk0 : k = 0
  case pos =>
    subst hk0
    have HB := Lib.hid hB
    have E1 : Hid (askS ⟨val, dh, dr, ds, di, mh, mr, ms, mi, false⟩ l ⟨vh, vr', vs, vi, vv⟩ = ⟨val, dh, dr, ds, di, vh, vr', vs, vi, true⟩) := by show _ = _; simp [askS, hB, hvv, h60, hk, askReady]
    have E2 : Hid (askL ⟨val, dh, dr, ds, di, mh, mr, ms, mi, false⟩ l ⟨vh, vr', vs, vi, vv⟩ = l) := by show _ = _; simp [askL, hB, hvv, h60, hk, askReady]
    have E3 : Hid (askK ⟨val, dh, dr, ds, di, mh, mr, ms, mi, false⟩ l ⟨vh, vr', vs, vi, vv⟩ = 0) := by show _ = _; simp [askK, hB, hvv, h60, hk, askReady]
    have HKK := Lib.hid hk
    clear hB hk
    go_enter Try.func20, Try.ntmps20
    go_wp2_with fail
    refine (sSignerOk_any ⟨val, dh, dr, ds, di, mh, mr, ms, mi, false⟩ A l.length c l _ (by exact ((((HL.out).alloc (by first | with_reducible exact Nat.le_refl _ | (simp; done) | omega | (simp; omega)) _).alloc (by first | with_reducible exact Nat.le_refl _ | (simp; done) | omega | (simp; omega)) _).alloc (by first | with_reducible exact Nat.le_refl _ | (simp; done) | omega | (simp; omega)) _).more (by first | with_reducible exact Nat.le_refl _ | (simp; done) | omega | (simp; omega)))).mono ?_
    rw [HB.out]
    rintro e w1 ⟨rfl, hb⟩
    obtain ⟨hc, hf, hz⟩ := bcell hb
    have hz' : w.heap.size + 3 ≤ w1.heap.size := by simp at hz; omega
    have hq3 := cell_alloc3 w
    have hq4 := cell_alloc3b w
    have ta0 : w1.cell? ⟨w.heap.size, 0, none⟩ = some (.int .i64 val) := by rw [hc _ _ (by first | (simp; done) | (simp; omega)), hq3]; simp
    have ta1 : w1.cell? ⟨w.heap.size, 1, none⟩ = some (.int .i64 dh) := by rw [hc _ _ (by first | (simp; done) | (simp; omega)), hq3]; simp
    have ta2 : w1.cell? ⟨w.heap.size, 2, none⟩ = some (.int .i64 dr) := by rw [hc _ _ (by first | (simp; done) | (simp; omega)), hq3]; simp
    have ta3 : w1.cell? ⟨w.heap.size, 3, none⟩ = some (.int .i64 ds) := by rw [hc _ _ (by first | (simp; done) | (simp; omega)), hq3]; simp
    have ta4 : w1.cell? ⟨w.heap.size, 4, none⟩ = some (.string di) := by rw [hc _ _ (by first | (simp; done) | (simp; omega)), hq3]; simp
    have ta5 : w1.cell? ⟨w.heap.size, 5, none⟩ = some (.int .i64 mh) := by rw [hc _ _ (by first | (simp; done) | (simp; omega)), hq3]; simp
    have ta6 : w1.cell? ⟨w.heap.size, 6, none⟩ = some (.int .i64 mr) := by rw [hc _ _ (by first | (simp; done) | (simp; omega)), hq3]; simp
    have ta7 : w1.cell? ⟨w.heap.size, 7, none⟩ = some (.int .i64 ms) := by rw [hc _ _ (by first | (simp; done) | (simp; omega)), hq3]; simp
    have ta8 : w1.cell? ⟨w.heap.size, 8, none⟩ = some (.string mi) := by rw [hc _ _ (by first | (simp; done) | (simp; omega)), hq3]; simp
    have ta9 : w1.cell? ⟨w.heap.size, 9, none⟩ = some (.bool false) := by rw [hc _ _ (by first | (simp; done) | (simp; omega)), hq3]; simp
    have ta10 : w1.cell? ⟨w.heap.size, 10, none⟩ = some (.slice A l.length c) := by rw [hc _ _ (by first | (simp; done) | (simp; omega)), hq3]; simp
    have tv0 : w1.cell? ⟨w.heap.size + 1, 0, none⟩ = some (.int .i64 vh) := by rw [hc _ _ (by first | (simp; done) | (simp; omega)), hq4]; simp
    have tv1 : w1.cell? ⟨w.heap.size + 1, 1, none⟩ = some (.int .i64 vr') := by rw [hc _ _ (by first | (simp; done) | (simp; omega)), hq4]; simp
    have tv2 : w1.cell? ⟨w.heap.size + 1, 2, none⟩ = some (.int .i64 vs) := by rw [hc _ _ (by first | (simp; done) | (simp; omega)), hq4]; simp
    have tv3 : w1.cell? ⟨w.heap.size + 1, 3, none⟩ = some (.string vi) := by rw [hc _ _ (by first | (simp; done) | (simp; omega)), hq4]; simp
    have tv4 : w1.cell? ⟨w.heap.size + 1, 4, none⟩ = some (.int .i64 vv) := by rw [hc _ _ (by first | (simp; done) | (simp; omega)), hq4]; simp
    have tr0 : w1.cell? ⟨w.heap.size + 1 + 1, 0, none⟩ = some (.int .i64 0) := by rw [hc _ _ (by first | (simp; done) | (simp; omega))]; exact (blk_alloc3 w _ _ _ _).cell _
    have tr1 : w1.cell? ⟨w.heap.size + 1 + 1, 1, none⟩ = some (.int .i64 0) := by rw [hc _ _ (by first | (simp; done) | (simp; omega))]; exact (blk_alloc3 w _ _ _ _).cell _
    have tr2 : w1.cell? ⟨w.heap.size + 1 + 1, 2, none⟩ = some (.int .i64 0) := by rw [hc _ _ (by first | (simp; done) | (simp; omega))]; exact (blk_alloc3 w _ _ _ _).cell _
    have tr3 : w1.cell? ⟨w.heap.size + 1 + 1, 3, none⟩ = some (.int .i64 0) := by rw [hc _ _ (by first | (simp; done) | (simp; omega))]; exact (blk_alloc3 w _ _ _ _).cell _
    have tr4 : w1.cell? ⟨w.heap.size + 1 + 1, 4, none⟩ = some (.string ⟨#[]⟩) := by rw [hc _ _ (by first | (simp; done) | (simp; omega))]; exact (blk_alloc3 w _ _ _ _).cell _
    have tr5 : w1.cell? ⟨w.heap.size + 1 + 1, 5, none⟩ = some (.int .i64 0) := by rw [hc _ _ (by first | (simp; done) | (simp; omega))]; exact (blk_alloc3 w _ _ _ _).cell _
    have tr6 : w1.cell? ⟨w.heap.size + 1 + 1, 6, none⟩ = some (.int .i64 0) := by rw [hc _ _ (by first | (simp; done) | (simp; omega))]; exact (blk_alloc3 w _ _ _ _).cell _
    have tr7 : w1.cell? ⟨w.heap.size + 1 + 1, 7, none⟩ = some (.int .i64 0) := by rw [hc _ _ (by first | (simp; done) | (simp; omega))]; exact (blk_alloc3 w _ _ _ _).cell _
    have tr8 : w1.cell? ⟨w.heap.size + 1 + 1, 8, none⟩ = some (.string ⟨#[]⟩) := by rw [hc _ _ (by first | (simp; done) | (simp; omega))]; exact (blk_alloc3 w _ _ _ _).cell _
    have tr9 : w1.cell? ⟨w.heap.size + 1 + 1, 9, none⟩ = some (.bool false) := by rw [hc _ _ (by first | (simp; done) | (simp; omega))]; exact (blk_alloc3 w _ _ _ _).cell _
    have tr10 : w1.cell? ⟨w.heap.size + 1 + 1, 10, none⟩ = some (.slice none 0 0) := by rw [hc _ _ (by first | (simp; done) | (simp; omega))]; exact (blk_alloc3 w _ _ _ _).cell _
    have fr : ∀ o, w1.frozen? ⟨w.heap.size + 1 + 1, o, none⟩ = false := fun o => by rw [hf _ _ (by first | (simp; done) | (simp; omega))]; exact (blk_alloc3 w _ _ _ _).frozen _
    have GB := Lib.hid (Below.trans (show Below w.heap.size w _ by exact (by repeat (first | exact Below.refl _ _ | assumption | refine Below.drew ?_ | refine belN ?_ _ | refine Below.alloc ?_ (by first | exact Nat.le_refl _ | (simp; done) | (simp; omega) | omega) _ | refine Below.setCell ?_ (by first | exact Nat.le_refl _ | (simp; done) | (simp; omega) | omega) _ | refine Below.trans ?_ (Below.mono (by assumption) (by first | exact Nat.le_refl _ | (simp; done) | (simp; omega) | omega))))) (Below.mono hb (by first | with_reducible exact Nat.le_refl _ | (simp; done) | omega | (simp; omega))))
    clear hc hf hz hb hq3 hq4
    go_wp2_with fail
    refine (l14Copy_any ⟨val, dh, dr, ds, di, mh, mr, ms, mi, false⟩ A l.length c l _ (by exact (HL.out.below GB.out (Nat.le_refl _)).more GB.out.size) (by omega)).mono ?_
    rintro e w2 ⟨A2, n2, c2, rfl, ho, hb⟩
    obtain rfl : l.length = n2 := ho.1
    have HO := Lib.hid ho
    clear ho
    obtain ⟨hc, hf, hz⟩ := bcell hb
    have hw12 : w1.heap.size ≤ w2.heap.size := hz
    have hp0 : w.heap.size < w1.heap.size := by omega
    have hq0 : w.heap.size < w2.heap.size := by omega
    have hp1 : w.heap.size + 1 < w1.heap.size := by omega
    have hq1 : w.heap.size + 1 < w2.heap.size := by omega
    have hp2 : w.heap.size + 1 + 1 < w1.heap.size := by omega
    have hq2 : w.heap.size + 1 + 1 < w2.heap.size := by omega
    have ua0 := (hc w.heap.size 0 hp0).trans ta0
    have ua1 := (hc w.heap.size 1 hp0).trans ta1
    have ua2 := (hc w.heap.size 2 hp0).trans ta2
    have ua3 := (hc w.heap.size 3 hp0).trans ta3
    have ua4 := (hc w.heap.size 4 hp0).trans ta4
    have ua5 := (hc w.heap.size 5 hp0).trans ta5
    have ua6 := (hc w.heap.size 6 hp0).trans ta6
    have ua7 := (hc w.heap.size 7 hp0).trans ta7
    have ua8 := (hc w.heap.size 8 hp0).trans ta8
    have ua9 := (hc w.heap.size 9 hp0).trans ta9
    have ua10 := (hc w.heap.size 10 hp0).trans ta10
    have uv0 := (hc (w.heap.size + 1) 0 hp1).trans tv0
    have uv1 := (hc (w.heap.size + 1) 1 hp1).trans tv1
    have uv2 := (hc (w.heap.size + 1) 2 hp1).trans tv2
    have uv3 := (hc (w.heap.size + 1) 3 hp1).trans tv3
    have uv4 := (hc (w.heap.size + 1) 4 hp1).trans tv4
    have ur0 := (hc (w.heap.size + 1 + 1) 0 hp2).trans tr0
    have ur1 := (hc (w.heap.size + 1 + 1) 1 hp2).trans tr1
    have ur2 := (hc (w.heap.size + 1 + 1) 2 hp2).trans tr2
    have ur3 := (hc (w.heap.size + 1 + 1) 3 hp2).trans tr3
    have ur4 := (hc (w.heap.size + 1 + 1) 4 hp2).trans tr4
    have ur5 := (hc (w.heap.size + 1 + 1) 5 hp2).trans tr5
    have ur6 := (hc (w.heap.size + 1 + 1) 6 hp2).trans tr6
    have ur7 := (hc (w.heap.size + 1 + 1) 7 hp2).trans tr7
    have ur8 := (hc (w.heap.size + 1 + 1) 8 hp2).trans tr8
    have ur9 := (hc (w.heap.size + 1 + 1) 9 hp2).trans tr9
    have ur10 := (hc (w.heap.size + 1 + 1) 10 hp2).trans tr10
    have vr : ∀ o, w2.frozen? ⟨w.heap.size + 1 + 1, o, none⟩ = false := fun o => (hf _ _ hp2).trans (fr o)
    have GB2 := Lib.hid (GB.out.trans (Below.mono hb (by omega)))
    clear hc hf hz hb fr ta0 ta1 ta2 ta3 ta4 ta5 ta6 ta7 ta8 ta9 ta10 tr0 tr1 tr2 tr3 tr4 tr5 tr6 tr7 tr8 tr9 tr10 tv0 tv1 tv2 tv3 tv4
    go_wp2_with fail
    refine (sMaySign_any mh mr ms mi vh vr' vs vi vv _).mono ?_
    rw [HKK.out]
    rintro e w3 ⟨rfl, hb⟩
    have hs3 : w2.heap.size + 1 ≤ w3.heap.size := by have := hb.size; simp at this; omega
    have D3 := Lib.hid (((Chg.refl w1.heap.size w2.heap.size w2).alloc _).below_trans hb)
    have kr3_0 : w3.cell? ⟨w.heap.size + 1 + 1, 0, none⟩ = some (.int .i64 0) := (D3.out.cell hq2 (.inl hp2)).trans ur0
    have kr3_1 : w3.cell? ⟨w.heap.size + 1 + 1, 1, none⟩ = some (.int .i64 0) := (D3.out.cell hq2 (.inl hp2)).trans ur1
    have kr3_2 : w3.cell? ⟨w.heap.size + 1 + 1, 2, none⟩ = some (.int .i64 0) := (D3.out.cell hq2 (.inl hp2)).trans ur2
    have kr3_3 : w3.cell? ⟨w.heap.size + 1 + 1, 3, none⟩ = some (.int .i64 0) := (D3.out.cell hq2 (.inl hp2)).trans ur3
    have kr3_4 : w3.cell? ⟨w.heap.size + 1 + 1, 4, none⟩ = some (.string ⟨#[]⟩) := (D3.out.cell hq2 (.inl hp2)).trans ur4
    have kr3_5 : w3.cell? ⟨w.heap.size + 1 + 1, 5, none⟩ = some (.int .i64 0) := (D3.out.cell hq2 (.inl hp2)).trans ur5
    have kr3_6 : w3.cell? ⟨w.heap.size + 1 + 1, 6, none⟩ = some (.int .i64 0) := (D3.out.cell hq2 (.inl hp2)).trans ur6
    have kr3_7 : w3.cell? ⟨w.heap.size + 1 + 1, 7, none⟩ = some (.int .i64 0) := (D3.out.cell hq2 (.inl hp2)).trans ur7
    have kr3_8 : w3.cell? ⟨w.heap.size + 1 + 1, 8, none⟩ = some (.string ⟨#[]⟩) := (D3.out.cell hq2 (.inl hp2)).trans ur8
    have kr3_9 : w3.cell? ⟨w.heap.size + 1 + 1, 9, none⟩ = some (.bool false) := (D3.out.cell hq2 (.inl hp2)).trans ur9
    have kr3_10 : w3.cell? ⟨w.heap.size + 1 + 1, 10, none⟩ = some (.slice none 0 0) := (D3.out.cell hq2 (.inl hp2)).trans ur10
    have ko3_0 : w3.cell? ⟨w2.heap.size, 0, none⟩ = some (.int .i64 val) := (hb.cell (p := ⟨w2.heap.size, 0, none⟩) (by simp)).trans (by simp)
    have ko3_1 : w3.cell? ⟨w2.heap.size, 1, none⟩ = some (.int .i64 dh) := (hb.cell (p := ⟨w2.heap.size, 1, none⟩) (by simp)).trans (by simp)
    have ko3_2 : w3.cell? ⟨w2.heap.size, 2, none⟩ = some (.int .i64 dr) := (hb.cell (p := ⟨w2.heap.size, 2, none⟩) (by simp)).trans (by simp)
    have ko3_3 : w3.cell? ⟨w2.heap.size, 3, none⟩ = some (.int .i64 ds) := (hb.cell (p := ⟨w2.heap.size, 3, none⟩) (by simp)).trans (by simp)
    have ko3_4 : w3.cell? ⟨w2.heap.size, 4, none⟩ = some (.string di) := (hb.cell (p := ⟨w2.heap.size, 4, none⟩) (by simp)).trans (by simp)
    have ko3_5 : w3.cell? ⟨w2.heap.size, 5, none⟩ = some (.int .i64 mh) := (hb.cell (p := ⟨w2.heap.size, 5, none⟩) (by simp)).trans (by simp)
    have ko3_6 : w3.cell? ⟨w2.heap.size, 6, none⟩ = some (.int .i64 mr) := (hb.cell (p := ⟨w2.heap.size, 6, none⟩) (by simp)).trans (by simp)
    have ko3_7 : w3.cell? ⟨w2.heap.size, 7, none⟩ = some (.int .i64 ms) := (hb.cell (p := ⟨w2.heap.size, 7, none⟩) (by simp)).trans (by simp)
    have ko3_8 : w3.cell? ⟨w2.heap.size, 8, none⟩ = some (.string mi) := (hb.cell (p := ⟨w2.heap.size, 8, none⟩) (by simp)).trans (by simp)
    have ko3_9 : w3.cell? ⟨w2.heap.size, 9, none⟩ = some (.bool false) := (hb.cell (p := ⟨w2.heap.size, 9, none⟩) (by simp)).trans (by simp)
    have ko3_10 : w3.cell? ⟨w2.heap.size, 10, none⟩ = some (.slice A2 l.length c2) := (hb.cell (p := ⟨w2.heap.size, 10, none⟩) (by simp)).trans (by simp)
    have kv3_0 : w3.cell? ⟨w.heap.size + 1, 0, none⟩ = some (.int .i64 vh) := (D3.out.cell hq1 (.inl hp1)).trans uv0
    have kv3_1 : w3.cell? ⟨w.heap.size + 1, 1, none⟩ = some (.int .i64 vr') := (D3.out.cell hq1 (.inl hp1)).trans uv1
    have kv3_2 : w3.cell? ⟨w.heap.size + 1, 2, none⟩ = some (.int .i64 vs) := (D3.out.cell hq1 (.inl hp1)).trans uv2
    have kv3_3 : w3.cell? ⟨w.heap.size + 1, 3, none⟩ = some (.string vi) := (D3.out.cell hq1 (.inl hp1)).trans uv3
    have kv3_4 : w3.cell? ⟨w.heap.size + 1, 4, none⟩ = some (.int .i64 vv) := (D3.out.cell hq1 (.inl hp1)).trans uv4
    have fr3 : ∀ o, w3.frozen? ⟨w.heap.size + 1 + 1, o, none⟩ = false := fun o => (D3.out.frozen hq2 (.inl hp2)).trans (vr o)
    have fo3 : ∀ o, w3.frozen? ⟨w2.heap.size, o, none⟩ = false := fun o => (hb.frozen (p := ⟨w2.heap.size, o, none⟩) (by simp)).trans (by simp)
    have GB3 := Lib.hid (GB2.out.trans (D3.out.below (by omega) (by omega)))
    have HO3 := Lib.hid ((HO.out.below ((Below.refl _ _).alloc (Nat.le_refl _) _) (Nat.le_refl _)).below hb (by simp))
    have hne2 : w.heap.size + 1 + 1 ≠ w2.heap.size := by omega
    have hne2' : w2.heap.size ≠ w.heap.size + 1 + 1 := by omega
    have hz3 : w2.heap.size < w3.heap.size := by omega
    have hy3 : w.heap.size + 1 < w3.heap.size := by omega
    have hx3 : w.heap.size + 1 + 1 < w3.heap.size := by omega
    clear hb D3 vr ua0 ua1 ua2 ua3 ua4 ua5 ua6 ua7 ua8 ua9 ua10 ur0 ur1 ur2 ur3 ur4 ur5 ur6 ur7 ur8 ur9 ur10 uv0 uv1 uv2 uv3 uv4
    go_wp2_with fail
    refine (l14Of_any vh vr' vs vi vv _).mono ?_
    rintro e w4 ⟨rfl, hb⟩
    have hs4 : w3.heap.size ≤ w4.heap.size := hb.size
    have hz4 : w2.heap.size < w4.heap.size := by omega
    have kr4_0 := (hb.cell (p := ⟨w.heap.size + 1 + 1, 0, none⟩) (by show _ < w3.heap.size; omega)).trans kr3_0
    have kr4_1 := (hb.cell (p := ⟨w.heap.size + 1 + 1, 1, none⟩) (by show _ < w3.heap.size; omega)).trans kr3_1
    have kr4_2 := (hb.cell (p := ⟨w.heap.size + 1 + 1, 2, none⟩) (by show _ < w3.heap.size; omega)).trans kr3_2
    have kr4_3 := (hb.cell (p := ⟨w.heap.size + 1 + 1, 3, none⟩) (by show _ < w3.heap.size; omega)).trans kr3_3
    have kr4_4 := (hb.cell (p := ⟨w.heap.size + 1 + 1, 4, none⟩) (by show _ < w3.heap.size; omega)).trans kr3_4
    have kr4_5 := (hb.cell (p := ⟨w.heap.size + 1 + 1, 5, none⟩) (by show _ < w3.heap.size; omega)).trans kr3_5
    have kr4_6 := (hb.cell (p := ⟨w.heap.size + 1 + 1, 6, none⟩) (by show _ < w3.heap.size; omega)).trans kr3_6
    have kr4_7 := (hb.cell (p := ⟨w.heap.size + 1 + 1, 7, none⟩) (by show _ < w3.heap.size; omega)).trans kr3_7
    have kr4_8 := (hb.cell (p := ⟨w.heap.size + 1 + 1, 8, none⟩) (by show _ < w3.heap.size; omega)).trans kr3_8
    have kr4_9 := (hb.cell (p := ⟨w.heap.size + 1 + 1, 9, none⟩) (by show _ < w3.heap.size; omega)).trans kr3_9
    have kr4_10 := (hb.cell (p := ⟨w.heap.size + 1 + 1, 10, none⟩) (by show _ < w3.heap.size; omega)).trans kr3_10
    clear kr3_0 kr3_1 kr3_2 kr3_3 kr3_4 kr3_5 kr3_6 kr3_7 kr3_8 kr3_9 kr3_10
    have ko4_0 := (hb.cell (p := ⟨w2.heap.size, 0, none⟩) (by show _ < w3.heap.size; omega)).trans ko3_0
    have ko4_1 := (hb.cell (p := ⟨w2.heap.size, 1, none⟩) (by show _ < w3.heap.size; omega)).trans ko3_1
    have ko4_2 := (hb.cell (p := ⟨w2.heap.size, 2, none⟩) (by show _ < w3.heap.size; omega)).trans ko3_2
    have ko4_3 := (hb.cell (p := ⟨w2.heap.size, 3, none⟩) (by show _ < w3.heap.size; omega)).trans ko3_3
    have ko4_4 := (hb.cell (p := ⟨w2.heap.size, 4, none⟩) (by show _ < w3.heap.size; omega)).trans ko3_4
    have ko4_5 := (hb.cell (p := ⟨w2.heap.size, 5, none⟩) (by show _ < w3.heap.size; omega)).trans ko3_5
    have ko4_6 := (hb.cell (p := ⟨w2.heap.size, 6, none⟩) (by show _ < w3.heap.size; omega)).trans ko3_6
    have ko4_7 := (hb.cell (p := ⟨w2.heap.size, 7, none⟩) (by show _ < w3.heap.size; omega)).trans ko3_7
    have ko4_8 := (hb.cell (p := ⟨w2.heap.size, 8, none⟩) (by show _ < w3.heap.size; omega)).trans ko3_8
    have ko4_9 := (hb.cell (p := ⟨w2.heap.size, 9, none⟩) (by show _ < w3.heap.size; omega)).trans ko3_9
    have ko4_10 := (hb.cell (p := ⟨w2.heap.size, 10, none⟩) (by show _ < w3.heap.size; omega)).trans ko3_10
    clear ko3_0 ko3_1 ko3_2 ko3_3 ko3_4 ko3_5 ko3_6 ko3_7 ko3_8 ko3_9 ko3_10
    have fr4 : ∀ o, w4.frozen? ⟨w.heap.size + 1 + 1, o, none⟩ = false := fun o => (hb.frozen (p := ⟨w.heap.size + 1 + 1, o, none⟩) (by show _ < w3.heap.size; omega)).trans (fr3 o)
    have fo4 : ∀ o, w4.frozen? ⟨w2.heap.size, o, none⟩ = false := fun o => (hb.frozen (p := ⟨w2.heap.size, o, none⟩) (by show _ < w3.heap.size; omega)).trans (fo3 o)
    have GB4 := Lib.hid (GB3.out.trans (hb.mono (by omega)))
    have HO4 := Lib.hid (HO3.out.below hb (by omega))
    clear hb fr3 fo3
    go_upto_region 13 with fail
    obtain ⟨w5, hw⟩ : ∃ q, q = (((((w4.setCell ⟨w2.heap.size, 5, none⟩ (.int .i64 vh)).setCell ⟨w2.heap.size, 6, none⟩ (.int .i64 vr')).setCell ⟨w2.heap.size, 7, none⟩ (.int .i64 vs)).setCell ⟨w2.heap.size, 8, none⟩ (.string vi)).setCell ⟨w2.heap.size, 9, none⟩ (.bool true)) := ⟨_, rfl⟩
    have D := Lib.hid (show Chg w2.heap.size (w2.heap.size + 1) w4 w5 by rw [hw]; (repeat (first | with_reducible refine Chg.setCell ?_ (by first | exact Nat.le_refl _ | (simp; done) | (simp; omega)) (by first | (simp; done) | (simp; omega)) _ | with_reducible refine Chg.alloc ?_ _ | with_reducible refine Chg.drew ?_)); (with_reducible exact Chg.refl _ _ _))
    have ko5_0 : w5.cell? ⟨w2.heap.size, 0, none⟩ = some (.int .i64 val) := by rw [hw]; simp [go_sem, ko4_0]
    have ko5_1 : w5.cell? ⟨w2.heap.size, 1, none⟩ = some (.int .i64 dh) := by rw [hw]; simp [go_sem, ko4_1]
    have ko5_2 : w5.cell? ⟨w2.heap.size, 2, none⟩ = some (.int .i64 dr) := by rw [hw]; simp [go_sem, ko4_2]
    have ko5_3 : w5.cell? ⟨w2.heap.size, 3, none⟩ = some (.int .i64 ds) := by rw [hw]; simp [go_sem, ko4_3]
    have ko5_4 : w5.cell? ⟨w2.heap.size, 4, none⟩ = some (.string di) := by rw [hw]; simp [go_sem, ko4_4]
    have ko5_5 : w5.cell? ⟨w2.heap.size, 5, none⟩ = some (.int .i64 vh) := by rw [hw]; simp [go_sem, ko4_5]
    have ko5_6 : w5.cell? ⟨w2.heap.size, 6, none⟩ = some (.int .i64 vr') := by rw [hw]; simp [go_sem, ko4_6]
    have ko5_7 : w5.cell? ⟨w2.heap.size, 7, none⟩ = some (.int .i64 vs) := by rw [hw]; simp [go_sem, ko4_7]
    have ko5_8 : w5.cell? ⟨w2.heap.size, 8, none⟩ = some (.string vi) := by rw [hw]; simp [go_sem, ko4_8]
    have ko5_9 : w5.cell? ⟨w2.heap.size, 9, none⟩ = some (.bool true) := by rw [hw]; simp [go_sem, ko4_9]
    have ko5_10 : w5.cell? ⟨w2.heap.size, 10, none⟩ = some (.slice A2 l.length c2) := by rw [hw]; simp [go_sem, ko4_10]
    have hs5 : w4.heap.size ≤ w5.heap.size := D.out.size
    have hz5 : w2.heap.size < w5.heap.size := by omega
    have hRi : w.heap.size + 1 + 1 < w4.heap.size := by omega
    have kr5_0 := (D.out.cell hRi (by omega)).trans kr4_0
    have kr5_1 := (D.out.cell hRi (by omega)).trans kr4_1
    have kr5_2 := (D.out.cell hRi (by omega)).trans kr4_2
    have kr5_3 := (D.out.cell hRi (by omega)).trans kr4_3
    have kr5_4 := (D.out.cell hRi (by omega)).trans kr4_4
    have kr5_5 := (D.out.cell hRi (by omega)).trans kr4_5
    have kr5_6 := (D.out.cell hRi (by omega)).trans kr4_6
    have kr5_7 := (D.out.cell hRi (by omega)).trans kr4_7
    have kr5_8 := (D.out.cell hRi (by omega)).trans kr4_8
    have kr5_9 := (D.out.cell hRi (by omega)).trans kr4_9
    have kr5_10 := (D.out.cell hRi (by omega)).trans kr4_10
    have fr5 : ∀ o, w5.frozen? ⟨w.heap.size + 1 + 1, o, none⟩ = false := fun o => (D.out.frozen hRi (by omega)).trans (fr4 o)
    have GB5 := Lib.hid (GB4.out.trans (D.out.below (by omega) (by omega)))
    have HO5 := Lib.hid (HO4.out.chg D.out (.inl (Nat.le_refl _)))
    rw [← hw]
    clear hw D fr4 fo4 ko4_0 ko4_1 ko4_2 ko4_3 ko4_4 ko4_5 ko4_6 ko4_7 ko4_8 ko4_9 ko4_10 kr4_0 kr4_1 kr4_2 kr4_3 kr4_4 kr4_5 kr4_6 kr4_7 kr4_8 kr4_9 kr4_10
    go_wp2
    refine bodyPost_ret (v := .tuple #[.agg #[.int .i64 val, .int .i64 dh, .int .i64 dr, .int .i64 ds, .string di, .int .i64 vh, .int .i64 vr', .int .i64 vs, .string vi, .bool true, .slice A2 l.length c2], .int .i64 0]) (by simp [results, Try.results20, go_sem, kr5_0, kr5_1, kr5_2, kr5_3, kr5_4, kr5_5, kr5_6, kr5_7, kr5_8, kr5_9, kr5_10]) rfl ?_
    rw [E1.out, E2.out, E3.out]
    refine ⟨_, _, rfl, ?_, ?_⟩
    · refine OwnL.wide (lo := w1.heap.size) (hi := w2.heap.size) (OwnL.chg (lo' := w.heap.size + 1 + 1) (hi' := w.heap.size + 1 + 1 + 1) HO5.out ?_ (.inr (by omega))) (by omega) (by simp only [World.size_setCell]; omega)
      (repeat (first | with_reducible refine Chg.setCell ?_ (by first | exact Nat.le_refl _ | (simp; done) | (simp; omega)) (by first | (simp; done) | (simp; omega)) _ | with_reducible refine Chg.alloc ?_ _ | with_reducible refine Chg.drew ?_)); (with_reducible exact Chg.refl _ _ _)
    · (repeat (first | with_reducible refine Below.setCell ?_ (by first | exact Nat.le_refl _ | (simp; done) | (simp; omega)) _ | with_reducible refine Below.alloc ?_ (by first | exact Nat.le_refl _ | (simp; done) | (simp; omega)) _ | with_reducible refine Below.drew ?_)); (with_reducible exact GB5.out)
  by_cases hk1 : k = 1
  case pos =>
    subst hk1
    have HB := Lib.hid hB
    have E1 : Hid (askS ⟨val, dh, dr, ds, di, mh, mr, ms, mi, false⟩ l ⟨vh, vr', vs, vi, vv⟩ = ⟨val, dh, dr, ds, di, mh, mr, ms, mi, false⟩) := by show _ = _; simp [askS, hB, hvv, h60, hk, askReady]
    have E2 : Hid (askL ⟨val, dh, dr, ds, di, mh, mr, ms, mi, false⟩ l ⟨vh, vr', vs, vi, vv⟩ = l ++ [⟨vh, vr', vs, vi, vv⟩]) := by show _ = _; simp [askL, hB, hvv, h60, hk, askReady]
    have E3 : Hid (askK ⟨val, dh, dr, ds, di, mh, mr, ms, mi, false⟩ l ⟨vh, vr', vs, vi, vv⟩ = 1) := by show _ = _; simp [askK, hB, hvv, h60, hk, askReady]
    have HKK := Lib.hid hk
    clear hB hk
    go_enter Try.func20, Try.ntmps20
    go_wp2_with fail
    refine (sSignerOk_any ⟨val, dh, dr, ds, di, mh, mr, ms, mi, false⟩ A l.length c l _ (by exact ((((HL.out).alloc (by first | with_reducible exact Nat.le_refl _ | (simp; done) | omega | (simp; omega)) _).alloc (by first | with_reducible exact Nat.le_refl _ | (simp; done) | omega | (simp; omega)) _).alloc (by first | with_reducible exact Nat.le_refl _ | (simp; done) | omega | (simp; omega)) _).more (by first | with_reducible exact Nat.le_refl _ | (simp; done) | omega | (simp; omega)))).mono ?_
    rw [HB.out]
    rintro e w1 ⟨rfl, hb⟩
    obtain ⟨hc, hf, hz⟩ := bcell hb
    have hz' : w.heap.size + 3 ≤ w1.heap.size := by simp at hz; omega
    have hq3 := cell_alloc3 w
    have hq4 := cell_alloc3b w
    have ta0 : w1.cell? ⟨w.heap.size, 0, none⟩ = some (.int .i64 val) := by rw [hc _ _ (by first | (simp; done) | (simp; omega)), hq3]; simp
    have ta1 : w1.cell? ⟨w.heap.size, 1, none⟩ = some (.int .i64 dh) := by rw [hc _ _ (by first | (simp; done) | (simp; omega)), hq3]; simp
    have ta2 : w1.cell? ⟨w.heap.size, 2, none⟩ = some (.int .i64 dr) := by rw [hc _ _ (by first | (simp; done) | (simp; omega)), hq3]; simp
    have ta3 : w1.cell? ⟨w.heap.size, 3, none⟩ = some (.int .i64 ds) := by rw [hc _ _ (by first | (simp; done) | (simp; omega)), hq3]; simp
    have ta4 : w1.cell? ⟨w.heap.size, 4, none⟩ = some (.string di) := by rw [hc _ _ (by first | (simp; done) | (simp; omega)), hq3]; simp
    have ta5 : w1.cell? ⟨w.heap.size, 5, none⟩ = some (.int .i64 mh) := by rw [hc _ _ (by first | (simp; done) | (simp; omega)), hq3]; simp
    have ta6 : w1.cell? ⟨w.heap.size, 6, none⟩ = some (.int .i64 mr) := by rw [hc _ _ (by first | (simp; done) | (simp; omega)), hq3]; simp
    have ta7 : w1.cell? ⟨w.heap.size, 7, none⟩ = some (.int .i64 ms) := by rw [hc _ _ (by first | (simp; done) | (simp; omega)), hq3]; simp
    have ta8 : w1.cell? ⟨w.heap.size, 8, none⟩ = some (.string mi) := by rw [hc _ _ (by first | (simp; done) | (simp; omega)), hq3]; simp
    have ta9 : w1.cell? ⟨w.heap.size, 9, none⟩ = some (.bool false) := by rw [hc _ _ (by first | (simp; done) | (simp; omega)), hq3]; simp
    have ta10 : w1.cell? ⟨w.heap.size, 10, none⟩ = some (.slice A l.length c) := by rw [hc _ _ (by first | (simp; done) | (simp; omega)), hq3]; simp
    have tv0 : w1.cell? ⟨w.heap.size + 1, 0, none⟩ = some (.int .i64 vh) := by rw [hc _ _ (by first | (simp; done) | (simp; omega)), hq4]; simp
    have tv1 : w1.cell? ⟨w.heap.size + 1, 1, none⟩ = some (.int .i64 vr') := by rw [hc _ _ (by first | (simp; done) | (simp; omega)), hq4]; simp
    have tv2 : w1.cell? ⟨w.heap.size + 1, 2, none⟩ = some (.int .i64 vs) := by rw [hc _ _ (by first | (simp; done) | (simp; omega)), hq4]; simp
    have tv3 : w1.cell? ⟨w.heap.size + 1, 3, none⟩ = some (.string vi) := by rw [hc _ _ (by first | (simp; done) | (simp; omega)), hq4]; simp
    have tv4 : w1.cell? ⟨w.heap.size + 1, 4, none⟩ = some (.int .i64 vv) := by rw [hc _ _ (by first | (simp; done) | (simp; omega)), hq4]; simp
    have tr0 : w1.cell? ⟨w.heap.size + 1 + 1, 0, none⟩ = some (.int .i64 0) := by rw [hc _ _ (by first | (simp; done) | (simp; omega))]; exact (blk_alloc3 w _ _ _ _).cell _
    have tr1 : w1.cell? ⟨w.heap.size + 1 + 1, 1, none⟩ = some (.int .i64 0) := by rw [hc _ _ (by first | (simp; done) | (simp; omega))]; exact (blk_alloc3 w _ _ _ _).cell _
    have tr2 : w1.cell? ⟨w.heap.size + 1 + 1, 2, none⟩ = some (.int .i64 0) := by rw [hc _ _ (by first | (simp; done) | (simp; omega))]; exact (blk_alloc3 w _ _ _ _).cell _
    have tr3 : w1.cell? ⟨w.heap.size + 1 + 1, 3, none⟩ = some (.int .i64 0) := by rw [hc _ _ (by first | (simp; done) | (simp; omega))]; exact (blk_alloc3 w _ _ _ _).cell _
    have tr4 : w1.cell? ⟨w.heap.size + 1 + 1, 4, none⟩ = some (.string ⟨#[]⟩) := by rw [hc _ _ (by first | (simp; done) | (simp; omega))]; exact (blk_alloc3 w _ _ _ _).cell _
    have tr5 : w1.cell? ⟨w.heap.size + 1 + 1, 5, none⟩ = some (.int .i64 0) := by rw [hc _ _ (by first | (simp; done) | (simp; omega))]; exact (blk_alloc3 w _ _ _ _).cell _
    have tr6 : w1.cell? ⟨w.heap.size + 1 + 1, 6, none⟩ = some (.int .i64 0) := by rw [hc _ _ (by first | (simp; done) | (simp; omega))]; exact (blk_alloc3 w _ _ _ _).cell _
    have tr7 : w1.cell? ⟨w.heap.size + 1 + 1, 7, none⟩ = some (.int .i64 0) := by rw [hc _ _ (by first | (simp; done) | (simp; omega))]; exact (blk_alloc3 w _ _ _ _).cell _
    have tr8 : w1.cell? ⟨w.heap.size + 1 + 1, 8, none⟩ = some (.string ⟨#[]⟩) := by rw [hc _ _ (by first | (simp; done) | (simp; omega))]; exact (blk_alloc3 w _ _ _ _).cell _
    have tr9 : w1.cell? ⟨w.heap.size + 1 + 1, 9, none⟩ = some (.bool false) := by rw [hc _ _ (by first | (simp; done) | (simp; omega))]; exact (blk_alloc3 w _ _ _ _).cell _
    have tr10 : w1.cell? ⟨w.heap.size + 1 + 1, 10, none⟩ = some (.slice none 0 0) := by rw [hc _ _ (by first | (simp; done) | (simp; omega))]; exact (blk_alloc3 w _ _ _ _).cell _
    have fr : ∀ o, w1.frozen? ⟨w.heap.size + 1 + 1, o, none⟩ = false := fun o => by rw [hf _ _ (by first | (simp; done) | (simp; omega))]; exact (blk_alloc3 w _ _ _ _).frozen _
    have GB := Lib.hid (Below.trans (show Below w.heap.size w _ by exact (by repeat (first | exact Below.refl _ _ | assumption | refine Below.drew ?_ | refine belN ?_ _ | refine Below.alloc ?_ (by first | exact Nat.le_refl _ | (simp; done) | (simp; omega) | omega) _ | refine Below.setCell ?_ (by first | exact Nat.le_refl _ | (simp; done) | (simp; omega) | omega) _ | refine Below.trans ?_ (Below.mono (by assumption) (by first | exact Nat.le_refl _ | (simp; done) | (simp; omega) | omega))))) (Below.mono hb (by first | with_reducible exact Nat.le_refl _ | (simp; done) | omega | (simp; omega))))
    clear hc hf hz hb hq3 hq4
    go_wp2_with fail
    refine (l14Copy_any ⟨val, dh, dr, ds, di, mh, mr, ms, mi, false⟩ A l.length c l _ (by exact (HL.out.below GB.out (Nat.le_refl _)).more GB.out.size) (by omega)).mono ?_
    rintro e w2 ⟨A2, n2, c2, rfl, ho, hb⟩
    obtain rfl : l.length = n2 := ho.1
    have HO := Lib.hid ho
    clear ho
    obtain ⟨hc, hf, hz⟩ := bcell hb
    have hw12 : w1.heap.size ≤ w2.heap.size := hz
    have hp0 : w.heap.size < w1.heap.size := by omega
    have hq0 : w.heap.size < w2.heap.size := by omega
    have hp1 : w.heap.size + 1 < w1.heap.size := by omega
    have hq1 : w.heap.size + 1 < w2.heap.size := by omega
    have hp2 : w.heap.size + 1 + 1 < w1.heap.size := by omega
    have hq2 : w.heap.size + 1 + 1 < w2.heap.size := by omega
    have ua0 := (hc w.heap.size 0 hp0).trans ta0
    have ua1 := (hc w.heap.size 1 hp0).trans ta1
    have ua2 := (hc w.heap.size 2 hp0).trans ta2
    have ua3 := (hc w.heap.size 3 hp0).trans ta3
    have ua4 := (hc w.heap.size 4 hp0).trans ta4
    have ua5 := (hc w.heap.size 5 hp0).trans ta5
    have ua6 := (hc w.heap.size 6 hp0).trans ta6
    have ua7 := (hc w.heap.size 7 hp0).trans ta7
    have ua8 := (hc w.heap.size 8 hp0).trans ta8
    have ua9 := (hc w.heap.size 9 hp0).trans ta9
    have ua10 := (hc w.heap.size 10 hp0).trans ta10
    have uv0 := (hc (w.heap.size + 1) 0 hp1).trans tv0
    have uv1 := (hc (w.heap.size + 1) 1 hp1).trans tv1
    have uv2 := (hc (w.heap.size + 1) 2 hp1).trans tv2
    have uv3 := (hc (w.heap.size + 1) 3 hp1).trans tv3
    have uv4 := (hc (w.heap.size + 1) 4 hp1).trans tv4
    have ur0 := (hc (w.heap.size + 1 + 1) 0 hp2).trans tr0
    have ur1 := (hc (w.heap.size + 1 + 1) 1 hp2).trans tr1
    have ur2 := (hc (w.heap.size + 1 + 1) 2 hp2).trans tr2
    have ur3 := (hc (w.heap.size + 1 + 1) 3 hp2).trans tr3
    have ur4 := (hc (w.heap.size + 1 + 1) 4 hp2).trans tr4
    have ur5 := (hc (w.heap.size + 1 + 1) 5 hp2).trans tr5
    have ur6 := (hc (w.heap.size + 1 + 1) 6 hp2).trans tr6
    have ur7 := (hc (w.heap.size + 1 + 1) 7 hp2).trans tr7
    have ur8 := (hc (w.heap.size + 1 + 1) 8 hp2).trans tr8
    have ur9 := (hc (w.heap.size + 1 + 1) 9 hp2).trans tr9
    have ur10 := (hc (w.heap.size + 1 + 1) 10 hp2).trans tr10
    have vr : ∀ o, w2.frozen? ⟨w.heap.size + 1 + 1, o, none⟩ = false := fun o => (hf _ _ hp2).trans (fr o)
    have GB2 := Lib.hid (GB.out.trans (Below.mono hb (by omega)))
    clear hc hf hz hb fr ta0 ta1 ta2 ta3 ta4 ta5 ta6 ta7 ta8 ta9 ta10 tr0 tr1 tr2 tr3 tr4 tr5 tr6 tr7 tr8 tr9 tr10 tv0 tv1 tv2 tv3 tv4
    go_wp2_with fail
    refine (sMaySign_any mh mr ms mi vh vr' vs vi vv _).mono ?_
    rw [HKK.out]
    rintro e w3 ⟨rfl, hb⟩
    have hs3 : w2.heap.size + 1 ≤ w3.heap.size := by have := hb.size; simp at this; omega
    have D3 := Lib.hid (((Chg.refl w1.heap.size w2.heap.size w2).alloc _).below_trans hb)
    have kr3_0 : w3.cell? ⟨w.heap.size + 1 + 1, 0, none⟩ = some (.int .i64 0) := (D3.out.cell hq2 (.inl hp2)).trans ur0
    have kr3_1 : w3.cell? ⟨w.heap.size + 1 + 1, 1, none⟩ = some (.int .i64 0) := (D3.out.cell hq2 (.inl hp2)).trans ur1
    have kr3_2 : w3.cell? ⟨w.heap.size + 1 + 1, 2, none⟩ = some (.int .i64 0) := (D3.out.cell hq2 (.inl hp2)).trans ur2
    have kr3_3 : w3.cell? ⟨w.heap.size + 1 + 1, 3, none⟩ = some (.int .i64 0) := (D3.out.cell hq2 (.inl hp2)).trans ur3
    have kr3_4 : w3.cell? ⟨w.heap.size + 1 + 1, 4, none⟩ = some (.string ⟨#[]⟩) := (D3.out.cell hq2 (.inl hp2)).trans ur4
    have kr3_5 : w3.cell? ⟨w.heap.size + 1 + 1, 5, none⟩ = some (.int .i64 0) := (D3.out.cell hq2 (.inl hp2)).trans ur5
    have kr3_6 : w3.cell? ⟨w.heap.size + 1 + 1, 6, none⟩ = some (.int .i64 0) := (D3.out.cell hq2 (.inl hp2)).trans ur6
    have kr3_7 : w3.cell? ⟨w.heap.size + 1 + 1, 7, none⟩ = some (.int .i64 0) := (D3.out.cell hq2 (.inl hp2)).trans ur7
    have kr3_8 : w3.cell? ⟨w.heap.size + 1 + 1, 8, none⟩ = some (.string ⟨#[]⟩) := (D3.out.cell hq2 (.inl hp2)).trans ur8
    have kr3_9 : w3.cell? ⟨w.heap.size + 1 + 1, 9, none⟩ = some (.bool false) := (D3.out.cell hq2 (.inl hp2)).trans ur9
    have kr3_10 : w3.cell? ⟨w.heap.size + 1 + 1, 10, none⟩ = some (.slice none 0 0) := (D3.out.cell hq2 (.inl hp2)).trans ur10
    have ko3_0 : w3.cell? ⟨w2.heap.size, 0, none⟩ = some (.int .i64 val) := (hb.cell (p := ⟨w2.heap.size, 0, none⟩) (by simp)).trans (by simp)
    have ko3_1 : w3.cell? ⟨w2.heap.size, 1, none⟩ = some (.int .i64 dh) := (hb.cell (p := ⟨w2.heap.size, 1, none⟩) (by simp)).trans (by simp)
    have ko3_2 : w3.cell? ⟨w2.heap.size, 2, none⟩ = some (.int .i64 dr) := (hb.cell (p := ⟨w2.heap.size, 2, none⟩) (by simp)).trans (by simp)
    have ko3_3 : w3.cell? ⟨w2.heap.size, 3, none⟩ = some (.int .i64 ds) := (hb.cell (p := ⟨w2.heap.size, 3, none⟩) (by simp)).trans (by simp)
    have ko3_4 : w3.cell? ⟨w2.heap.size, 4, none⟩ = some (.string di) := (hb.cell (p := ⟨w2.heap.size, 4, none⟩) (by simp)).trans (by simp)
    have ko3_5 : w3.cell? ⟨w2.heap.size, 5, none⟩ = some (.int .i64 mh) := (hb.cell (p := ⟨w2.heap.size, 5, none⟩) (by simp)).trans (by simp)
    have ko3_6 : w3.cell? ⟨w2.heap.size, 6, none⟩ = some (.int .i64 mr) := (hb.cell (p := ⟨w2.heap.size, 6, none⟩) (by simp)).trans (by simp)
    have ko3_7 : w3.cell? ⟨w2.heap.size, 7, none⟩ = some (.int .i64 ms) := (hb.cell (p := ⟨w2.heap.size, 7, none⟩) (by simp)).trans (by simp)
    have ko3_8 : w3.cell? ⟨w2.heap.size, 8, none⟩ = some (.string mi) := (hb.cell (p := ⟨w2.heap.size, 8, none⟩) (by simp)).trans (by simp)
    have ko3_9 : w3.cell? ⟨w2.heap.size, 9, none⟩ = some (.bool false) := (hb.cell (p := ⟨w2.heap.size, 9, none⟩) (by simp)).trans (by simp)
    have ko3_10 : w3.cell? ⟨w2.heap.size, 10, none⟩ = some (.slice A2 l.length c2) := (hb.cell (p := ⟨w2.heap.size, 10, none⟩) (by simp)).trans (by simp)
    have kv3_0 : w3.cell? ⟨w.heap.size + 1, 0, none⟩ = some (.int .i64 vh) := (D3.out.cell hq1 (.inl hp1)).trans uv0
    have kv3_1 : w3.cell? ⟨w.heap.size + 1, 1, none⟩ = some (.int .i64 vr') := (D3.out.cell hq1 (.inl hp1)).trans uv1
    have kv3_2 : w3.cell? ⟨w.heap.size + 1, 2, none⟩ = some (.int .i64 vs) := (D3.out.cell hq1 (.inl hp1)).trans uv2
    have kv3_3 : w3.cell? ⟨w.heap.size + 1, 3, none⟩ = some (.string vi) := (D3.out.cell hq1 (.inl hp1)).trans uv3
    have kv3_4 : w3.cell? ⟨w.heap.size + 1, 4, none⟩ = some (.int .i64 vv) := (D3.out.cell hq1 (.inl hp1)).trans uv4
    have fr3 : ∀ o, w3.frozen? ⟨w.heap.size + 1 + 1, o, none⟩ = false := fun o => (D3.out.frozen hq2 (.inl hp2)).trans (vr o)
    have fo3 : ∀ o, w3.frozen? ⟨w2.heap.size, o, none⟩ = false := fun o => (hb.frozen (p := ⟨w2.heap.size, o, none⟩) (by simp)).trans (by simp)
    have GB3 := Lib.hid (GB2.out.trans (D3.out.below (by omega) (by omega)))
    have HO3 := Lib.hid ((HO.out.below ((Below.refl _ _).alloc (Nat.le_refl _) _) (Nat.le_refl _)).below hb (by simp))
    have hne2 : w.heap.size + 1 + 1 ≠ w2.heap.size := by omega
    have hne2' : w2.heap.size ≠ w.heap.size + 1 + 1 := by omega
    have hz3 : w2.heap.size < w3.heap.size := by omega
    have hy3 : w.heap.size + 1 < w3.heap.size := by omega
    have hx3 : w.heap.size + 1 + 1 < w3.heap.size := by omega
    clear hb D3 vr ua0 ua1 ua2 ua3 ua4 ua5 ua6 ua7 ua8 ua9 ua10 ur0 ur1 ur2 ur3 ur4 ur5 ur6 ur7 ur8 ur9 ur10 uv0 uv1 uv2 uv3 uv4
    obtain ⟨i0, hi, hz0, hz1, hz2⟩ := info_parts infoVote
    have hcap := HO.out.rd voteC_len |>.2.2.1
    go_wp2_with (at_builtin; go_must (refine wpList_app_rd _ rfl _ _ _ rfl w1.heap.size 44 i0 _ 5 48 Try.underlying30 hi hz0 hz1 hz2 rfl (by decide) (.slice A2 l.length c2) l.length (l.flatMap voteC) rfl (by exact ((HO3.out.owns voteC_len).alloc _)) _ _ 1 1 _ rfl (by exact (Rd.one _ #[.int .i64 vh, .int .i64 vr', .int .i64 vs, .string vi, .int .i64 vv] 44 5 rfl _ (by simp))) (by simp [Value.oneCell']) (by unfold maxLen; omega) (by omega) (by first | with_reducible exact Nat.le_refl _ | (simp; done) | omega | (simp; omega)) ?_))
    intro v5 w5 hown hg hat
    have hown : w5.ownsRow w1.heap.size 44 5 v5 (l.length + 1) ((l ++ ([⟨vh, vr', vs, vi, vv⟩] : List VoteD)).flatMap voteC) := by rw [List.flatMap_append]; exact hown
    obtain ⟨A3, c3, rfl, ho⟩ := OwnL.of_own (l := l ++ ([⟨vh, vr', vs, vi, vv⟩] : List VoteD)) (n := l.length + 1) (by simp) hown
    have HO5 := Lib.hid ho
    have C5 := Lib.hid (((Chg.refl w1.heap.size w2.heap.size w3).alloc _).trans (grown_chg (lo := w1.heap.size) (hi := w2.heap.size) hg (fun g e => HO.out.block g e)))
    have HNE : Hid (∀ g, Value.ownBlock (.slice A3 (l.length + 1) c3) = some g → g ≠ w2.heap.size ∧ g ≠ w.heap.size + 1 + 1) := by
      intro g e
      rcases hat with h | h
      · rw [h] at e; have := HO.out.block g e; omega
      · rw [h] at e; simp at e; omega
    clear hown ho hg hat
    have hs5 : w3.heap.size ≤ w5.heap.size := C5.out.size
    have hz5 : w2.heap.size < w5.heap.size := by omega
    have kr5_0 := (C5.out.cell hx3 (.inl hp2)).trans kr3_0
    have kr5_1 := (C5.out.cell hx3 (.inl hp2)).trans kr3_1
    have kr5_2 := (C5.out.cell hx3 (.inl hp2)).trans kr3_2
    have kr5_3 := (C5.out.cell hx3 (.inl hp2)).trans kr3_3
    have kr5_4 := (C5.out.cell hx3 (.inl hp2)).trans kr3_4
    have kr5_5 := (C5.out.cell hx3 (.inl hp2)).trans kr3_5
    have kr5_6 := (C5.out.cell hx3 (.inl hp2)).trans kr3_6
    have kr5_7 := (C5.out.cell hx3 (.inl hp2)).trans kr3_7
    have kr5_8 := (C5.out.cell hx3 (.inl hp2)).trans kr3_8
    have kr5_9 := (C5.out.cell hx3 (.inl hp2)).trans kr3_9
    have kr5_10 := (C5.out.cell hx3 (.inl hp2)).trans kr3_10
    have ko5_0 := (C5.out.cell hz3 (.inr (Nat.le_refl _))).trans ko3_0
    have ko5_1 := (C5.out.cell hz3 (.inr (Nat.le_refl _))).trans ko3_1
    have ko5_2 := (C5.out.cell hz3 (.inr (Nat.le_refl _))).trans ko3_2
    have ko5_3 := (C5.out.cell hz3 (.inr (Nat.le_refl _))).trans ko3_3
    have ko5_4 := (C5.out.cell hz3 (.inr (Nat.le_refl _))).trans ko3_4
    have ko5_5 := (C5.out.cell hz3 (.inr (Nat.le_refl _))).trans ko3_5
    have ko5_6 := (C5.out.cell hz3 (.inr (Nat.le_refl _))).trans ko3_6
    have ko5_7 := (C5.out.cell hz3 (.inr (Nat.le_refl _))).trans ko3_7
    have ko5_8 := (C5.out.cell hz3 (.inr (Nat.le_refl _))).trans ko3_8
    have ko5_9 := (C5.out.cell hz3 (.inr (Nat.le_refl _))).trans ko3_9
    have ko5_10 := (C5.out.cell hz3 (.inr (Nat.le_refl _))).trans ko3_10
    have fr5 : ∀ o, w5.frozen? ⟨w.heap.size + 1 + 1, o, none⟩ = false := fun o => (C5.out.frozen hx3 (.inl hp2)).trans (fr3 o)
    have fo5 : ∀ o, w5.frozen? ⟨w2.heap.size, o, none⟩ = false := fun o => (C5.out.frozen hz3 (.inr (Nat.le_refl _))).trans (fo3 o)
    have GB5 := Lib.hid (GB3.out.trans (C5.out.below (by omega) (by omega)))
    clear C5 fr3 fo3 kr3_0 kr3_1 kr3_2 kr3_3 kr3_4 kr3_5 kr3_6 kr3_7 kr3_8 kr3_9 kr3_10 ko3_0 ko3_1 ko3_2 ko3_3 ko3_4 ko3_5 ko3_6 ko3_7 ko3_8 ko3_9 ko3_10 kv3_0 kv3_1 kv3_2 kv3_3 kv3_4
    go_upto_region 13 with fail
    obtain ⟨w6, hw⟩ : ∃ q, q = w5.setCell ⟨w2.heap.size, 10, none⟩ (.slice A3 (l.length + 1) c3) := ⟨_, rfl⟩
    have D := Lib.hid (show Chg w2.heap.size (w2.heap.size + 1) w5 w6 by rw [hw]; (repeat (first | with_reducible refine Chg.setCell ?_ (by first | exact Nat.le_refl _ | (simp; done) | (simp; omega)) (by first | (simp; done) | (simp; omega)) _ | with_reducible refine Chg.alloc ?_ _ | with_reducible refine Chg.drew ?_)); (with_reducible exact Chg.refl _ _ _))
    have ko6_0 : w6.cell? ⟨w2.heap.size, 0, none⟩ = some (.int .i64 val) := by rw [hw]; simp [go_sem, ko5_0]
    have ko6_1 : w6.cell? ⟨w2.heap.size, 1, none⟩ = some (.int .i64 dh) := by rw [hw]; simp [go_sem, ko5_1]
    have ko6_2 : w6.cell? ⟨w2.heap.size, 2, none⟩ = some (.int .i64 dr) := by rw [hw]; simp [go_sem, ko5_2]
    have ko6_3 : w6.cell? ⟨w2.heap.size, 3, none⟩ = some (.int .i64 ds) := by rw [hw]; simp [go_sem, ko5_3]
    have ko6_4 : w6.cell? ⟨w2.heap.size, 4, none⟩ = some (.string di) := by rw [hw]; simp [go_sem, ko5_4]
    have ko6_5 : w6.cell? ⟨w2.heap.size, 5, none⟩ = some (.int .i64 mh) := by rw [hw]; simp [go_sem, ko5_5]
    have ko6_6 : w6.cell? ⟨w2.heap.size, 6, none⟩ = some (.int .i64 mr) := by rw [hw]; simp [go_sem, ko5_6]
    have ko6_7 : w6.cell? ⟨w2.heap.size, 7, none⟩ = some (.int .i64 ms) := by rw [hw]; simp [go_sem, ko5_7]
    have ko6_8 : w6.cell? ⟨w2.heap.size, 8, none⟩ = some (.string mi) := by rw [hw]; simp [go_sem, ko5_8]
    have ko6_9 : w6.cell? ⟨w2.heap.size, 9, none⟩ = some (.bool false) := by rw [hw]; simp [go_sem, ko5_9]
    have ko6_10 : w6.cell? ⟨w2.heap.size, 10, none⟩ = some (.slice A3 (l.length + 1) c3) := by rw [hw]; simp [go_sem, ko5_10]
    have hs6 : w5.heap.size ≤ w6.heap.size := D.out.size
    have hz6 : w2.heap.size < w6.heap.size := by omega
    have hRi : w.heap.size + 1 + 1 < w5.heap.size := by omega
    have kr6_0 := (D.out.cell hRi (by omega)).trans kr5_0
    have kr6_1 := (D.out.cell hRi (by omega)).trans kr5_1
    have kr6_2 := (D.out.cell hRi (by omega)).trans kr5_2
    have kr6_3 := (D.out.cell hRi (by omega)).trans kr5_3
    have kr6_4 := (D.out.cell hRi (by omega)).trans kr5_4
    have kr6_5 := (D.out.cell hRi (by omega)).trans kr5_5
    have kr6_6 := (D.out.cell hRi (by omega)).trans kr5_6
    have kr6_7 := (D.out.cell hRi (by omega)).trans kr5_7
    have kr6_8 := (D.out.cell hRi (by omega)).trans kr5_8
    have kr6_9 := (D.out.cell hRi (by omega)).trans kr5_9
    have kr6_10 := (D.out.cell hRi (by omega)).trans kr5_10
    have fr6 : ∀ o, w6.frozen? ⟨w.heap.size + 1 + 1, o, none⟩ = false := fun o => (D.out.frozen hRi (by omega)).trans (fr5 o)
    have GB6 := Lib.hid (GB5.out.trans (D.out.below (by omega) (by omega)))
    have HO6 : Hid (OwnL voteC 5 44 w6 w1.heap.size w5.heap.size A3 (l.length + 1) c3 (l ++ [⟨vh, vr', vs, vi, vv⟩])) := Lib.hid (HO5.out.keep fun g h1 h2 e => by rw [hw]; exact Below.heap_setCell _ _ _ g (HNE.out g e).1)
    have hlen : (l ++ ([⟨vh, vr', vs, vi, vv⟩] : List VoteD)).length = l.length + 1 := by simp
    have hR6 : w.heap.size + 1 + 1 < w6.heap.size := by omega
    rw [← hw]
    clear hw D fr5 fo5 ko5_0 ko5_1 ko5_2 ko5_3 ko5_4 ko5_5 ko5_6 ko5_7 ko5_8 ko5_9 ko5_10 kr5_0 kr5_1 kr5_2 kr5_3 kr5_4 kr5_5 kr5_6 kr5_7 kr5_8 kr5_9 kr5_10
    go_wp2
    refine bodyPost_ret (v := .tuple #[.agg #[.int .i64 val, .int .i64 dh, .int .i64 dr, .int .i64 ds, .string di, .int .i64 mh, .int .i64 mr, .int .i64 ms, .string mi, .bool false, .slice A3 (l.length + 1) c3], .int .i64 1]) (by simp [results, Try.results20, go_sem, kr6_0, kr6_1, kr6_2, kr6_3, kr6_4, kr6_5, kr6_6, kr6_7, kr6_8, kr6_9, kr6_10]) rfl ?_
    rw [E1.out, E2.out, E3.out]
    refine ⟨A3, c3, by rw [hlen], ?_, ?_⟩
    · rw [hlen]
      refine OwnL.wide (lo := w1.heap.size) (hi := w5.heap.size) (OwnL.keep HO6.out fun g h1 h2 e => ?_) ?_ ?_
      · have hgR := (HNE.out g e).2
        refine Chg.block (lo := w.heap.size + 1 + 1) (hi := w.heap.size + 1 + 1 + 1) (a := w6) ?_ g ?_ ?_
        · (repeat (first | with_reducible refine Chg.setCell ?_ (by first | exact Nat.le_refl _ | (simp; done) | (simp; omega)) (by first | (simp; done) | (simp; omega)) _ | with_reducible refine Chg.alloc ?_ _ | with_reducible refine Chg.drew ?_)); (with_reducible exact Chg.refl _ _ _)
        · omega
        · omega
      · omega
      · simp only [World.size_setCell]; exact hs6
    · (repeat (first | with_reducible refine Below.setCell ?_ (by first | exact Nat.le_refl _ | (simp; done) | (simp; omega)) _ | with_reducible refine Below.alloc ?_ (by first | exact Nat.le_refl _ | (simp; done) | (simp; omega)) _ | with_reducible refine Below.drew ?_)); (with_reducible exact GB6.out)
  · have HB := Lib.hid hB
    have E1 : Hid (askS ⟨val, dh, dr, ds, di, mh, mr, ms, mi, false⟩ l ⟨vh, vr', vs, vi, vv⟩ = ⟨val, dh, dr, ds, di, mh, mr, ms, mi, false⟩) := by show _ = _; simp [askS, hB, hvv, h60, hk, hk0, askReady]
    have E2 : Hid (askL ⟨val, dh, dr, ds, di, mh, mr, ms, mi, false⟩ l ⟨vh, vr', vs, vi, vv⟩ = l) := by show _ = _; simp [askL, hB, hvv, h60, hk, hk1, askReady]
    have E3 : Hid (askK ⟨val, dh, dr, ds, di, mh, mr, ms, mi, false⟩ l ⟨vh, vr', vs, vi, vv⟩ = k) := by show _ = _; simp [askK, hB, hvv, h60, hk, askReady]
    have HKK := Lib.hid hk
    clear hB hk
    go_enter Try.func20, Try.ntmps20
    go_wp2_with fail
    refine (sSignerOk_any ⟨val, dh, dr, ds, di, mh, mr, ms, mi, false⟩ A l.length c l _ (by exact ((((HL.out).alloc (by first | with_reducible exact Nat.le_refl _ | (simp; done) | omega | (simp; omega)) _).alloc (by first | with_reducible exact Nat.le_refl _ | (simp; done) | omega | (simp; omega)) _).alloc (by first | with_reducible exact Nat.le_refl _ | (simp; done) | omega | (simp; omega)) _).more (by first | with_reducible exact Nat.le_refl _ | (simp; done) | omega | (simp; omega)))).mono ?_
    rw [HB.out]
    rintro e w1 ⟨rfl, hb⟩
    obtain ⟨hc, hf, hz⟩ := bcell hb
    have hz' : w.heap.size + 3 ≤ w1.heap.size := by simp at hz; omega
    have hq3 := cell_alloc3 w
    have hq4 := cell_alloc3b w
    have ta0 : w1.cell? ⟨w.heap.size, 0, none⟩ = some (.int .i64 val) := by rw [hc _ _ (by first | (simp; done) | (simp; omega)), hq3]; simp
    have ta1 : w1.cell? ⟨w.heap.size, 1, none⟩ = some (.int .i64 dh) := by rw [hc _ _ (by first | (simp; done) | (simp; omega)), hq3]; simp
    have ta2 : w1.cell? ⟨w.heap.size, 2, none⟩ = some (.int .i64 dr) := by rw [hc _ _ (by first | (simp; done) | (simp; omega)), hq3]; simp
    have ta3 : w1.cell? ⟨w.heap.size, 3, none⟩ = some (.int .i64 ds) := by rw [hc _ _ (by first | (simp; done) | (simp; omega)), hq3]; simp
    have ta4 : w1.cell? ⟨w.heap.size, 4, none⟩ = some (.string di) := by rw [hc _ _ (by first | (simp; done) | (simp; omega)), hq3]; simp
    have ta5 : w1.cell? ⟨w.heap.size, 5, none⟩ = some (.int .i64 mh) := by rw [hc _ _ (by first | (simp; done) | (simp; omega)), hq3]; simp
    have ta6 : w1.cell? ⟨w.heap.size, 6, none⟩ = some (.int .i64 mr) := by rw [hc _ _ (by first | (simp; done) | (simp; omega)), hq3]; simp
    have ta7 : w1.cell? ⟨w.heap.size, 7, none⟩ = some (.int .i64 ms) := by rw [hc _ _ (by first | (simp; done) | (simp; omega)), hq3]; simp
    have ta8 : w1.cell? ⟨w.heap.size, 8, none⟩ = some (.string mi) := by rw [hc _ _ (by first | (simp; done) | (simp; omega)), hq3]; simp
    have ta9 : w1.cell? ⟨w.heap.size, 9, none⟩ = some (.bool false) := by rw [hc _ _ (by first | (simp; done) | (simp; omega)), hq3]; simp
    have ta10 : w1.cell? ⟨w.heap.size, 10, none⟩ = some (.slice A l.length c) := by rw [hc _ _ (by first | (simp; done) | (simp; omega)), hq3]; simp
    have tv0 : w1.cell? ⟨w.heap.size + 1, 0, none⟩ = some (.int .i64 vh) := by rw [hc _ _ (by first | (simp; done) | (simp; omega)), hq4]; simp
    have tv1 : w1.cell? ⟨w.heap.size + 1, 1, none⟩ = some (.int .i64 vr') := by rw [hc _ _ (by first | (simp; done) | (simp; omega)), hq4]; simp
    have tv2 : w1.cell? ⟨w.heap.size + 1, 2, none⟩ = some (.int .i64 vs) := by rw [hc _ _ (by first | (simp; done) | (simp; omega)), hq4]; simp
    have tv3 : w1.cell? ⟨w.heap.size + 1, 3, none⟩ = some (.string vi) := by rw [hc _ _ (by first | (simp; done) | (simp; omega)), hq4]; simp
    have tv4 : w1.cell? ⟨w.heap.size + 1, 4, none⟩ = some (.int .i64 vv) := by rw [hc _ _ (by first | (simp; done) | (simp; omega)), hq4]; simp
    have tr0 : w1.cell? ⟨w.heap.size + 1 + 1, 0, none⟩ = some (.int .i64 0) := by rw [hc _ _ (by first | (simp; done) | (simp; omega))]; exact (blk_alloc3 w _ _ _ _).cell _
    have tr1 : w1.cell? ⟨w.heap.size + 1 + 1, 1, none⟩ = some (.int .i64 0) := by rw [hc _ _ (by first | (simp; done) | (simp; omega))]; exact (blk_alloc3 w _ _ _ _).cell _
    have tr2 : w1.cell? ⟨w.heap.size + 1 + 1, 2, none⟩ = some (.int .i64 0) := by rw [hc _ _ (by first | (simp; done) | (simp; omega))]; exact (blk_alloc3 w _ _ _ _).cell _
    have tr3 : w1.cell? ⟨w.heap.size + 1 + 1, 3, none⟩ = some (.int .i64 0) := by rw [hc _ _ (by first | (simp; done) | (simp; omega))]; exact (blk_alloc3 w _ _ _ _).cell _
    have tr4 : w1.cell? ⟨w.heap.size + 1 + 1, 4, none⟩ = some (.string ⟨#[]⟩) := by rw [hc _ _ (by first | (simp; done) | (simp; omega))]; exact (blk_alloc3 w _ _ _ _).cell _
    have tr5 : w1.cell? ⟨w.heap.size + 1 + 1, 5, none⟩ = some (.int .i64 0) := by rw [hc _ _ (by first | (simp; done) | (simp; omega))]; exact (blk_alloc3 w _ _ _ _).cell _
    have tr6 : w1.cell? ⟨w.heap.size + 1 + 1, 6, none⟩ = some (.int .i64 0) := by rw [hc _ _ (by first | (simp; done) | (simp; omega))]; exact (blk_alloc3 w _ _ _ _).cell _
    have tr7 : w1.cell? ⟨w.heap.size + 1 + 1, 7, none⟩ = some (.int .i64 0) := by rw [hc _ _ (by first | (simp; done) | (simp; omega))]; exact (blk_alloc3 w _ _ _ _).cell _
    have tr8 : w1.cell? ⟨w.heap.size + 1 + 1, 8, none⟩ = some (.string ⟨#[]⟩) := by rw [hc _ _ (by first | (simp; done) | (simp; omega))]; exact (blk_alloc3 w _ _ _ _).cell _
    have tr9 : w1.cell? ⟨w.heap.size + 1 + 1, 9, none⟩ = some (.bool false) := by rw [hc _ _ (by first | (simp; done) | (simp; omega))]; exact (blk_alloc3 w _ _ _ _).cell _
    have tr10 : w1.cell? ⟨w.heap.size + 1 + 1, 10, none⟩ = some (.slice none 0 0) := by rw [hc _ _ (by first | (simp; done) | (simp; omega))]; exact (blk_alloc3 w _ _ _ _).cell _
    have fr : ∀ o, w1.frozen? ⟨w.heap.size + 1 + 1, o, none⟩ = false := fun o => by rw [hf _ _ (by first | (simp; done) | (simp; omega))]; exact (blk_alloc3 w _ _ _ _).frozen _
    have GB := Lib.hid (Below.trans (show Below w.heap.size w _ by exact (by repeat (first | exact Below.refl _ _ | assumption | refine Below.drew ?_ | refine belN ?_ _ | refine Below.alloc ?_ (by first | exact Nat.le_refl _ | (simp; done) | (simp; omega) | omega) _ | refine Below.setCell ?_ (by first | exact Nat.le_refl _ | (simp; done) | (simp; omega) | omega) _ | refine Below.trans ?_ (Below.mono (by assumption) (by first | exact Nat.le_refl _ | (simp; done) | (simp; omega) | omega))))) (Below.mono hb (by first | with_reducible exact Nat.le_refl _ | (simp; done) | omega | (simp; omega))))
    clear hc hf hz hb hq3 hq4
    go_wp2_with fail
    refine (l14Copy_any ⟨val, dh, dr, ds, di, mh, mr, ms, mi, false⟩ A l.length c l _ (by exact (HL.out.below GB.out (Nat.le_refl _)).more GB.out.size) (by omega)).mono ?_
    rintro e w2 ⟨A2, n2, c2, rfl, ho, hb⟩
    obtain rfl : l.length = n2 := ho.1
    have HO := Lib.hid ho
    clear ho
    obtain ⟨hc, hf, hz⟩ := bcell hb
    have hw12 : w1.heap.size ≤ w2.heap.size := hz
    have hp0 : w.heap.size < w1.heap.size := by omega
    have hq0 : w.heap.size < w2.heap.size := by omega
    have hp1 : w.heap.size + 1 < w1.heap.size := by omega
    have hq1 : w.heap.size + 1 < w2.heap.size := by omega
    have hp2 : w.heap.size + 1 + 1 < w1.heap.size := by omega
    have hq2 : w.heap.size + 1 + 1 < w2.heap.size := by omega
    have ua0 := (hc w.heap.size 0 hp0).trans ta0
    have ua1 := (hc w.heap.size 1 hp0).trans ta1
    have ua2 := (hc w.heap.size 2 hp0).trans ta2
    have ua3 := (hc w.heap.size 3 hp0).trans ta3
    have ua4 := (hc w.heap.size 4 hp0).trans ta4
    have ua5 := (hc w.heap.size 5 hp0).trans ta5
    have ua6 := (hc w.heap.size 6 hp0).trans ta6
    have ua7 := (hc w.heap.size 7 hp0).trans ta7
    have ua8 := (hc w.heap.size 8 hp0).trans ta8
    have ua9 := (hc w.heap.size 9 hp0).trans ta9
    have ua10 := (hc w.heap.size 10 hp0).trans ta10
    have uv0 := (hc (w.heap.size + 1) 0 hp1).trans tv0
    have uv1 := (hc (w.heap.size + 1) 1 hp1).trans tv1
    have uv2 := (hc (w.heap.size + 1) 2 hp1).trans tv2
    have uv3 := (hc (w.heap.size + 1) 3 hp1).trans tv3
    have uv4 := (hc (w.heap.size + 1) 4 hp1).trans tv4
    have ur0 := (hc (w.heap.size + 1 + 1) 0 hp2).trans tr0
    have ur1 := (hc (w.heap.size + 1 + 1) 1 hp2).trans tr1
    have ur2 := (hc (w.heap.size + 1 + 1) 2 hp2).trans tr2
    have ur3 := (hc (w.heap.size + 1 + 1) 3 hp2).trans tr3
    have ur4 := (hc (w.heap.size + 1 + 1) 4 hp2).trans tr4
    have ur5 := (hc (w.heap.size + 1 + 1) 5 hp2).trans tr5
    have ur6 := (hc (w.heap.size + 1 + 1) 6 hp2).trans tr6
    have ur7 := (hc (w.heap.size + 1 + 1) 7 hp2).trans tr7
    have ur8 := (hc (w.heap.size + 1 + 1) 8 hp2).trans tr8
    have ur9 := (hc (w.heap.size + 1 + 1) 9 hp2).trans tr9
    have ur10 := (hc (w.heap.size + 1 + 1) 10 hp2).trans tr10
    have vr : ∀ o, w2.frozen? ⟨w.heap.size + 1 + 1, o, none⟩ = false := fun o => (hf _ _ hp2).trans (fr o)
    have GB2 := Lib.hid (GB.out.trans (Below.mono hb (by omega)))
    clear hc hf hz hb fr ta0 ta1 ta2 ta3 ta4 ta5 ta6 ta7 ta8 ta9 ta10 tr0 tr1 tr2 tr3 tr4 tr5 tr6 tr7 tr8 tr9 tr10 tv0 tv1 tv2 tv3 tv4
    go_wp2_with fail
    refine (sMaySign_any mh mr ms mi vh vr' vs vi vv _).mono ?_
    rw [HKK.out]
    rintro e w3 ⟨rfl, hb⟩
    have hs3 : w2.heap.size + 1 ≤ w3.heap.size := by have := hb.size; simp at this; omega
    have D3 := Lib.hid (((Chg.refl w1.heap.size w2.heap.size w2).alloc _).below_trans hb)
    have kr3_0 : w3.cell? ⟨w.heap.size + 1 + 1, 0, none⟩ = some (.int .i64 0) := (D3.out.cell hq2 (.inl hp2)).trans ur0
    have kr3_1 : w3.cell? ⟨w.heap.size + 1 + 1, 1, none⟩ = some (.int .i64 0) := (D3.out.cell hq2 (.inl hp2)).trans ur1
    have kr3_2 : w3.cell? ⟨w.heap.size + 1 + 1, 2, none⟩ = some (.int .i64 0) := (D3.out.cell hq2 (.inl hp2)).trans ur2
    have kr3_3 : w3.cell? ⟨w.heap.size + 1 + 1, 3, none⟩ = some (.int .i64 0) := (D3.out.cell hq2 (.inl hp2)).trans ur3
    have kr3_4 : w3.cell? ⟨w.heap.size + 1 + 1, 4, none⟩ = some (.string ⟨#[]⟩) := (D3.out.cell hq2 (.inl hp2)).trans ur4
    have kr3_5 : w3.cell? ⟨w.heap.size + 1 + 1, 5, none⟩ = some (.int .i64 0) := (D3.out.cell hq2 (.inl hp2)).trans ur5
    have kr3_6 : w3.cell? ⟨w.heap.size + 1 + 1, 6, none⟩ = some (.int .i64 0) := (D3.out.cell hq2 (.inl hp2)).trans ur6
    have kr3_7 : w3.cell? ⟨w.heap.size + 1 + 1, 7, none⟩ = some (.int .i64 0) := (D3.out.cell hq2 (.inl hp2)).trans ur7
    have kr3_8 : w3.cell? ⟨w.heap.size + 1 + 1, 8, none⟩ = some (.string ⟨#[]⟩) := (D3.out.cell hq2 (.inl hp2)).trans ur8
    have kr3_9 : w3.cell? ⟨w.heap.size + 1 + 1, 9, none⟩ = some (.bool false) := (D3.out.cell hq2 (.inl hp2)).trans ur9
    have kr3_10 : w3.cell? ⟨w.heap.size + 1 + 1, 10, none⟩ = some (.slice none 0 0) := (D3.out.cell hq2 (.inl hp2)).trans ur10
    have ko3_0 : w3.cell? ⟨w2.heap.size, 0, none⟩ = some (.int .i64 val) := (hb.cell (p := ⟨w2.heap.size, 0, none⟩) (by simp)).trans (by simp)
    have ko3_1 : w3.cell? ⟨w2.heap.size, 1, none⟩ = some (.int .i64 dh) := (hb.cell (p := ⟨w2.heap.size, 1, none⟩) (by simp)).trans (by simp)
    have ko3_2 : w3.cell? ⟨w2.heap.size, 2, none⟩ = some (.int .i64 dr) := (hb.cell (p := ⟨w2.heap.size, 2, none⟩) (by simp)).trans (by simp)
    have ko3_3 : w3.cell? ⟨w2.heap.size, 3, none⟩ = some (.int .i64 ds) := (hb.cell (p := ⟨w2.heap.size, 3, none⟩) (by simp)).trans (by simp)
    have ko3_4 : w3.cell? ⟨w2.heap.size, 4, none⟩ = some (.string di) := (hb.cell (p := ⟨w2.heap.size, 4, none⟩) (by simp)).trans (by simp)
    have ko3_5 : w3.cell? ⟨w2.heap.size, 5, none⟩ = some (.int .i64 mh) := (hb.cell (p := ⟨w2.heap.size, 5, none⟩) (by simp)).trans (by simp)
    have ko3_6 : w3.cell? ⟨w2.heap.size, 6, none⟩ = some (.int .i64 mr) := (hb.cell (p := ⟨w2.heap.size, 6, none⟩) (by simp)).trans (by simp)
    have ko3_7 : w3.cell? ⟨w2.heap.size, 7, none⟩ = some (.int .i64 ms) := (hb.cell (p := ⟨w2.heap.size, 7, none⟩) (by simp)).trans (by simp)
    have ko3_8 : w3.cell? ⟨w2.heap.size, 8, none⟩ = some (.string mi) := (hb.cell (p := ⟨w2.heap.size, 8, none⟩) (by simp)).trans (by simp)
    have ko3_9 : w3.cell? ⟨w2.heap.size, 9, none⟩ = some (.bool false) := (hb.cell (p := ⟨w2.heap.size, 9, none⟩) (by simp)).trans (by simp)
    have ko3_10 : w3.cell? ⟨w2.heap.size, 10, none⟩ = some (.slice A2 l.length c2) := (hb.cell (p := ⟨w2.heap.size, 10, none⟩) (by simp)).trans (by simp)
    have kv3_0 : w3.cell? ⟨w.heap.size + 1, 0, none⟩ = some (.int .i64 vh) := (D3.out.cell hq1 (.inl hp1)).trans uv0
    have kv3_1 : w3.cell? ⟨w.heap.size + 1, 1, none⟩ = some (.int .i64 vr') := (D3.out.cell hq1 (.inl hp1)).trans uv1
    have kv3_2 : w3.cell? ⟨w.heap.size + 1, 2, none⟩ = some (.int .i64 vs) := (D3.out.cell hq1 (.inl hp1)).trans uv2
    have kv3_3 : w3.cell? ⟨w.heap.size + 1, 3, none⟩ = some (.string vi) := (D3.out.cell hq1 (.inl hp1)).trans uv3
    have kv3_4 : w3.cell? ⟨w.heap.size + 1, 4, none⟩ = some (.int .i64 vv) := (D3.out.cell hq1 (.inl hp1)).trans uv4
    have fr3 : ∀ o, w3.frozen? ⟨w.heap.size + 1 + 1, o, none⟩ = false := fun o => (D3.out.frozen hq2 (.inl hp2)).trans (vr o)
    have fo3 : ∀ o, w3.frozen? ⟨w2.heap.size, o, none⟩ = false := fun o => (hb.frozen (p := ⟨w2.heap.size, o, none⟩) (by simp)).trans (by simp)
    have GB3 := Lib.hid (GB2.out.trans (D3.out.below (by omega) (by omega)))
    have HO3 := Lib.hid ((HO.out.below ((Below.refl _ _).alloc (Nat.le_refl _) _) (Nat.le_refl _)).below hb (by simp))
    have hne2 : w.heap.size + 1 + 1 ≠ w2.heap.size := by omega
    have hne2' : w2.heap.size ≠ w.heap.size + 1 + 1 := by omega
    have hz3 : w2.heap.size < w3.heap.size := by omega
    have hy3 : w.heap.size + 1 < w3.heap.size := by omega
    have hx3 : w.heap.size + 1 + 1 < w3.heap.size := by omega
    clear hb D3 vr ua0 ua1 ua2 ua3 ua4 ua5 ua6 ua7 ua8 ua9 ua10 ur0 ur1 ur2 ur3 ur4 ur5 ur6 ur7 ur8 ur9 ur10 uv0 uv1 uv2 uv3 uv4
    go_wp2
    refine bodyPost_ret (v := .tuple #[.agg #[.int .i64 val, .int .i64 dh, .int .i64 dr, .int .i64 ds, .string di, .int .i64 mh, .int .i64 mr, .int .i64 ms, .string mi, .bool false, .slice A2 l.length c2], .int .i64 k]) (by simp [results, Try.results20, go_sem, kr3_0, kr3_1, kr3_2, kr3_3, kr3_4, kr3_5, kr3_6, kr3_7, kr3_8, kr3_9, kr3_10]) rfl ?_
    rw [E1.out, E2.out, E3.out]
    refine ⟨_, _, rfl, ?_, ?_⟩
    · refine OwnL.wide (lo := w1.heap.size) (hi := w2.heap.size) (OwnL.chg (lo' := w.heap.size + 1 + 1) (hi' := w.heap.size + 1 + 1 + 1) HO3.out ?_ (.inr (by omega))) (by omega) (by simp only [World.size_setCell]; omega)
      (repeat (first | with_reducible refine Chg.setCell ?_ (by first | exact Nat.le_refl _ | (simp; done) | (simp; omega)) (by first | (simp; done) | (simp; omega)) _ | with_reducible refine Chg.alloc ?_ _ | with_reducible refine Chg.drew ?_)); (with_reducible exact Chg.refl _ _ _)
    · (repeat (first | with_reducible refine Below.setCell ?_ (by first | exact Nat.le_refl _ | (simp; done) | (simp; omega)) _ | with_reducible refine Below.alloc ?_ (by first | exact Nat.le_refl _ | (simp; done) | (simp; omega)) _ | with_reducible refine Below.drew ?_)); (with_reducible exact GB3.out)
end Go.Proofs.Yteifmlmmfghjjaa
