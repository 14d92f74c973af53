/- The family of small functions on Signer. -/
import Derived.Test.YteifmlmmfghjjaaSignerOk
import Derived.Test.YteifmlmmfghjjaaMkVote
import Derived.WalkKit
import Derived.WalkSpells
import Derived.WalkLawsBesides
import Derived.Lib.Hide
namespace Go.Proofs.Yteifmlmmfghjjaa
open Go.RowKit

theorem szGuard_out (h r st : Int) (id : ByteArray) (left : Int) (w : World) (hl : 0 ≤ left) (hm : left ≤ 1048576) (hs : id.size ≤ maxLen) :
    Calls Try.prog 28 #[.agg #[.int .i64 h, .int .i64 r, .int .i64 st, .string id], .int .i64 left] w (SzOut 0 left w) := by
  refine (szGuard_any h r st id left w hl hm hs).mono ?_
  rintro e w' ⟨rfl, hb⟩
  exact ⟨_, rfl, by split <;> omega, by split <;> omega, by split <;> omega, hb⟩
set_option maxHeartbeats 1000000 in
theorem szSigner_any (s : SignS) (A : Option Addr) (n c : Nat) (left : Int) (l : List VoteD) (w : World) (hl : RdL voteC 5 w w.heap.size A n c l) (hs : ∀ x ∈ l, x.id.size ≤ maxLen) (hd : s.di.size ≤ maxLen) (hm : s.mi.size ≤ maxLen) (h0 : 0 ≤ left) (h1 : left ≤ 1048576) :
    Calls Try.prog 8 #[.agg #[.int .i64 s.val, .int .i64 s.dh, .int .i64 s.dr, .int .i64 s.ds, .string s.di, .int .i64 s.mh, .int .i64 s.mr, .int .i64 s.ms, .string s.mi, .bool s.pend, .slice A n c], .int .i64 left] w (SzOut n left w) := by
  have HL := Lib.hid hl
  have HS := Lib.hid hs
  clear hl hs
  go_enter Try.func8, Try.ntmps8
  go_wp2_with fail
  refine (szGuard_out _ _ _ _ _ _ h0 h1 hd).mono ?_
  rintro e w1 ⟨r1, rfl, _, hr1, hr2, hb⟩; obtain ⟨hc, hf, hz⟩ := bcell hb; have hy := nlt (by simp at hz; omega : w.heap.size + 1 ≤ w1.heap.size)
  have HB1 : Hid (Below w.heap.size w w1) := (by repeat (first | exact Below.refl _ _ | assumption | refine Below.drew ?_ | refine belN ?_ _ | refine Below.alloc ?_ (by first | exact Nat.le_refl _ | (simp; done) | (simp; omega) | omega) _ | refine Below.setCell ?_ (by first | exact Nat.le_refl _ | (simp; done) | (simp; omega) | omega) _ | refine Below.trans ?_ (Below.mono (by assumption) (by first | exact Nat.le_refl _ | (simp; done) | (simp; omega) | omega))))
  by_cases hn1 : r1 < 0
  · go_wp2_with fail
    go_ret
    exact ⟨-1, rfl, by omega, by omega, by omega, HB1.out⟩
  have hn1' : 0 ≤ r1 := by omega
  go_wp2_with fail
  refine (szGuard_out _ _ _ _ _ _ hn1' (by omega) hm).mono ?_
  rintro e w2 ⟨r2, rfl, _, hr3, hr4, hb2⟩; obtain ⟨hc2, hf2, hz2⟩ := bcell hb2; have hy2 := nlt (by omega : w.heap.size + 1 ≤ w2.heap.size)
  have HB : Hid (Below w.heap.size w w2) := HB1.out.trans (hb2.mono HB1.out.size)
  by_cases hn2 : r2 < 0
  · go_wp2_with fail
    go_ret
    exact ⟨-1, rfl, by omega, by omega, by omega, HB.out⟩
  have hn2' : 0 ≤ r2 := by omega
  go_wp2_with fail
  refine (szVoteS_any A n c r2 l _ ((HL.out.below HB.out (Nat.le_refl _)).more HB.out.size) HS.out hn2' (by omega)).mono ?_
  rintro e w3 ⟨x, rfl, hx1, hx2, hx3, hb3⟩
  by_cases hx : x < 0
  · go_wp2
    go_ret
    exact ⟨-1, rfl, by omega, by omega, by omega, HB.out.trans (hb3.mono HB.out.size)⟩
  · go_wp2
    go_ret
    exact ⟨x, rfl, by omega, by omega, by omega, HB.out.trans (hb3.mono HB.out.size)⟩

/-- A signer handed back: its votes in a slice of the call's own. -/
def SignOut (s : SignS) (l : List VoteD) (w : World) (e : Ending) (w' : World) : Prop :=
  ∃ A n c, e = .returned (.agg #[.int .i64 s.val, .int .i64 s.dh, .int .i64 s.dr, .int .i64 s.ds, .string s.di, .int .i64 s.mh, .int .i64 s.mr, .int .i64 s.ms, .string s.mi, .bool s.pend, .slice A n c]) ∧ OwnL voteC 5 44 w' w.heap.size w'.heap.size A n c l ∧ Below w.heap.size w w'

set_option maxHeartbeats 1000000 in
theorem toSigner_any (s : SignS) (A : Option Addr) (n c : Nat) (l : List VoteD) (w : World) (hl : RdL voteC 5 w w.heap.size A n c l) (hn : n ≤ 1048576) :
    Calls Try.prog 10 #[.agg #[.int .i64 s.val, .int .i64 s.dh, .int .i64 s.dr, .int .i64 s.ds, .string s.di, .int .i64 s.mh, .int .i64 s.mr, .int .i64 s.ms, .string s.mi, .bool s.pend, .slice A n c]] w (SignOut s l w) := by
  have HL := Lib.hid hl
  clear hl
  go_enter Try.func10, Try.ntmps10
  go_wp2_with fail
  refine (toGuard_any _ _ _ _ _).mono ?_
  rintro e w1 ⟨rfl, hb⟩; obtain ⟨hc, hf, hz⟩ := bcell hb
  have hy : w.heap.size + 3 ≤ w1.heap.size := by simp at hz; omega
  have hy0 : w.heap.size < w1.heap.size := by omega
  have hy1 : w.heap.size + 1 < w1.heap.size := by omega
  have hy2 : w.heap.size + 1 + 1 < w1.heap.size := by omega
  have HB1 : Hid (Below w.heap.size w w1) := (by repeat (first | exact Below.refl _ _ | assumption | refine Below.drew ?_ | refine belN ?_ _ | refine Below.alloc ?_ (by first | exact Nat.le_refl _ | (simp; done) | (simp; omega) | omega) _ | refine Below.setCell ?_ (by first | exact Nat.le_refl _ | (simp; done) | (simp; omega) | omega) _ | refine Below.trans ?_ (Below.mono (by assumption) (by first | exact Nat.le_refl _ | (simp; done) | (simp; omega) | omega))))
  go_wp2_with fail
  refine (toGuard_any _ _ _ _ _).mono ?_
  rintro e w2 ⟨rfl, hb2⟩; obtain ⟨hc2, hf2, hz2⟩ := bcell hb2
  have hx : w.heap.size + 3 ≤ w2.heap.size := by simp at hz2; omega
  have hx0 : w.heap.size < w2.heap.size := by omega
  have hx1 : w.heap.size + 1 < w2.heap.size := by omega
  have hx2 : w.heap.size + 1 + 1 < w2.heap.size := by omega
  have HB2 : Hid (Below w.heap.size w w2) := by
    refine Below.trans ?_ (Below.mono hb2 (by simp; omega))
    (repeat (first | with_reducible refine Below.setCell ?_ (by first | exact Nat.le_refl _ | (simp; done) | (simp; omega)) _ | with_reducible refine Below.alloc ?_ (by first | exact Nat.le_refl _ | (simp; done) | (simp; omega)) _ | with_reducible refine Below.drew ?_)); (with_reducible exact HB1.out)
  go_wp2_with fail
  refine (toVoteS_any A n c l _ (by refine (HL.out.below (B' := w.heap.size) ?_ (Nat.le_refl _)).more (by simp; omega); (repeat (first | with_reducible refine Below.setCell ?_ (by first | exact Nat.le_refl _ | (simp; done) | (simp; omega)) _ | with_reducible refine Below.alloc ?_ (by first | exact Nat.le_refl _ | (simp; done) | (simp; omega)) _ | with_reducible refine Below.drew ?_)); (with_reducible exact HB2.out)) hn).mono ?_
  intro e w3 h
  obtain ⟨A1, c1, rfl, hown, hr, hb3⟩ := h.get HL.out.1
  obtain ⟨hc3, hf3, hz3⟩ := bcell hb3
  have hw : w.heap.size + 3 ≤ w3.heap.size := by simp at hz3; omega
  have hw0 : w.heap.size < w3.heap.size := by omega
  have hw1 : w.heap.size + 1 < w3.heap.size := by omega
  have hw2 : w.heap.size + 1 + 1 < w3.heap.size := by omega
  have HB3 : Hid (Below w.heap.size w w3) := by
    refine Below.trans ?_ (Below.mono hb3 (by simp; omega))
    (repeat (first | with_reducible refine Below.setCell ?_ (by first | exact Nat.le_refl _ | (simp; done) | (simp; omega)) _ | with_reducible refine Below.alloc ?_ (by first | exact Nat.le_refl _ | (simp; done) | (simp; omega)) _ | with_reducible refine Below.drew ?_)); (with_reducible exact HB2.out)
  have HX : Hid (w2.heap.size ≤ w3.heap.size) := by show _ ≤ _; simp at hz3; exact hz3
  have HO := Lib.hid hown
  clear hown hr h
  go_wp2
  refine bodyPost_ret (v := .agg #[.int .i64 s.val, .int .i64 s.dh, .int .i64 s.dr, .int .i64 s.ds, .string s.di, .int .i64 s.mh, .int .i64 s.mr, .int .i64 s.ms, .string s.mi, .bool s.pend, .slice A1 n c1]) (by simp [results, Try.results10, go_sem, hc3, hc2, hc, hx1, hy1]) rfl ⟨A1, n, c1, rfl, ?_, ?_⟩
  · have h0 := HO.out
    simp only [World.size_setCell] at h0
    obtain ⟨A2, c2, he, ho⟩ := OwnL.of_own HL.out.1 h0
    simp only [Value.slice.injEq, true_and] at he
    obtain ⟨rfl, rfl⟩ := he
    refine ((ho.chg (lo' := w.heap.size) (hi' := w.heap.size + 3) ?_ (.inr (by omega))).wide (by omega) (by simp))
    (repeat (first | with_reducible refine Chg.setCell ?_ (by first | exact Nat.le_refl _ | (simp; done) | (simp; omega)) (by first | (simp; done) | (simp; omega)) _ | with_reducible refine Chg.alloc ?_ _ | with_reducible refine Chg.drew ?_)); (with_reducible exact Chg.refl _ _ _)
  · (repeat (first | with_reducible refine Below.setCell ?_ (by first | exact Nat.le_refl _ | (simp; done) | (simp; omega)) _ | with_reducible refine Below.alloc ?_ (by first | exact Nat.le_refl _ | (simp; done) | (simp; omega)) _ | with_reducible refine Below.drew ?_)); (with_reducible exact HB3.out)
theorem eqGuard_same (a b c : Int) (s : ByteArray) (w : World) :
    Calls Try.prog 38 #[.agg #[.int .i64 a, .int .i64 b, .int .i64 c, .string s], .agg #[.int .i64 a, .int .i64 b, .int .i64 c, .string s]] w fun e w' => e = .returned (.bool true) ∧ Below w.heap.size w w' := by
  go_enter Try.func38, Try.ntmps38
  go_wp2
  go_ret
  exact ⟨rfl, (by repeat (first | exact Below.refl _ _ | assumption | refine Below.drew ?_ | refine belN ?_ _ | refine Below.alloc ?_ (by first | exact Nat.le_refl _ | (simp; done) | (simp; omega) | omega) _ | refine Below.setCell ?_ (by first | exact Nat.le_refl _ | (simp; done) | (simp; omega) | omega) _ | refine Below.trans ?_ (Below.mono (by assumption) (by first | exact Nat.le_refl _ | (simp; done) | (simp; omega) | omega))))⟩
set_option maxHeartbeats 1000000 in
theorem eqSigner_same (s : SignS) (A : Option Addr) (n c : Nat) (A' : Option Addr) (c' : Nat) (l : List VoteD) (w : World) (hl : RdL voteC 5 w w.heap.size A n c l) (hl' : RdL voteC 5 w w.heap.size A' n c' l) :
    Calls Try.prog 12 #[.agg #[.int .i64 s.val, .int .i64 s.dh, .int .i64 s.dr, .int .i64 s.ds, .string s.di, .int .i64 s.mh, .int .i64 s.mr, .int .i64 s.ms, .string s.mi, .bool s.pend, .slice A n c], .agg #[.int .i64 s.val, .int .i64 s.dh, .int .i64 s.dr, .int .i64 s.ds, .string s.di, .int .i64 s.mh, .int .i64 s.mr, .int .i64 s.ms, .string s.mi, .bool s.pend, .slice A' n c']] w fun e w' => e = .returned (.bool true) ∧ Below w.heap.size w w' := by
  have HL := Lib.hid hl
  have HL' := Lib.hid hl'
  clear hl hl'
  go_enter Try.func12, Try.ntmps12
  go_wp2_with fail
  refine (eqGuard_same _ _ _ _ _).mono ?_
  rintro e w1 ⟨rfl, hb⟩; obtain ⟨hc, hf, hz⟩ := bcell hb
  have hy : w.heap.size + 2 ≤ w1.heap.size := by simp at hz; omega
  have hy0 : w.heap.size < w1.heap.size := by omega
  have hy1 : w.heap.size + 1 < w1.heap.size := by omega
  have HB1 : Hid (Below w.heap.size w w1) := (by repeat (first | exact Below.refl _ _ | assumption | refine Below.drew ?_ | refine belN ?_ _ | refine Below.alloc ?_ (by first | exact Nat.le_refl _ | (simp; done) | (simp; omega) | omega) _ | refine Below.setCell ?_ (by first | exact Nat.le_refl _ | (simp; done) | (simp; omega) | omega) _ | refine Below.trans ?_ (Below.mono (by assumption) (by first | exact Nat.le_refl _ | (simp; done) | (simp; omega) | omega))))
  go_wp2_with fail
  refine (eqGuard_same _ _ _ _ _).mono ?_
  rintro e w2 ⟨rfl, hb2⟩; obtain ⟨hc2, hf2, hz2⟩ := bcell hb2
  have hx0 : w.heap.size < w2.heap.size := by omega
  have hx1 : w.heap.size + 1 < w2.heap.size := by omega
  have HB : Hid (Below w.heap.size w w2) := HB1.out.trans (hb2.mono HB1.out.size)
  go_wp2_with fail
  refine (eqVoteS_same _ _ _ _ _ l _ ((HL.out.below HB.out (Nat.le_refl _)).more HB.out.size) ((HL'.out.below HB.out (Nat.le_refl _)).more HB.out.size)).mono ?_
  rintro e w3 ⟨rfl, hb3⟩
  go_wp2
  go_ret
  exact ⟨rfl, HB.out.trans (hb3.mono HB.out.size)⟩
theorem markSigner_any (s : SignS) (A : Option Addr) (n c : Nat) (l : List VoteD) (lo hi k : Nat) (w : World) (hl : OwnL voteC 5 44 w lo hi A n c l) (hw : hi ≤ w.heap.size) (hk0 : 0 < k) (hn : n ≤ 2097152) (hk : k ≤ 100000000) :
    Calls Try.prog 15 #[.agg #[.int .i64 s.val, .int .i64 s.dh, .int .i64 s.dr, .int .i64 s.ds, .string s.di, .int .i64 s.mh, .int .i64 s.mr, .int .i64 s.ms, .string s.mi, .bool s.pend, .slice A n c], .int .i64 k] w (MarkOut voteC 5 44 lo hi A n c (marksVote k n) ((k + n * 5 : Nat) : Int) w) := by
  have HL := Lib.hid hl
  clear hl
  go_enter Try.func15, Try.ntmps15
  go_wp2_with fail
  refine (markVoteS_any 44 A n c l lo hi k _ (HL.out.below ((Below.refl _ _).alloc (Nat.le_refl _) _) hw) hk0 hn hk).mono ?_
  rintro e w1 ⟨rfl, ho, hc⟩
  have HO := Lib.hid ho
  clear ho
  obtain ⟨q, hq⟩ : ∃ q, q = k + n * 5 := ⟨_, rfl⟩
  have hq1 : q ≤ 1000000000 := by omega
  rw [← hq]
  have HQ := Lib.hid hq
  clear hq
  go_wp2
  go_ret
  exact ⟨by rw [HQ.out]; rfl, HO.out, (Chg.of_below ((Below.refl _ _).alloc (Nat.le_refl _) _)).trans hc⟩
theorem heldSigner_any (s : SignS) (A : Option Addr) (n c : Nat) (k : Nat) (w : World) (hl : RdL voteC 5 w w.heap.size A n c (marksVote k n)) (hk0 : 0 < k) (hn : n ≤ 2097152) (hk : k ≤ 100000000) :
    Calls Try.prog 16 #[.agg #[.int .i64 s.val, .int .i64 s.dh, .int .i64 s.dr, .int .i64 s.ds, .string s.di, .int .i64 s.mh, .int .i64 s.mr, .int .i64 s.ms, .string s.mi, .bool s.pend, .slice A n c], .int .i64 k] w fun e w' => e = .returned (.int .i64 ((k + n * 5 : Nat) : Int)) ∧ Below w.heap.size w w' := by
  have HL := Lib.hid hl
  clear hl
  obtain ⟨q, hq⟩ : ∃ q, q = k + n * 5 := ⟨_, rfl⟩
  have hq1 : q ≤ 1000000000 := by omega
  have HQ := Lib.hid hq
  clear hq
  go_enter Try.func16, Try.ntmps16
  go_wp2_with fail
  refine (heldVoteS_any A n c k _ ((HL.out.alloc (Nat.le_refl _) _).more (by simp)) hk0 hn hk).mono ?_
  rw [← HQ.out]
  rintro e w1 ⟨rfl, hb⟩
  go_wp2
  go_ret
  exact ⟨by rw [HQ.out]; rfl, ((Below.refl _ _).alloc (Nat.le_refl _) _).trans (hb.mono (by simp))⟩
end Go.Proofs.Yteifmlmmfghjjaa
