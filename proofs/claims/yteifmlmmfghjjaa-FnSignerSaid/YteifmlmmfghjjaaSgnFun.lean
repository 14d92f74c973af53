/- copySigner, SignFall, SignSync, SignAsk: what they hand back, and the copies. -/
import Derived.Test.YteifmlmmfghjjaaSignFam
import Derived.Test.YteifmlmmfghjjaaSignerOk2
import Derived.Test.YteifmlmmfghjjaaApp
import Derived.WalkKit
import Derived.WalkSpells
import Derived.WalkLawsBesides
import Derived.Lib.Hide
namespace Go.Proofs.Yteifmlmmfghjjaa
open Go.RowKit

/-- A signer and one more value handed back: its votes in a slice of the call's own. -/
def SignerOutK (s : SignS) (l : List VoteD) (k : Value) (w : World) (e : Ending) (w' : World) : Prop :=
  ∃ A c, e = .returned (.tuple #[.agg #[.int .i64 s.val, .int .i64 s.dh, .int .i64 s.dr, .int .i64 s.ds, .string s.di, .int .i64 s.mh, .int .i64 s.mr, .int .i64 s.ms, .string s.mi, .bool s.pend, .slice A l.length c], k]) ∧ OwnL voteC 5 44 w' w.heap.size w'.heap.size A l.length c l ∧ Below w.heap.size w w'

theorem voteC_one (l : List VoteD) : ∀ u ∈ l.flatMap voteC, u.oneCell' = true := by
  intro u hu
  obtain ⟨x, _, hx⟩ := List.mem_flatMap.1 hu
  simp only [voteC, List.mem_cons, List.not_mem_nil, or_false] at hx
  rcases hx with rfl | rfl | rfl | rfl | rfl <;> rfl

set_option maxHeartbeats 1000000 in
theorem copySigner_any (s : SignS) (A : Option Addr) (n c : Nat) (l : List VoteD) (w : World) (hl : RdL voteC 5 w w.heap.size A n c l) (hn : n ≤ 1048576) :
    Calls Try.prog 41 #[.agg #[.int .i64 s.val, .int .i64 s.dh, .int .i64 s.dr, .int .i64 s.ds, .string s.di, .int .i64 s.mh, .int .i64 s.mr, .int .i64 s.ms, .string s.mi, .bool s.pend, .slice A n c]] w (SignOut s l w) := by
  obtain ⟨i0, hi, hz0, hz1, hz2⟩ := info_parts infoVote
  have HL := Lib.hid hl
  have hcap := hl.2.2.1
  clear hl
  go_enter Try.func41, Try.ntmps41
  go_wp2_with (at_builtin; refine wpList_app_rd _ rfl _ _ _ rfl (w.heap.size + 2) 44 i0 _ 5 48 Try.underlying30 hi hz0 hz1 hz2 rfl (by decide) (.slice none 0 0) 0 [] rfl ⟨by simp, .inl ⟨rfl, rfl⟩⟩ w.heap.size A n c (l.flatMap voteC) rfl (by exact ((HL.out.alloc (Nat.le_refl _) _).alloc (by simp) _).2) (voteC_one l) (by unfold maxLen; omega) (by omega) (by simp) ?_)
  intro v1 w1 hown hg hat
  clear hat
  (try simp only [Nat.zero_add, List.nil_append] at hown)
  obtain ⟨A1, c1, rfl, ho⟩ := OwnL.of_own HL.out.1 hown
  have HO := Lib.hid ho
  have HG := Lib.hid ((Below.refl _ _).grown hg (Nat.le_refl _) (fun k hk => by cases hk))
  clear hown hg ho
  obtain ⟨hc, hf, hz⟩ := bcell HG.out
  have hz' : w.heap.size + 2 ≤ w1.heap.size := by simpa using hz
  have ta0 : w1.cell? ⟨w.heap.size, 0, none⟩ = some (.int .i64 s.val) := by rw [hc _ _ (by simp; omega)]; simp
  have ta1 : w1.cell? ⟨w.heap.size, 1, none⟩ = some (.int .i64 s.dh) := by rw [hc _ _ (by simp; omega)]; simp
  have ta2 : w1.cell? ⟨w.heap.size, 2, none⟩ = some (.int .i64 s.dr) := by rw [hc _ _ (by simp; omega)]; simp
  have ta3 : w1.cell? ⟨w.heap.size, 3, none⟩ = some (.int .i64 s.ds) := by rw [hc _ _ (by simp; omega)]; simp
  have ta4 : w1.cell? ⟨w.heap.size, 4, none⟩ = some (.string s.di) := by rw [hc _ _ (by simp; omega)]; simp
  have ta5 : w1.cell? ⟨w.heap.size, 5, none⟩ = some (.int .i64 s.mh) := by rw [hc _ _ (by simp; omega)]; simp
  have ta6 : w1.cell? ⟨w.heap.size, 6, none⟩ = some (.int .i64 s.mr) := by rw [hc _ _ (by simp; omega)]; simp
  have ta7 : w1.cell? ⟨w.heap.size, 7, none⟩ = some (.int .i64 s.ms) := by rw [hc _ _ (by simp; omega)]; simp
  have ta8 : w1.cell? ⟨w.heap.size, 8, none⟩ = some (.string s.mi) := by rw [hc _ _ (by simp; omega)]; simp
  have ta9 : w1.cell? ⟨w.heap.size, 9, none⟩ = some (.bool s.pend) := by rw [hc _ _ (by simp; omega)]; simp
  have ta10 : w1.cell? ⟨w.heap.size, 10, none⟩ = some (.slice A n c) := by rw [hc _ _ (by simp; omega)]; simp
  have tr0 : w1.cell? ⟨w.heap.size + 1, 0, none⟩ = some (.int .i64 0) := by rw [hc _ _ (by simp)]; simp
  have tr1 : w1.cell? ⟨w.heap.size + 1, 1, none⟩ = some (.int .i64 0) := by rw [hc _ _ (by simp)]; simp
  have tr2 : w1.cell? ⟨w.heap.size + 1, 2, none⟩ = some (.int .i64 0) := by rw [hc _ _ (by simp)]; simp
  have tr3 : w1.cell? ⟨w.heap.size + 1, 3, none⟩ = some (.int .i64 0) := by rw [hc _ _ (by simp)]; simp
  have tr4 : w1.cell? ⟨w.heap.size + 1, 4, none⟩ = some (.string ⟨#[]⟩) := by rw [hc _ _ (by simp)]; simp
  have tr5 : w1.cell? ⟨w.heap.size + 1, 5, none⟩ = some (.int .i64 0) := by rw [hc _ _ (by simp)]; simp
  have tr6 : w1.cell? ⟨w.heap.size + 1, 6, none⟩ = some (.int .i64 0) := by rw [hc _ _ (by simp)]; simp
  have tr7 : w1.cell? ⟨w.heap.size + 1, 7, none⟩ = some (.int .i64 0) := by rw [hc _ _ (by simp)]; simp
  have tr8 : w1.cell? ⟨w.heap.size + 1, 8, none⟩ = some (.string ⟨#[]⟩) := by rw [hc _ _ (by simp)]; simp
  have tr9 : w1.cell? ⟨w.heap.size + 1, 9, none⟩ = some (.bool false) := by rw [hc _ _ (by simp)]; simp
  have tr10 : w1.cell? ⟨w.heap.size + 1, 10, none⟩ = some (.slice none 0 0) := by rw [hc _ _ (by simp)]; simp
  have fa : ∀ o, w1.frozen? ⟨w.heap.size, o, none⟩ = false := fun o => by rw [hf _ _ (by simp; omega)]; simp
  have fr : ∀ o, w1.frozen? ⟨w.heap.size + 1, o, none⟩ = false := fun o => by rw [hf _ _ (by simp)]; simp
  clear hc hf hz
  go_wp2
  refine bodyPost_ret (v := .agg #[.int .i64 s.val, .int .i64 s.dh, .int .i64 s.dr, .int .i64 s.ds, .string s.di, .int .i64 s.mh, .int .i64 s.mr, .int .i64 s.ms, .string s.mi, .bool s.pend, .slice A1 n c1]) (by simp [results, Try.results41, go_sem, tr0, tr1, tr2, tr3, tr4, tr5, tr6, tr7, tr8, tr9, tr10]) rfl ⟨A1, n, c1, rfl, ?_, ?_⟩
  · refine ((HO.out.chg (lo' := w.heap.size) (hi' := w.heap.size + 2) ?_ (.inr (by omega))).wide (by omega) (by simp))
    (repeat (first | with_reducible refine Chg.setCell ?_ (by first | exact Nat.le_refl _ | (simp; done) | (simp; omega)) (by first | (simp; done) | (simp; omega)) _ | with_reducible refine Chg.alloc ?_ _ | with_reducible refine Chg.drew ?_)); (with_reducible exact Chg.refl _ _ _)
  · have HB : Below w.heap.size w w1 := Below.trans (by exact (by repeat (first | exact Below.refl _ _ | assumption | refine Below.drew ?_ | refine belN ?_ _ | refine Below.alloc ?_ (by first | exact Nat.le_refl _ | (simp; done) | (simp; omega) | omega) _ | refine Below.setCell ?_ (by first | exact Nat.le_refl _ | (simp; done) | (simp; omega) | omega) _ | refine Below.trans ?_ (Below.mono (by assumption) (by first | exact Nat.le_refl _ | (simp; done) | (simp; omega) | omega))))) (Below.mono HG.out (by simp; omega))
    (repeat (first | with_reducible refine Below.setCell ?_ (by first | exact Nat.le_refl _ | (simp; done) | (simp; omega)) _ | with_reducible refine Below.alloc ?_ (by first | exact Nat.le_refl _ | (simp; done) | (simp; omega)) _ | with_reducible refine Below.drew ?_)); (with_reducible exact HB)

set_option maxHeartbeats 1000000 in
theorem l14Copy_any (s : SignS) (A : Option Addr) (n c : Nat) (l : List VoteD) (w : World) (hl : RdL voteC 5 w w.heap.size A n c l) (hn : n ≤ 1048576) :
    Calls Try.prog 40 #[.agg #[.int .i64 s.val, .int .i64 s.dh, .int .i64 s.dr, .int .i64 s.ds, .string s.di, .int .i64 s.mh, .int .i64 s.mr, .int .i64 s.ms, .string s.mi, .bool s.pend, .slice A n c]] w (SignOut s l w) := by
  obtain ⟨i0, hi, hz0, hz1, hz2⟩ := info_parts infoVote
  have HL := Lib.hid hl
  have hcap := hl.2.2.1
  clear hl
  have hq3 := cell_alloc3 w
  have hq4 := cell_alloc3b w
  go_enter Try.func40, Try.ntmps40
  go_wp2_with (at_builtin; refine wpList_app_rd _ rfl _ _ _ rfl (w.heap.size + 2) 44 i0 _ 5 48 Try.underlying30 hi hz0 hz1 hz2 rfl (by decide) (.slice (some ⟨w.heap.size + 2, 0, none⟩) 0 0) 0 [] rfl ?_ w.heap.size A n c (l.flatMap voteC) rfl (by exact (((HL.out.alloc (Nat.le_refl _) _).alloc (by simp) _).alloc (by simp; omega) _).2) (voteC_one l) (by unfold maxLen; omega) (by omega) (by first | (simp; done) | (simp; omega)) ?_)
  · have := World.ownsRow_lit ((w.alloc (Obj.cells #[.int .i64 s.val, .int .i64 s.dh, .int .i64 s.dr, .int .i64 s.ds, .string s.di, .int .i64 s.mh, .int .i64 s.mr, .int .i64 s.ms, .string s.mi, .bool s.pend, .slice A n c] 32)).alloc (Obj.cells #[.int .i64 0, .int .i64 0, .int .i64 0, .int .i64 0, .string ⟨#[]⟩, .int .i64 0, .int .i64 0, .int .i64 0, .string ⟨#[]⟩, .bool false, .slice none 0 0] 32)) (base := w.heap.size + 2) (e := 44) (size := 5) #[] 0 (by simp) (by decide) rfl
    simpa using this
  intro v1 w1 hown hg hat
  clear hat
  (try simp only [Nat.zero_add, List.nil_append] at hown)
  obtain ⟨A1, c1, rfl, ho⟩ := OwnL.of_own HL.out.1 hown
  have HO := Lib.hid ho
  have HG : Hid (Below (w.heap.size + 2) _ w1) := (Below.refl _ _).grown hg (by first | (simp; done) | (simp; omega)) (fun k hk => by simp [Value.ownBlock] at hk; omega)
  clear hown hg ho
  obtain ⟨hc, hf, hz⟩ := bcellR HG.out
  have hz' : w.heap.size + 2 ≤ w1.heap.size := by simp at hz; omega
  have ta0 : w1.cell? ⟨w.heap.size, 0, none⟩ = some (.int .i64 s.val) := by rw [hc _ _ (by omega), hq3]; simp
  have ta1 : w1.cell? ⟨w.heap.size, 1, none⟩ = some (.int .i64 s.dh) := by rw [hc _ _ (by omega), hq3]; simp
  have ta2 : w1.cell? ⟨w.heap.size, 2, none⟩ = some (.int .i64 s.dr) := by rw [hc _ _ (by omega), hq3]; simp
  have ta3 : w1.cell? ⟨w.heap.size, 3, none⟩ = some (.int .i64 s.ds) := by rw [hc _ _ (by omega), hq3]; simp
  have ta4 : w1.cell? ⟨w.heap.size, 4, none⟩ = some (.string s.di) := by rw [hc _ _ (by omega), hq3]; simp
  have ta5 : w1.cell? ⟨w.heap.size, 5, none⟩ = some (.int .i64 s.mh) := by rw [hc _ _ (by omega), hq3]; simp
  have ta6 : w1.cell? ⟨w.heap.size, 6, none⟩ = some (.int .i64 s.mr) := by rw [hc _ _ (by omega), hq3]; simp
  have ta7 : w1.cell? ⟨w.heap.size, 7, none⟩ = some (.int .i64 s.ms) := by rw [hc _ _ (by omega), hq3]; simp
  have ta8 : w1.cell? ⟨w.heap.size, 8, none⟩ = some (.string s.mi) := by rw [hc _ _ (by omega), hq3]; simp
  have ta9 : w1.cell? ⟨w.heap.size, 9, none⟩ = some (.bool s.pend) := by rw [hc _ _ (by omega), hq3]; simp
  have ta10 : w1.cell? ⟨w.heap.size, 10, none⟩ = some (.slice A n c) := by rw [hc _ _ (by omega), hq3]; simp
  have tr0 : w1.cell? ⟨w.heap.size + 1, 0, none⟩ = some (.int .i64 0) := by rw [hc _ _ (by omega), hq4]; simp
  have tr1 : w1.cell? ⟨w.heap.size + 1, 1, none⟩ = some (.int .i64 0) := by rw [hc _ _ (by omega), hq4]; simp
  have tr2 : w1.cell? ⟨w.heap.size + 1, 2, none⟩ = some (.int .i64 0) := by rw [hc _ _ (by omega), hq4]; simp
  have tr3 : w1.cell? ⟨w.heap.size + 1, 3, none⟩ = some (.int .i64 0) := by rw [hc _ _ (by omega), hq4]; simp
  have tr4 : w1.cell? ⟨w.heap.size + 1, 4, none⟩ = some (.string ⟨#[]⟩) := by rw [hc _ _ (by omega), hq4]; simp
  have tr5 : w1.cell? ⟨w.heap.size + 1, 5, none⟩ = some (.int .i64 0) := by rw [hc _ _ (by omega), hq4]; simp
  have tr6 : w1.cell? ⟨w.heap.size + 1, 6, none⟩ = some (.int .i64 0) := by rw [hc _ _ (by omega), hq4]; simp
  have tr7 : w1.cell? ⟨w.heap.size + 1, 7, none⟩ = some (.int .i64 0) := by rw [hc _ _ (by omega), hq4]; simp
  have tr8 : w1.cell? ⟨w.heap.size + 1, 8, none⟩ = some (.string ⟨#[]⟩) := by rw [hc _ _ (by omega), hq4]; simp
  have tr9 : w1.cell? ⟨w.heap.size + 1, 9, none⟩ = some (.bool false) := by rw [hc _ _ (by omega), hq4]; simp
  have tr10 : w1.cell? ⟨w.heap.size + 1, 10, none⟩ = some (.slice none 0 0) := by rw [hc _ _ (by omega), hq4]; simp
  have fa : ∀ o, w1.frozen? ⟨w.heap.size, o, none⟩ = false := fun o => by rw [hf _ _ (by omega), frozen_alloc3]; simp
  have fr : ∀ o, w1.frozen? ⟨w.heap.size + 1, o, none⟩ = false := fun o => by rw [hf _ _ (by omega), frozen_alloc3b]; simp
  clear hc hf hz hq3 hq4
  go_wp2
  refine bodyPost_ret (v := .agg #[.int .i64 s.val, .int .i64 s.dh, .int .i64 s.dr, .int .i64 s.ds, .string s.di, .int .i64 s.mh, .int .i64 s.mr, .int .i64 s.ms, .string s.mi, .bool s.pend, .slice A1 n c1]) (by simp [results, Try.results40, go_sem, tr0, tr1, tr2, tr3, tr4, tr5, tr6, tr7, tr8, tr9, tr10]) rfl ⟨A1, n, c1, rfl, ?_, ?_⟩
  · refine ((HO.out.chg (lo' := w.heap.size) (hi' := w.heap.size + 2) ?_ (.inr (by omega))).wide (by omega) (by simp))
    (repeat (first | with_reducible refine Chg.setCell ?_ (by first | exact Nat.le_refl _ | (simp; done) | (simp; omega)) (by first | (simp; done) | (simp; omega)) _ | with_reducible refine Chg.alloc ?_ _ | with_reducible refine Chg.drew ?_)); (with_reducible exact Chg.refl _ _ _)
  · have HB : Below w.heap.size w w1 := Below.trans (by exact (by repeat (first | exact Below.refl _ _ | assumption | refine Below.drew ?_ | refine belN ?_ _ | refine Below.alloc ?_ (by first | exact Nat.le_refl _ | (simp; done) | (simp; omega) | omega) _ | refine Below.setCell ?_ (by first | exact Nat.le_refl _ | (simp; done) | (simp; omega) | omega) _ | refine Below.trans ?_ (Below.mono (by assumption) (by first | exact Nat.le_refl _ | (simp; done) | (simp; omega) | omega))))) (Below.mono HG.out (by omega))
    (repeat (first | with_reducible refine Below.setCell ?_ (by first | exact Nat.le_refl _ | (simp; done) | (simp; omega)) _ | with_reducible refine Below.alloc ?_ (by first | exact Nat.le_refl _ | (simp; done) | (simp; omega)) _ | with_reducible refine Below.drew ?_)); (with_reducible exact HB)
end Go.Proofs.Yteifmlmmfghjjaa
