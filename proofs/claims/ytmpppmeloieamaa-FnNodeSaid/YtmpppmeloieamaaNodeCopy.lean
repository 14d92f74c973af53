/- copyNode of the program, l16Copy of the reference. -/
import Derived.Test.YtmpppmeloieamaaNodeMem
import Derived.Deep.DeepMust
import Derived.WalkKit
import Derived.WalkSpells
import Derived.WalkLawsBesides
import Derived.Lib.Hide
namespace Go.Proofs.Ytmpppmeloieamaa
open Go.RowKit

theorem infoMsgC : (Try.prog.info? 40).map (fun i => (i.zero, i.size, i.bytes)) = some (some (.agg #[.int .i64 0, .int .i64 0, .int .i64 0, .int .i64 0, .int .i64 0]), 5, 40) := by kernel_rfl
theorem msgs_one (l : List NMsgD) : ∀ u ∈ l.flatMap msgC, u.oneCell' = true := by
  intro u hu
  obtain ⟨m, _, hm⟩ := List.mem_flatMap.1 hu
  simp only [msgC, List.mem_cons, List.not_mem_nil, or_false] at hm
  rcases hm with rfl | rfl | rfl | rfl | rfl <;> rfl
/-- a node handed back with messages of its own -/
def NodeOwn (s : NodeS) (l : List NMsgD) (w : World) (e : Ending) (w' : World) : Prop :=
  ∃ A c, e = .returned (.agg #[.int .i64 s.me, .int .i64 s.round, .int .i64 s.step, .int .i64 s.lv, .int .i64 s.lr, .int .i64 s.vv, .int .i64 s.vr, .int .i64 s.polka, .int .i64 s.dec, .slice A l.length c]) ∧ OwnL msgC 5 40 w' w.heap.size w'.heap.size A l.length c l ∧ Below w.heap.size w w'

set_option maxRecDepth 100000 in
set_option maxHeartbeats 2000000 in
theorem copyNode_any (s : NodeS) (A : Option Addr) (c : Nat) (l : List NMsgD) (w : World) (hl : RdL msgC 5 w w.heap.size A l.length c l) (hn : l.length ≤ 1048576) :
    Calls Try.prog 36 #[.agg #[.int .i64 s.me, .int .i64 s.round, .int .i64 s.step, .int .i64 s.lv, .int .i64 s.lr, .int .i64 s.vv, .int .i64 s.vr, .int .i64 s.polka, .int .i64 s.dec, .slice A l.length c]] w (NodeOwn s l w) := by
  obtain ⟨i0, hi, hz0, hz1, hz2⟩ := info_parts infoMsgC
  have HL := Lib.hid hl
  have hcap := hl.2.2.2.1
  clear hl
  go_enter Try.func36, Try.ntmps36
  go_wp2_with (at_builtin; refine wpList_app_rd _ rfl _ _ _ rfl (w.heap.size + 2) 40 i0 _ 5 40 Try.underlying26 hi hz0 hz1 hz2 rfl (by decide) (.slice none 0 0) 0 [] rfl ⟨by simp, .inl ⟨rfl, rfl⟩⟩ w.heap.size A l.length c (l.flatMap msgC) rfl (by exact ((HL.out.alloc (Nat.le_refl _) _).alloc (by simp) _).2) (msgs_one l) (by unfold maxLen; omega) (by omega) (by simp) ?_)
  intro v1 w1 hown hg hat
  clear hat
  (try simp only [Nat.zero_add, List.nil_append] at hown)
  obtain ⟨A1, c1, rfl, ho⟩ := OwnL.of_own HL.out.1 hown
  have HO := Lib.hid ho
  have HG := Lib.hid ((Below.refl _ _).grown hg (Nat.le_refl _) (fun k hk => by cases hk))
  clear hown hg ho
  obtain ⟨hc, hf, hz⟩ := bcell HG.out
  have hz' : w.heap.size + 2 ≤ w1.heap.size := by simpa using hz
  have h1 : w.heap.size < w1.heap.size := by omega
  have h2 : w.heap.size + 1 < w1.heap.size := by omega
  have ta : ∀ o, w1.cell? ⟨w.heap.size, o, none⟩ = _ := fun o => hc _ _ (by simp; omega)
  have tr : ∀ o, w1.cell? ⟨w.heap.size + 1, o, none⟩ = _ := fun o => hc _ _ (by simp)
  have fa : ∀ o, w1.frozen? ⟨w.heap.size, o, none⟩ = _ := fun o => hf _ _ (by simp; omega)
  have fr : ∀ o, w1.frozen? ⟨w.heap.size + 1, o, none⟩ = _ := fun o => hf _ _ (by simp)
  have HB : Hid (Below w.heap.size w w1) := Below.trans (by exact (by repeat (first | exact Below.refl _ _ | assumption | refine Below.drew ?_ | refine belN ?_ _ | refine Below.alloc ?_ (by first | exact Nat.le_refl _ | (simp; done) | (simp; omega) | omega) _ | refine Below.setCell ?_ (by first | exact Nat.le_refl _ | (simp; done) | (simp; omega) | omega) _ | refine Below.trans ?_ (Below.mono (by assumption) (by first | exact Nat.le_refl _ | (simp; done) | (simp; omega) | omega))))) (Below.mono HG.out (by simp; omega))
  clear hc hf hz
  go_wp2
  refine bodyPost_ret (v := .agg #[.int .i64 s.me, .int .i64 s.round, .int .i64 s.step, .int .i64 s.lv, .int .i64 s.lr, .int .i64 s.vv, .int .i64 s.vr, .int .i64 s.polka, .int .i64 s.dec, .slice A1 l.length c1]) (by simp [results, Try.results36, go_sem, ta, tr]) rfl ⟨A1, c1, rfl, ?_, ?_⟩
  · refine ((HO.out.chg (lo' := w.heap.size) (hi' := w.heap.size + 2) ?_ (.inr (by omega))).wide (by omega) (by simp))
    (repeat (first | with_reducible refine Chg.setCell ?_ (by first | exact Nat.le_refl _ | (simp; done) | (simp; omega)) (by first | (simp; done) | (simp; omega)) _ | with_reducible refine Chg.alloc ?_ _ | with_reducible refine Chg.drew ?_)); (with_reducible exact Chg.refl _ _ _)
  · repeat with_reducible refine Below.setCell ?_ (by first | with_reducible exact Nat.le_refl _ | (simp; done) | (simp; omega)) _
    with_reducible exact HB.out

set_option maxRecDepth 100000 in
set_option maxHeartbeats 2000000 in
theorem l16Copy_any (s : NodeS) (A : Option Addr) (c : Nat) (l : List NMsgD) (w : World) (hl : RdL msgC 5 w w.heap.size A l.length c l) (hn : l.length ≤ 1048576) :
    Calls Try.prog 31 #[.agg #[.int .i64 s.me, .int .i64 s.round, .int .i64 s.step, .int .i64 s.lv, .int .i64 s.lr, .int .i64 s.vv, .int .i64 s.vr, .int .i64 s.polka, .int .i64 s.dec, .slice A l.length c]] w (NodeOwn s l w) := by
  obtain ⟨i0, hi, hz0, hz1, hz2⟩ := info_parts infoMsgC
  have HL := Lib.hid hl
  have hcap := hl.2.2.2.1
  clear hl
  go_enter Try.func31, Try.ntmps31
  go_wp2_with (at_builtin; refine wpList_app_rd _ rfl _ _ _ rfl (w.heap.size + 2) 40 i0 _ 5 40 Try.underlying26 hi hz0 hz1 hz2 rfl (by decide) (.slice (some ⟨w.heap.size + 2, 0, none⟩) 0 0) 0 [] rfl (by exact ⟨by simp, .inr ⟨w.heap.size + 2, 0, #[], rfl, Nat.le_refl _, by (have h := heap_alloc_new ((w.alloc (.cells #[.int .i64 s.me, .int .i64 s.round, .int .i64 s.step, .int .i64 s.lv, .int .i64 s.lr, .int .i64 s.vv, .int .i64 s.vr, .int .i64 s.polka, .int .i64 s.dec, .slice A l.length c] 28)).alloc (.cells #[.int .i64 0, .int .i64 0, .int .i64 0, .int .i64 0, .int .i64 0, .int .i64 0, .int .i64 0, .int .i64 0, .int .i64 0, .slice none 0 0] 28)) (.cells #[] 40); rw [World.size_alloc, World.size_alloc] at h; exact h), by simp, by decide, rfl, by simp⟩⟩) w.heap.size A l.length c (l.flatMap msgC) rfl (by exact (((HL.out.alloc (Nat.le_refl _) _).alloc (by simp) _).alloc (by simp; omega) _).2) (msgs_one l) (by unfold maxLen; omega) (by omega) (by simp) ?_)
  intro v1 w1 hown hg hat
  clear hat
  (try simp only [Nat.zero_add, List.nil_append] at hown)
  obtain ⟨A1, c1, rfl, ho⟩ := OwnL.of_own HL.out.1 hown
  have HO := Lib.hid ho
  have HG := Lib.hid ((Below.refl (w.heap.size + 2) _).grown hg (by simp) (fun k hk => by cases hk; exact Nat.le_refl _))
  clear hown hg ho
  obtain ⟨hc, hf, hz⟩ := bcellR HG.out
  have hz' : w.heap.size + 3 ≤ w1.heap.size := by simpa using hz
  have h1 : w.heap.size < w1.heap.size := by omega
  have h2 : w.heap.size + 1 < w1.heap.size := by omega
  have HA : Hid (Blk w1 w.heap.size 28 #[.int .i64 s.me, .int .i64 s.round, .int .i64 s.step, .int .i64 s.lv, .int .i64 s.lr, .int .i64 s.vv, .int .i64 s.vr, .int .i64 s.polka, .int .i64 s.dec, .slice A l.length c]) := Lib.hid ((((show Blk _ _ _ _ from heap_alloc_new w _).alloc _).alloc _).below HG.out (by omega))
  have HZ : Hid (Blk w1 (w.heap.size + 1) 28 #[.int .i64 0, .int .i64 0, .int .i64 0, .int .i64 0, .int .i64 0, .int .i64 0, .int .i64 0, .int .i64 0, .int .i64 0, .slice none 0 0]) := by
    have h := heap_alloc_new (w.alloc (.cells #[.int .i64 s.me, .int .i64 s.round, .int .i64 s.step, .int .i64 s.lv, .int .i64 s.lr, .int .i64 s.vv, .int .i64 s.vr, .int .i64 s.polka, .int .i64 s.dec, .slice A l.length c] 28)) (.cells #[.int .i64 0, .int .i64 0, .int .i64 0, .int .i64 0, .int .i64 0, .int .i64 0, .int .i64 0, .int .i64 0, .int .i64 0, .slice none 0 0] 28)
    rw [World.size_alloc] at h
    exact ((show Blk _ _ _ _ from h).alloc _).below HG.out (by omega)
  have ta := HA.out.cell
  have tr := HZ.out.cell
  have fa := HA.out.frozen
  have fr := HZ.out.frozen
  have HB : Hid (Below w.heap.size w w1) := Below.trans (by exact (by repeat (first | exact Below.refl _ _ | assumption | refine Below.drew ?_ | refine belN ?_ _ | refine Below.alloc ?_ (by first | exact Nat.le_refl _ | (simp; done) | (simp; omega) | omega) _ | refine Below.setCell ?_ (by first | exact Nat.le_refl _ | (simp; done) | (simp; omega) | omega) _ | refine Below.trans ?_ (Below.mono (by assumption) (by first | exact Nat.le_refl _ | (simp; done) | (simp; omega) | omega))))) (Below.mono HG.out (by omega))
  clear hc hf hz
  go_wp2
  refine bodyPost_ret (v := .agg #[.int .i64 s.me, .int .i64 s.round, .int .i64 s.step, .int .i64 s.lv, .int .i64 s.lr, .int .i64 s.vv, .int .i64 s.vr, .int .i64 s.polka, .int .i64 s.dec, .slice A1 l.length c1]) (by simp [results, Try.results31, go_sem, ta, tr]) rfl ⟨A1, c1, rfl, ?_, ?_⟩
  · refine ((HO.out.chg (lo' := w.heap.size) (hi' := w.heap.size + 2) ?_ (.inr (by omega))).wide (by omega) (by simp))
    (repeat (first | with_reducible refine Chg.setCell ?_ (by first | exact Nat.le_refl _ | (simp; done) | (simp; omega)) (by first | (simp; done) | (simp; omega)) _ | with_reducible refine Chg.alloc ?_ _ | with_reducible refine Chg.drew ?_)); (with_reducible exact Chg.refl _ _ _)
  · repeat with_reducible refine Below.setCell ?_ (by first | with_reducible exact Nat.le_refl _ | (simp; done) | (simp; omega)) _
    with_reducible exact HB.out
end Go.Proofs.Ytmpppmeloieamaa
