/- Copies of a store, of the program and of the reference. -/
import Derived.Test.YtjdknaipmboekaaDoorStoreFam
import Derived.Test.YtjdknaipmboekaaDoorApp
import Derived.Deep.RegionLaw
import Derived.WalkKit
import Derived.WalkSpells
import Derived.WalkLawsBesides
import Derived.Lib.Hide
namespace Go.Proofs.YtjdknaipmboekaaDoor
open Go.RowKit

theorem headC_one (l : List HeaderD) : ∀ u ∈ l.flatMap headC, u.oneCell' = true := by
  intro u hu
  obtain ⟨x, _, hx⟩ := List.mem_flatMap.1 hu
  simp only [headC, List.mem_cons, List.not_mem_nil, or_false] at hx
  rcases hx with rfl | rfl | rfl | rfl | rfl | rfl <;> rfl

set_option maxHeartbeats 1000000 in
theorem copyStore_any (y : Int) (A : Option Addr) (n c : Nat) (l : List HeaderD) (w : World) (hl : RdL headC 6 w w.heap.size A n c l) (hn : n ≤ 1048576) :
    Calls Tryd.prog 46 #[.agg #[.slice A n c, .int .i64 y]] w (StoreOut y l w) := by
  obtain ⟨i0, hi, hz0, hz1, hz2⟩ := info_parts infoHeader
  have HL := Lib.hid hl
  have hcap := hl.2.2.1
  clear hl
  go_enter Tryd.func46, Tryd.ntmps46
  go_upto_region 1 with fail
  go_region_law (first
    | ((refine step_app_rd _ rfl _ _ _ rfl (w.heap.size + 2) 34 i0 _ 6 80 Tryd.underlying27 hi hz0 hz1 hz2 rfl (by decide) (.slice none 0 0) 0 [] rfl ⟨by simp, .inl ⟨rfl, rfl⟩⟩ w.heap.size A n c (l.flatMap headC) rfl (by exact ((HL.out.alloc (Nat.le_refl _) _).alloc (by simp) _).2) (headC_one l) (by unfold maxLen; omega) (by omega) (by simp) ?_)
       intro v1 w1 hown hg hat
       clear hat
       (try simp only [Nat.zero_add, List.nil_append] at hown)
       obtain ⟨A1, c1, rfl, ho⟩ := OwnL.of_own HL.out.1 hown
       have HO := Lib.hid ho
       have HG := Lib.hid ((Below.refl _ _).grown hg (Nat.le_refl _) (fun k hk => by cases hk))
       clear hown hg ho
       obtain ⟨hc, hf, hz⟩ := bcell HG.out
       have hz' : w.heap.size + 2 ≤ w1.heap.size := by simpa using hz
       have ta0 : w1.cell? ⟨w.heap.size, 0, none⟩ = some (.slice A n c) := by rw [hc _ _ (by simp; omega)]; simp
       have ta1 : w1.cell? ⟨w.heap.size, 1, none⟩ = some (.int .i64 y) := by rw [hc _ _ (by simp; omega)]; simp
       have tr0 : w1.cell? ⟨w.heap.size + 1, 0, none⟩ = some (.slice none 0 0) := by rw [hc _ _ (by simp)]; simp
       have tr1 : w1.cell? ⟨w.heap.size + 1, 1, none⟩ = some (.int .i64 0) := by rw [hc _ _ (by simp)]; simp
       have fr : ∀ o, w1.frozen? ⟨w.heap.size + 1, o, none⟩ = false := fun o => by rw [hf _ _ (by simp)]; simp
       have HBz : Hid (Below w.heap.size w w1) := Below.trans (by exact (by repeat (first | exact Below.refl _ _ | assumption | refine Below.drew ?_ | refine belN ?_ _ | refine Below.alloc ?_ (by first | exact Nat.le_refl _ | (simp; done) | (simp; omega) | omega) _ | refine Below.setCell ?_ (by first | exact Nat.le_refl _ | (simp; done) | (simp; omega) | omega) _ | refine Below.trans ?_ (Below.mono (by assumption) (by first | exact Nat.le_refl _ | (simp; done) | (simp; omega) | omega))))) (Below.mono HG.out (by simp; omega))
       clear hc hf hz))
  all_goals
    go_wp2
    refine bodyPost_ret (v := .agg #[.slice A1 n c1, .int .i64 y]) (by simp [results, Tryd.results46, go_sem, tr0, tr1]) rfl ⟨A1, n, c1, rfl, ?_, ?_⟩
    · refine ((HO.out.chg (lo' := w.heap.size) (hi' := w.heap.size + 2) ?_ (.inr (by omega))).wide (by omega) (by simp))
      (repeat (first | with_reducible refine Chg.setCell ?_ (by first | exact Nat.le_refl _ | (simp; done) | (simp; omega)) (by first | (simp; done) | (simp; omega)) _ | with_reducible refine Chg.alloc ?_ _ | with_reducible refine Chg.drew ?_)); (with_reducible exact Chg.refl _ _ _)
    · (repeat (first | with_reducible refine Below.setCell ?_ (by first | exact Nat.le_refl _ | (simp; done) | (simp; omega)) _ | with_reducible refine Below.alloc ?_ (by first | exact Nat.le_refl _ | (simp; done) | (simp; omega)) _ | with_reducible refine Below.drew ?_)); (with_reducible exact HBz.out)
end Go.Proofs.YtjdknaipmboekaaDoor
