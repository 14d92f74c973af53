/- Copies of validators and of anchors; Verify of both sides (written by wip/vercopy.py). -/
import Derived.Test.YtelnnegfkdfpiaaGreatDoorVerif
import Derived.Deep.RegionWith
import Derived.Deep.DeepCutAuto
import Derived.Deep.DeepMust
import Derived.WalkKit
import Derived.WalkSpells
import Derived.WalkLawsBesides
import Derived.Lib.Hide
namespace Go.Proofs.YtelnnegfkdfpiaaGreatDoor
open Go.RowKit

theorem valC_oneV (l : List ValD) : ∀ u ∈ l.flatMap valC, u.oneCell' = true := by
  intro u hu
  obtain ⟨x, _, hx⟩ := List.mem_flatMap.1 hu
  simp only [valC, List.mem_cons, List.not_mem_nil, or_false] at hx
  rcases hx with rfl | rfl <;> rfl
def ValsOut (l : List ValD) (w : World) (e : Ending) (w' : World) : Prop :=
  ∃ A c, e = .returned (.slice A l.length c) ∧ OwnL valC 2 84 w' w.heap.size w'.heap.size A l.length c l ∧ Below w.heap.size w w'

set_option maxHeartbeats 1000000 in
theorem copyVals_any (A : Option Addr) (n c : Nat) (l : List ValD) (w : World) (hl : RdL valC 2 w w.heap.size A n c l) (hn : n ≤ 1048576) :
    Calls Tryz.prog 40 #[.slice A n c] w (ValsOut l w) := by
  obtain ⟨i0, hi, hz0, hz1, hz2⟩ := info_parts infoVal
  have HL := Lib.hid hl
  obtain rfl : l.length = n := hl.1
  clear hl
  go_enter Tryz.func40, Tryz.ntmps40
  go_wp2_with (at_builtin; refine wpList_app_rd _ rfl _ _ _ rfl w.heap.size 84 i0 _ 2 16 Tryz.underlying28 hi hz0 hz1 hz2 rfl (by decide) (.slice none 0 0) 0 [] rfl ⟨by simp, .inl ⟨rfl, rfl⟩⟩ w.heap.size A l.length c (l.flatMap valC) rfl (by exact HL.out.2) (valC_oneV l) (by unfold maxLen; omega) (by omega) (by simp) ?_)
  intro v1 w1 hown hg hat
  clear hat
  (try simp only [Nat.zero_add, List.nil_append] at hown)
  obtain ⟨A1, c1, rfl, ho⟩ := OwnL.of_own rfl hown
  have HO := Lib.hid ho
  have HG := Lib.hid ((Below.refl _ _).grown hg (Nat.le_refl _) (fun k hk => by cases hk))
  clear hown hg ho
  go_wp2
  go_ret
  exact ⟨A1, c1, rfl, HO.out, HG.out⟩

set_option maxRecDepth 100000 in
set_option maxHeartbeats 4000000 in
theorem copyAnchor_any (s : HeaderD) (A : Option Addr) (n c : Nat) (l : List ValD) (w : World) (hl : RdL valC 2 w w.heap.size A n c l) (hn : n ≤ 1048576) :
    Calls Tryz.prog 39 #[.agg #[.int .i64 s.h, .int .i64 s.t, .string s.last, .string s.vals, .string s.next, .string s.data, .slice A n c]] w (AnchorOut s l w) := by
  have HL := Lib.hid hl
  obtain rfl : l.length = n := hl.1
  clear hl
  go_enter Tryz.func39, Tryz.ntmps39
  go_upto_region 1 with fail
  obtain ⟨v1, hwb⟩ : ∃ q, q = (w.alloc (.cells #[.int .i64 s.h, .int .i64 s.t, .string s.last, .string s.vals, .string s.next, .string s.data, .slice A l.length c] 30)).alloc (.cells #[.int .i64 0, .int .i64 0, .string ⟨#[]⟩, .string ⟨#[]⟩, .string ⟨#[]⟩, .string ⟨#[]⟩, .slice none 0 0] 30) := ⟨_, rfl⟩
  rw [← hwb]
  have hxA : Blk v1 w.heap.size 30 #[.int .i64 s.h, .int .i64 s.t, .string s.last, .string s.vals, .string s.next, .string s.data, .slice A l.length c] := by rw [hwb]; have h := heap_alloc_new w (.cells #[.int .i64 s.h, .int .i64 s.t, .string s.last, .string s.vals, .string s.next, .string s.data, .slice A l.length c] 30); (try simp only [World.size_alloc] at h); exact (Blk.alloc h _)
  have hxR : Blk v1 (w.heap.size + 1) 30 #[.int .i64 0, .int .i64 0, .string ⟨#[]⟩, .string ⟨#[]⟩, .string ⟨#[]⟩, .string ⟨#[]⟩, .slice none 0 0] := by rw [hwb]; have h := heap_alloc_new (w.alloc (.cells #[.int .i64 s.h, .int .i64 s.t, .string s.last, .string s.vals, .string s.next, .string s.data, .slice A l.length c] 30)) (.cells #[.int .i64 0, .int .i64 0, .string ⟨#[]⟩, .string ⟨#[]⟩, .string ⟨#[]⟩, .string ⟨#[]⟩, .slice none 0 0] 30); (try simp only [World.size_alloc] at h); exact h
  have hb0 : Below w.heap.size w v1 := by rw [hwb]; exact (Below.alloc (Below.alloc (Below.refl _ _) (by first | exact Nat.le_refl _ | (simp; done) | (simp; omega)) _) (by first | exact Nat.le_refl _ | (simp; done) | (simp; omega)) _)
  clear hwb
  have hs1 := hb0.size
  have XA1 := Lib.hid hxA
  have ltA := hxA.lt
  clear hxA
  have XR1 := Lib.hid hxR
  have ltR := hxR.lt
  clear hxR
  have B1 := Lib.hid hb0
  clear hb0
  have yb := XA1.out.cell
  have zb := XR1.out.cell
  have fb := XR1.out.frozen
  go_region_with (go_at_call 40; (refine (copyVals_any A l.length c l _ (by exact ((HL.out.below B1.out (Nat.le_refl _)).more B1.out.size)) hn).mono ?_); rintro e wr ⟨A6, c6, rfl, ho, hb6⟩; have hb6 : Below v1.heap.size v1 wr := ((Below.refl v1.heap.size v1).drew).trans hb6; have HO : Hid (OwnL valC 2 84 wr v1.heap.size wr.heap.size A6 l.length c6 l) := Lib.hid ho; have HB6 := Lib.hid hb6; have yr : ∀ o, wr.cell? ⟨w.heap.size, o, none⟩ = _ := fun o => (hb6.cell (p := ⟨w.heap.size, o, none⟩) ltA).trans (yb o); have zr : ∀ o, wr.cell? ⟨w.heap.size + 1, o, none⟩ = _ := fun o => (hb6.cell (p := ⟨w.heap.size + 1, o, none⟩) ltR).trans (zb o); have fr : ∀ o, wr.frozen? ⟨w.heap.size + 1, o, none⟩ = _ := fun o => (hb6.frozen (p := ⟨w.heap.size + 1, o, none⟩) ltR).trans (fb o); have hwr : w.heap.size + 1 < wr.heap.size := (by have := hb6.size; omega); clear ho hb6)
  all_goals
    go_wp2_with fail
    refine bodyPost_ret (v := .agg #[.int .i64 s.h, .int .i64 s.t, .string s.last, .string s.vals, .string s.next, .string s.data, .slice A6 l.length c6]) (by simp [results, Tryz.results39, go_sem, zr]) rfl ⟨A6, _, c6, rfl, ?_, ?_⟩
    · refine (OwnL.chg (lo' := w.heap.size) (hi' := w.heap.size + 2) HO.out ?_ (.inr (by omega))).wide (by omega) (by simp)
      (repeat (first | with_reducible refine Chg.setCell ?_ (by first | exact Nat.le_refl _ | (simp; done) | (simp; omega)) (by first | (simp; done) | (simp; omega)) _ | with_reducible refine Chg.alloc ?_ _ | with_reducible refine Chg.drew ?_)); (with_reducible exact Chg.refl _ _ _)
    · refine (B1.out.trans (HB6.out.mono B1.out.size)).trans ?_
      (repeat (first | with_reducible refine Below.setCell ?_ (by first | exact Nat.le_refl _ | (simp; done) | (simp; omega)) _ | with_reducible refine Below.alloc ?_ (by first | exact Nat.le_refl _ | (simp; done) | (simp; omega)) _ | with_reducible refine Below.drew ?_)); (with_reducible exact Below.refl _ _)

set_option maxRecDepth 100000 in
set_option maxHeartbeats 4000000 in
theorem l11Copy_any (s : HeaderD) (A : Option Addr) (n c : Nat) (l : List ValD) (w : World) (hl : RdL valC 2 w w.heap.size A n c l) (hn : n ≤ 1048576) :
    Calls Tryz.prog 44 #[.agg #[.int .i64 s.h, .int .i64 s.t, .string s.last, .string s.vals, .string s.next, .string s.data, .slice A n c]] w (AnchorOut s l w) := by
  obtain ⟨i0, hi, hz0, hz1, hz2⟩ := info_parts infoVal
  have HL := Lib.hid hl
  obtain rfl : l.length = n := hl.1
  clear hl
  go_enter Tryz.func44, Tryz.ntmps44
  go_upto_region 1 with fail
  obtain ⟨v1, hwb⟩ : ∃ q, q = (w.alloc (.cells #[.int .i64 s.h, .int .i64 s.t, .string s.last, .string s.vals, .string s.next, .string s.data, .slice A l.length c] 30)).alloc (.cells #[.int .i64 0, .int .i64 0, .string ⟨#[]⟩, .string ⟨#[]⟩, .string ⟨#[]⟩, .string ⟨#[]⟩, .slice none 0 0] 30) := ⟨_, rfl⟩
  rw [← hwb]
  have hxA : Blk v1 w.heap.size 30 #[.int .i64 s.h, .int .i64 s.t, .string s.last, .string s.vals, .string s.next, .string s.data, .slice A l.length c] := by rw [hwb]; have h := heap_alloc_new w (.cells #[.int .i64 s.h, .int .i64 s.t, .string s.last, .string s.vals, .string s.next, .string s.data, .slice A l.length c] 30); (try simp only [World.size_alloc] at h); exact (Blk.alloc h _)
  have hxR : Blk v1 (w.heap.size + 1) 30 #[.int .i64 0, .int .i64 0, .string ⟨#[]⟩, .string ⟨#[]⟩, .string ⟨#[]⟩, .string ⟨#[]⟩, .slice none 0 0] := by rw [hwb]; have h := heap_alloc_new (w.alloc (.cells #[.int .i64 s.h, .int .i64 s.t, .string s.last, .string s.vals, .string s.next, .string s.data, .slice A l.length c] 30)) (.cells #[.int .i64 0, .int .i64 0, .string ⟨#[]⟩, .string ⟨#[]⟩, .string ⟨#[]⟩, .string ⟨#[]⟩, .slice none 0 0] 30); (try simp only [World.size_alloc] at h); exact h
  have hb0 : Below w.heap.size w v1 := by rw [hwb]; exact (Below.alloc (Below.alloc (Below.refl _ _) (by first | exact Nat.le_refl _ | (simp; done) | (simp; omega)) _) (by first | exact Nat.le_refl _ | (simp; done) | (simp; omega)) _)
  clear hwb
  have hs1 := hb0.size
  have XA1 := Lib.hid hxA
  have ltA := hxA.lt
  clear hxA
  have XR1 := Lib.hid hxR
  have ltR := hxR.lt
  clear hxR
  have B1 := Lib.hid hb0
  clear hb0
  have yb := XA1.out.cell
  have gb := XA1.out.frozen
  have zb := XR1.out.cell
  have fb := XR1.out.frozen
  go_wp2_with (at_builtin; refine wpList_app_rd _ rfl _ _ _ rfl v1.heap.size 84 i0 _ 2 16 Tryz.underlying28 hi hz0 hz1 hz2 rfl (by decide) (.slice (some ⟨v1.heap.size, 0, none⟩) 0 0) 0 [] rfl (by simpa using World.ownsRow_lit v1 #[] 0 (Nat.le_refl _) (by decide) rfl) w.heap.size A l.length c (l.flatMap valC) rfl (by exact ((HL.out.below B1.out (Nat.le_refl _)).alloc (by omega) _).2) (valC_oneV l) (by unfold maxLen; omega) (by omega) (by first | (simp; done) | (simp; omega)) ?_)
  intro v9 w9 hown hg hat
  clear hat
  (try simp only [Nat.zero_add, List.nil_append] at hown)
  obtain ⟨A6, c6, rfl, ho⟩ := OwnL.of_own rfl hown
  have HO := Lib.hid ho
  have hb6 : Below v1.heap.size v1 w9 := ((Below.refl _ _).alloc (Nat.le_refl _) _).grown hg (by simp) (fun k hk => by simp [Value.ownBlock] at hk; omega)
  clear hown hg ho
  have HB6 := Lib.hid hb6
  have yr : ∀ o, w9.cell? ⟨w.heap.size, o, none⟩ = _ := fun o => (hb6.cell (p := ⟨w.heap.size, o, none⟩) ltA).trans (yb o)
  have gr : ∀ o, w9.frozen? ⟨w.heap.size, o, none⟩ = _ := fun o => (hb6.frozen (p := ⟨w.heap.size, o, none⟩) ltA).trans (gb o)
  have zr : ∀ o, w9.cell? ⟨w.heap.size + 1, o, none⟩ = _ := fun o => (hb6.cell (p := ⟨w.heap.size + 1, o, none⟩) ltR).trans (zb o)
  have fr : ∀ o, w9.frozen? ⟨w.heap.size + 1, o, none⟩ = _ := fun o => (hb6.frozen (p := ⟨w.heap.size + 1, o, none⟩) ltR).trans (fb o)
  have hwr : w.heap.size + 1 < w9.heap.size := by have := hb6.size; omega
  clear hb6 yb gb zb fb
  go_wp2_with fail
  refine bodyPost_ret (v := .agg #[.int .i64 s.h, .int .i64 s.t, .string s.last, .string s.vals, .string s.next, .string s.data, .slice A6 l.length c6]) (by simp [results, Tryz.results44, go_sem, zr]) rfl ⟨A6, _, c6, rfl, ?_, ?_⟩
  · refine (OwnL.chg (lo' := w.heap.size) (hi' := w.heap.size + 2) HO.out ?_ (.inr (by omega))).wide (by omega) (by simp)
    (repeat (first | with_reducible refine Chg.setCell ?_ (by first | exact Nat.le_refl _ | (simp; done) | (simp; omega)) (by first | (simp; done) | (simp; omega)) _ | with_reducible refine Chg.alloc ?_ _ | with_reducible refine Chg.drew ?_)); (with_reducible exact Chg.refl _ _ _)
  · refine (B1.out.trans (HB6.out.mono B1.out.size)).trans ?_
    (repeat (first | with_reducible refine Below.setCell ?_ (by first | exact Nat.le_refl _ | (simp; done) | (simp; omega)) _ | with_reducible refine Below.alloc ?_ (by first | exact Nat.le_refl _ | (simp; done) | (simp; omega)) _ | with_reducible refine Below.drew ?_)); (with_reducible exact Below.refl _ _)

end Go.Proofs.YtelnnegfkdfpiaaGreatDoor
