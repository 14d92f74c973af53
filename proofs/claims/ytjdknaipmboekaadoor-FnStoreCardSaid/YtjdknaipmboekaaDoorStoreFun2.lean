/- The reference's copy of a store; rows cut short (printed by wip/storefun.py). -/
import Derived.Test.YtjdknaipmboekaaDoorStoreFun
import Derived.WalkKit
import Derived.WalkSpells
import Derived.WalkLawsBesides
import Derived.Lib.Hide
namespace Go.Proofs.YtjdknaipmboekaaDoor
open Go.RowKit

theorem storeB_facts {l : List HeaderD} {y : Int} (h : storeB l y = true) : l.length ≤ 20 ∧ 0 ≤ y ∧ y ≤ l.length := by
  simp only [storeB, Bool.and_eq_true, decide_eq_true_eq, inB_iff] at h
  omega
theorem OwnL.take {α : Type} {f : α → List Value} {size : Nat} {t : TypeId} {w : World} {lo hi : Nat} {A : Option Addr} {n c : Nat} {l : List α} (hf : ∀ x, (f x).length = size) (h : OwnL f size t w lo hi A n c l) {m : Nat} (hm : m ≤ n) : OwnL f size t w lo hi A m c (l.take m) := by
  obtain ⟨hl, ⟨rfl, rfl, rfl⟩ | ⟨g, cur, rfl, b, d, e, h1, h2, h3, h4⟩⟩ := h
  · obtain rfl : m = 0 := by omega
    exact ⟨rfl, .inl ⟨rfl, rfl, rfl⟩⟩
  · have hlt : (l.take m).length = m := by rw [List.length_take]; omega
    refine ⟨hlt, .inr ⟨g, cur, rfl, b, d, e, by omega, h2, h3, fun j hj => ?_⟩⟩
    have hmm : m * size ≤ n * size := Nat.mul_le_mul_right _ hm
    rw [h4 j (by omega)]
    have hsp : l.flatMap f = (l.take m).flatMap f ++ (l.drop m).flatMap f := by rw [← List.flatMap_append, List.take_append_drop]
    rw [hsp, List.getElem?_append_left (by rw [flat_len f size _ (fun x _ => hf x), hlt]; exact hj)]

theorem RdL.take {α : Type} {f : α → List Value} {w : World} {B n c size : Nat} {A : Option Addr} {l : List α} (hf : ∀ x, (f x).length = size) (h : RdL f size w B A n c l) {k : Nat} (hk : k ≤ n) : RdL f size w B A k c (l.take k) := by
  obtain ⟨h1, h2, h3, h4, h5⟩ := h
  have hl : (l.take k).length = k := by rw [List.length_take]; omega
  refine ⟨hl, by rw [flat_len f size _ (fun x _ => hf x), hl], by omega, h4, fun hn => ?_⟩
  obtain ⟨b, off, e, hb, hc⟩ := h5 (by omega)
  refine ⟨b, off, e, hb, fun j hj => ?_⟩
  have hm : k * size ≤ n * size := Nat.mul_le_mul_right _ hk
  rw [hc j (by omega)]
  have hsp : l.flatMap f = (l.take k).flatMap f ++ (l.drop k).flatMap f := by rw [← List.flatMap_append, List.take_append_drop]
  rw [hsp, List.getElem?_append_left (by rw [flat_len f size _ (fun x _ => hf x), hl]; omega)]

set_option maxHeartbeats 1000000 in
theorem l15Copy_any (y : Int) (A : Option Addr) (n c : Nat) (l : List HeaderD) (w : World) (hl : RdL headC 6 w w.heap.size A n c l) (hn : n ≤ 1048576) :
    Calls Tryd.prog 45 #[.agg #[.slice A n c, .int .i64 y]] w (StoreOut y l w) := by
  obtain ⟨i0, hi, hz0, hz1, hz2⟩ := info_parts infoHeader
  have HL := Lib.hid hl
  have hcap := hl.2.2.1
  clear hl
  have BP0 : Blk (((w.alloc (.cells #[.slice A n c, .int .i64 y] 29)).alloc (.cells #[.slice none 0 0, .int .i64 0] 29)).alloc (.cells #[] 34)) w.heap.size 29 #[.slice A n c, .int .i64 y] := Blk.alloc (Blk.alloc (heap_alloc_new w _) _) _
  have BR0 : Blk (((w.alloc (.cells #[.slice A n c, .int .i64 y] 29)).alloc (.cells #[.slice none 0 0, .int .i64 0] 29)).alloc (.cells #[] 34)) (w.heap.size + 1) 29 #[.slice none 0 0, .int .i64 0] := Blk.alloc (blk_newAt (w.alloc (.cells #[.slice A n c, .int .i64 y] 29)) (w.heap.size + 1) _ _ (World.size_alloc _ _)) _
  have HS : Hid (w.heap.size + 2 ≤ (((w.alloc (.cells #[.slice A n c, .int .i64 y] 29)).alloc (.cells #[.slice none 0 0, .int .i64 0] 29)).alloc (.cells #[] 34)).drew.heap.size) := by show _ ≤ _; first | (simp; done) | (simp; omega)
  have HRd : Hid (Rd (((w.alloc (.cells #[.slice A n c, .int .i64 y] 29)).alloc (.cells #[.slice none 0 0, .int .i64 0] 29)).alloc (.cells #[] 34)).drew w.heap.size A n c 6 (l.flatMap headC)) := (((HL.out.alloc (Nat.le_refl _) _).alloc (by first | (simp; done) | (simp; omega)) _).alloc (by first | (simp; done) | (simp; omega)) _).2
  have HOWN : Hid (World.ownsRow (((w.alloc (.cells #[.slice A n c, .int .i64 y] 29)).alloc (.cells #[.slice none 0 0, .int .i64 0] 29)).alloc (.cells #[] 34)).drew (w.heap.size + 2) 34 6 (.slice (some ⟨w.heap.size + 2, 0, none⟩) 0 0) 0 []) := by
    have := World.ownsRow_lit ((w.alloc (.cells #[.slice A n c, .int .i64 y] 29)).alloc (.cells #[.slice none 0 0, .int .i64 0] 29)) (base := w.heap.size + 2) (e := 34) (size := 6) #[] 0 (by simp) (by decide) rfl
    show World.ownsRow (((w.alloc (.cells #[.slice A n c, .int .i64 y] 29)).alloc (.cells #[.slice none 0 0, .int .i64 0] 29)).alloc (.cells #[] 34)) _ _ _ _ _ _
    simpa using this
  go_enter Tryd.func45, Tryd.ntmps45
  go_upto_region 1 with fail
  go_region_law (first
    | ((refine step_app_rd _ rfl _ _ _ rfl (w.heap.size + 2) 34 i0 _ 6 80 Tryd.underlying27 hi hz0 hz1 hz2 rfl (by decide) (.slice (some ⟨w.heap.size + 2, 0, none⟩) 0 0) 0 [] rfl HOWN.out w.heap.size A n c (l.flatMap headC) rfl HRd.out (headC_one l) (by unfold maxLen; omega) (by omega) HS.out ?_)
       intro v1 w1 hown hg hat
       clear hat
       (try simp only [Nat.zero_add, List.nil_append] at hown)
       obtain ⟨A1, c1, rfl, ho⟩ := OwnL.of_own HL.out.1 hown
       have HO := Lib.hid ho
       have hgb : Below (w.heap.size + 2) (((w.alloc (.cells #[.slice A n c, .int .i64 y] 29)).alloc (.cells #[.slice none 0 0, .int .i64 0] 29)).alloc (.cells #[] 34)) w1 := (Below.drew (Below.refl _ _)).grown hg (by first | (simp; done) | (simp; omega)) (fun k hk => by simp [Value.ownBlock] at hk; omega)
       have BP1 := BP0.below hgb (by omega)
       have BR1 := BR0.below hgb (by omega)
       have hz' : w.heap.size + 2 ≤ w1.heap.size := by have := hgb.size; simp at this; omega
       have ta0 : w1.cell? ⟨w.heap.size, 0, none⟩ = some (.slice A n c) := (BP1.cell 0).trans rfl
       have ta1 : w1.cell? ⟨w.heap.size, 1, none⟩ = some (.int .i64 y) := (BP1.cell 1).trans rfl
       have tr0 : w1.cell? ⟨w.heap.size + 1, 0, none⟩ = some (.slice none 0 0) := (BR1.cell 0).trans rfl
       have tr1 : w1.cell? ⟨w.heap.size + 1, 1, none⟩ = some (.int .i64 0) := (BR1.cell 1).trans rfl
       have fr := BR1.frozen
       have HBz : Hid (Below w.heap.size w w1) := Below.trans (by exact (by repeat (first | exact Below.refl _ _ | assumption | refine Below.drew ?_ | refine belN ?_ _ | refine Below.alloc ?_ (by first | exact Nat.le_refl _ | (simp; done) | (simp; omega) | omega) _ | refine Below.setCell ?_ (by first | exact Nat.le_refl _ | (simp; done) | (simp; omega) | omega) _ | refine Below.trans ?_ (Below.mono (by assumption) (by first | exact Nat.le_refl _ | (simp; done) | (simp; omega) | omega))))) (Below.mono hgb (by omega))
       clear hown hg ho BP1 BR1 hgb))
  all_goals
    clear BP0 BR0
    go_wp2
    refine bodyPost_ret (v := .agg #[.slice A1 n c1, .int .i64 y]) (by simp [results, Tryd.results45, go_sem, tr0, tr1]) rfl ⟨A1, n, c1, rfl, ?_, ?_⟩
    · refine ((HO.out.chg (lo' := w.heap.size) (hi' := w.heap.size + 2) ?_ (.inr (by omega))).wide (by omega) (by simp))
      (repeat (first | with_reducible refine Chg.setCell ?_ (by first | exact Nat.le_refl _ | (simp; done) | (simp; omega)) (by first | (simp; done) | (simp; omega)) _ | with_reducible refine Chg.alloc ?_ _ | with_reducible refine Chg.drew ?_)); (with_reducible exact Chg.refl _ _ _)
    · (repeat (first | with_reducible refine Below.setCell ?_ (by first | exact Nat.le_refl _ | (simp; done) | (simp; omega)) _ | with_reducible refine Below.alloc ?_ (by first | exact Nat.le_refl _ | (simp; done) | (simp; omega)) _ | with_reducible refine Below.drew ?_)); (with_reducible exact HBz.out)
end Go.Proofs.YtjdknaipmboekaaDoor
