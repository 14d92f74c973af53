/- slices.Sort and slices.Compact at rows of numbers of one's own (over the shelf laid at this seat). -/
import Derived.Test.YtelnnegfkdfpiaaGreatDoorIntHas
import Derived.Test.YtelnnegfkdfpiaaGreatDoorApp
import Derived.Test.YtelnnegfkdfpiaaGreatDoorShelf
import Derived.Sort.OwnSortedInts
import Derived.Deep.DeepMust
import Derived.WalkKit
import Derived.WalkSpells
import Derived.WalkLawsBesides
import Derived.Lib.Hide
namespace Go.Proofs.YtelnnegfkdfpiaaGreatDoor
open Go.RowKit

theorem flat_int (zs : List Int) : zs.flatMap intC = zs.map (Value.int .i64) := by
  induction zs with
  | nil => rfl
  | cons z zs ih => simp [intC, ih]
def sortI (zs : List Int) : List Int := zs.mergeSort fun x y => decide (x ≤ y)
theorem sortI_len (zs : List Int) : (sortI zs).length = zs.length := by unfold sortI; exact List.length_mergeSort _

theorem Sort_own (base : Nat) (v : Value) (zs : List Int) (w : World) (h : w.ownsRow base 3 1 v zs.length (zs.flatMap intC)) (hn : zs.length ≤ 1048576) :
    Calls Tryz.prog 107 #[v] w fun e w' => e = .returned (.tuple #[]) ∧ w'.ownsRow base 3 1 v zs.length ((sortI zs).flatMap intC) ∧ w.grownBy w' v.ownBlock := by
  rw [flat_int] at h ⊢
  rcases h.2 with ⟨h0, hx⟩ | ⟨g, cap, cur, rfl, hbase, hg, hnc, hcm, hsz, htk⟩
  · have hz : zs = [] := List.length_eq_zero_iff.1 hx
    subst hz
    subst h0
    refine (Tryz.slices_Sort_int_none none 0 w).mono ?_
    rintro e w' ⟨rfl, rfl⟩
    exact ⟨rfl, by simpa [sortI] using h, World.grownBy.refl _ _⟩
  · refine (Tryz.slices_Sort_int g 0 cap zs w (holds_of_blockI hg (by simpa using htk)) (Array.getElem?_eq_some_iff.1 hg).1 (by omega)).mono ?_
    rintro e w' ⟨rfl, n, os, rfl⟩
    refine ⟨rfl, ?_, grownBy_sortedI _⟩
    exact ownsRow_sortedI (ts := sortI zs) (sortI_len zs) hbase hg hnc hcm (by simpa using hsz)
theorem Compact_own (base : Nat) (v : Value) (zs : List Int) (w : World) (h : w.ownsRow base 3 1 v zs.length (zs.flatMap intC)) (hn : zs.length ≤ 1048576) :
    Calls Tryz.prog 108 #[v] w fun e w' => ∃ v', e = .returned v' ∧ w'.ownsRow base 3 1 v' (Lib.compact zs).length ((Lib.compact zs).flatMap intC) ∧ w.grownBy w' v.ownBlock := by
  rw [flat_int] at h ⊢
  rcases h.2 with ⟨h0, hx⟩ | ⟨g, cap, cur, rfl, hbase, hg, hnc, hcm, hsz, htk⟩
  · have hz : zs = [] := List.length_eq_zero_iff.1 hx
    subst hz
    subst h0
    refine (Tryz.slices_Compact_int_empty none 0 w).mono ?_
    rintro e w' ⟨rfl, rfl⟩
    have hc0 : Lib.compact ([] : List Int) = [] := rfl
    rw [hc0]
    exact ⟨_, rfl, by simpa using h, World.grownBy.refl _ _⟩
  · have hcl := Lib.compact_length_le zs
    refine (Tryz.slices_Compact_int g 0 cap zs w (holds_of_blockI hg (by simpa using htk)) (by omega) hnc).mono ?_
    rintro e w' ⟨rfl, n, rfl⟩
    have hle : (Lib.compact zs ++ List.replicate (zs.length - (Lib.compact zs).length) 0).length = zs.length := by simp; omega
    have ho := ownsRow_sortedI (n := n) (os := #[]) (ts := Lib.compact zs ++ List.replicate (zs.length - (Lib.compact zs).length) 0) hle hbase hg hnc hcm (by simpa using hsz)
    have hgr : w.grownBy _ (some g) := grownBy_sortedI (n := n) (os := #[]) (Lib.compact zs ++ List.replicate (zs.length - (Lib.compact zs).length) 0).toArray
    rw [Sort.grow_empty] at ho hgr
    refine ⟨_, rfl, ?_, hgr⟩
    rcases ho.2 with ⟨h0, _⟩ | ⟨g', cap', cur', hv, hb', hg', hn', hc', hs', ht'⟩
    · cases h0
    · simp only [Value.slice.injEq, Option.some.injEq, Addr.mk.injEq, and_true, true_and] at hv
      obtain ⟨rfl, rfl⟩ := hv
      refine ⟨by simp, .inr ⟨g, cap, cur', rfl, hb', hg', by omega, hc', hs', ?_⟩⟩
      have e2 := congrArg (List.take (Lib.compact zs).length) ht'
      rw [List.take_take, Nat.mul_one, Nat.min_eq_left hcl, List.map_append] at e2
      have e3 : List.take (Lib.compact zs).length (List.map (Value.int .i64) (Lib.compact zs) ++ List.map (Value.int .i64) (List.replicate (zs.length - (Lib.compact zs).length) 0)) = List.map (Value.int .i64) (Lib.compact zs) := by
        rw [List.take_append_of_le_length (by simp)]
        exact List.take_of_length_le (by simp)
      rw [e3] at e2
      rw [Nat.mul_one]
      exact e2
theorem Rd_oneI (w : World) (cs : Array Value) (t : TypeId) (size : Nat) (h : cs.size = size) (g : Nat) (hg : g = w.heap.size) : Rd (w.alloc (.cells cs t)) (w.heap.size + 1) (some ⟨g, 0, none⟩) 1 1 size cs.toList := by
  subst hg
  refine ⟨by simp [h], Nat.le_refl _, by unfold maxLen; omega, fun _ => ⟨w.heap.size, 0, rfl, by omega, fun j hj => ?_⟩⟩
  have hb : Blk (w.alloc (.cells cs t)) w.heap.size t cs := heap_alloc_new w _
  rw [hb.cell, Nat.zero_add]; simp

theorem take_next' {α : Type} {l : List α} {k : Nat} {x : α} (h : l[k]? = some x) : l.take (k + 1) = l.take k ++ [x] := by
  rw [List.take_add_one, h]; rfl
theorem strict_eq : ∀ (l1 l2 : List Int), l1.Pairwise (· < ·) → l2.Pairwise (· < ·) → (∀ x, x ∈ l1 ↔ x ∈ l2) → l1 = l2
  | [], [], _, _, _ => rfl
  | [], b :: t, _, _, h => absurd ((h b).2 (by simp)) (by simp)
  | a :: t, [], _, _, h => absurd ((h a).1 (by simp)) (by simp)
  | a :: t1, b :: t2, h1, h2, h => by
    rw [List.pairwise_cons] at h1 h2
    have hab : a = b := by
      have ha := (h a).1 (by simp)
      have hb := (h b).2 (by simp)
      simp only [List.mem_cons] at ha hb
      rcases ha with ha | ha
      · exact ha
      · rcases hb with hb | hb
        · exact hb.symm
        · have := h1.1 b hb
          have := h2.1 a ha
          omega
    subst hab
    rw [strict_eq t1 t2 h1.2 h2.2 fun x => ?_]
    have hx := h x
    simp only [List.mem_cons] at hx
    constructor
    · intro hm
      rcases hx.1 (.inr hm) with rfl | h'
      · have := h1.1 _ hm; omega
      · exact h'
    · intro hm
      rcases hx.2 (.inr hm) with rfl | h'
      · have := h2.1 _ hm; omega
      · exact h'
theorem compact_spec (zs : List Int) (hs : ∀ i j, i ≤ j → j < zs.length → zs.toArray[i]! ≤ zs.toArray[j]!) : ∀ m, m ≤ zs.length →
    (Lib.compactUpTo zs.toArray m).Pairwise (· < ·) ∧ (∀ x ∈ Lib.compactUpTo zs.toArray m, ∃ j, j < m ∧ zs.toArray[j]! = x) ∧ ∀ j, j < m → zs.toArray[j]! ∈ Lib.compactUpTo zs.toArray m := by
  intro m
  induction m with
  | zero => intro _; exact ⟨by simp [Lib.compactUpTo], by simp [Lib.compactUpTo], fun j hj => absurd hj (by omega)⟩
  | succ m ih =>
    intro hm
    obtain ⟨h1, h2, h3⟩ := ih (by omega)
    rw [Lib.compactUpTo_succ]
    by_cases hk : Lib.keeps zs.toArray m = true
    · rw [if_pos hk]
      refine ⟨?_, ?_, ?_⟩
      · rw [List.pairwise_append]
        refine ⟨h1, by simp, fun x hx y hy => ?_⟩
        simp only [List.mem_singleton] at hy
        subst hy
        obtain ⟨j, hj, rfl⟩ := h2 x hx
        have hne : zs.toArray[m]! ≠ zs.toArray[m - 1]! := by
          unfold Lib.keeps at hk
          rw [decide_eq_true_eq] at hk
          rcases hk with hk | hk
          · omega
          · exact hk
        have e1 := hs j (m - 1) (by omega) (by omega)
        have e2 := hs (m - 1) m (by omega) (by omega)
        omega
      · intro x hx
        simp only [List.mem_append, List.mem_singleton] at hx
        rcases hx with hx | rfl
        · obtain ⟨j, hj, e⟩ := h2 x hx; exact ⟨j, by omega, e⟩
        · exact ⟨m, by omega, rfl⟩
      · intro j hj
        simp only [List.mem_append, List.mem_singleton]
        by_cases hjm : j < m
        · exact .inl (h3 j hjm)
        · rw [show j = m by omega]; exact .inr rfl
    · rw [if_neg hk, List.append_nil]
      refine ⟨h1, fun x hx => ?_, fun j hj => ?_⟩
      · obtain ⟨j, hj, e⟩ := h2 x hx; exact ⟨j, by omega, e⟩
      · by_cases hjm : j < m
        · exact h3 j hjm
        · have hjm' : j = m := by omega
          subst hjm'
          unfold Lib.keeps at hk
          rw [decide_eq_true_eq] at hk
          have h0 : j ≠ 0 := fun h => hk (.inl h)
          have he : zs.toArray[j]! = zs.toArray[j - 1]! := by
            by_cases h : zs.toArray[j]! = zs.toArray[j - 1]!
            · exact h
            · exact absurd (.inr h) hk
          rw [he]; exact h3 (j - 1) (by omega)
theorem sortI_sorted (zs : List Int) : ∀ i j, i ≤ j → j < (sortI zs).length → (sortI zs).toArray[i]! ≤ (sortI zs).toArray[j]! := by
  intro i j hij hj
  have hp : (sortI zs).Pairwise (fun x y => decide (x ≤ y) = true) := List.pairwise_mergeSort (fun a b c h1 h2 => by simp at *; omega) (fun a b => by simp; omega) zs
  rcases Nat.lt_or_eq_of_le hij with h | rfl
  · have := (List.pairwise_iff_getElem.1 hp) i j (by omega) hj h
    simp only [decide_eq_true_eq] at this
    simpa [getElem!_pos, hj, show i < (sortI zs).length by omega] using this
  · exact Int.le_refl _
end Go.Proofs.YtelnnegfkdfpiaaGreatDoor
