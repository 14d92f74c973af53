/- Who is blamed, in plain Lean; laws.sameInts and laws.has. (written by wip/fnevid.py) -/
import Derived.Test.YteaggbbimhpolaaDoorBlame
import Derived.WalkKit
import Derived.WalkSpells
import Derived.WalkLawsBesides
import Derived.Lib.Hide
namespace Go.Proofs.YteaggbbimhpolaaDoor
open Go.RowKit

theorem bl_mem {l : List SVoteD} {v : Int} (h : v ∈ blS l 99) : ∃ e, feL l v = some e ∧ evB e = true ∧ e.a.v = v := by
  unfold blS at h
  obtain ⟨x, hx, rfl⟩ := List.mem_map.1 h
  have h2 := (List.mem_filter.1 hx).2
  unfold blB at h2
  obtain ⟨e, he⟩ := Option.isSome_iff_exists.1 h2
  obtain ⟨a, _, b, _, hv, rfl, hok⟩ := feL_some he
  exact ⟨_, he, hok, hv⟩
theorem feL_drop {l : List SVoteD} {v : Int} : ∀ k : Nat, (feL (l.drop k) v).isSome = true → (feL l v).isSome = true := by
  induction l with
  | nil => intro k h; simpa using h
  | cons a l ih =>
    intro k h
    cases k with
    | zero => simpa using h
    | succ k =>
      have h2 := ih k (by simpa using h)
      unfold feL
      split
      · rw [Option.isSome_or, h2, Bool.or_true]
      · exact h2
theorem bl_all {l : List SVoteD} {i k : Nat} {p q : SVoteD} (hk : l[k]? = some p) (hi : l[i]? = some q) (hki : k < i) (he : evB (evOf p q) = true) : q.v ∈ blS l 99 := by
  have he' := he
  simp only [evB, Bool.and_eq_true, beq_iff_eq] at he'
  have hpq : p.v = q.v := he'.2.2.1
  have hval := signed_val he'.1
  have hv1 : 1 ≤ p.v := hval.1
  have hv9 : p.v ≤ 99 := hval.2
  have hs : (feL l p.v).isSome = true := by
    refine feL_drop k ?_
    rw [drop_next hk]
    unfold feL
    rw [if_pos (by simp)]
    have hmem : q ∈ l.drop (k + 1) := by
      rw [List.mem_iff_getElem?]
      exact ⟨i - (k + 1), by rw [List.getElem?_drop]; rw [show k + 1 + (i - (k + 1)) = i by omega]; exact hi⟩
    have hf : (feIn p (l.drop (k + 1))).isSome = true := by
      unfold feIn
      rw [Option.isSome_map, List.find?_isSome]
      exact ⟨q, hmem, he⟩
    rw [Option.isSome_or, hf, Bool.true_or]
  unfold blS
  refine List.mem_map.2 ⟨(p.v - 1).toNat, List.mem_filter.2 ⟨List.mem_range.2 (by omega), ?_⟩, by omega⟩
  have e1 : (((p.v - 1).toNat : Nat) : Int) + 1 = p.v := by omega
  rw [e1]
  exact hs
theorem evB_swap (e : EvD) : evB ⟨e.b, e.sb, e.a, e.sa⟩ = evB e := by
  have hc : ∀ x y : Int, (x == y) = (y == x) := fun x y => by rw [Bool.eq_iff_iff]; simp; exact eq_comm
  have hl : ∀ x y : List UInt8, (x == y) = (y == x) := fun x y => by rw [Bool.eq_iff_iff]; simp; exact eq_comm
  unfold evB
  dsimp only
  rw [hc e.b.v, hc e.b.h, hc e.b.r, hc e.b.st, hl e.b.id.toList, ← Bool.and_assoc, ← Bool.and_assoc, Bool.and_comm (signedB e.b e.sb), Bool.and_assoc, Bool.and_assoc]

theorem intC_cells {w : World} {B : Nat} {A : Option Addr} {n c : Nat} {l : List Int} (h : RdL intC 1 w B A n c l) {k : Nat} (hk : k < n) :
    ∃ b off x, A = some ⟨b, off, none⟩ ∧ b < B ∧ l[k]? = some x ∧ w.cell? ⟨b, off + k, none⟩ = some (.int .i64 x) := by
  obtain ⟨b, off, p, e, hb, hp, hc⟩ := h.at_ intC_len hk
  exact ⟨b, off, p, e, hb, hp, by have := hc 0 (by omega); simpa [intC] using this⟩
set_option maxHeartbeats 1000000 in
theorem sameInts_same (A : Option Addr) (n c : Nat) (A' : Option Addr) (c' : Nat) (l : List Int) (w : World) (hl : RdL intC 1 w w.heap.size A n c l) (hl' : RdL intC 1 w w.heap.size A' n c' l) :
    Calls Tryd.prog 28 #[.slice A n c, .slice A' n c'] w fun e w' => e = .returned (.bool true) ∧ Below w.heap.size w w' := by
  have hn := hl.le
  have HL := Lib.hid hl
  have HL' := Lib.hid hl'
  clear hl hl'
  go_enter Tryd.func28, Tryd.ntmps28
  go_wp2_with fail
  go_loopw [5] (fun i wr => ∃ k : Nat, k ≤ n ∧ i = .int .i64 k ∧ Below w.heap.size w wr) (fun i _ => n - (intOf i).toNat)
  case atStart => exact ⟨0, by omega, rfl, Below.refl _ _⟩
  case round =>
    obtain ⟨k, hk, rfl, hb⟩ := hrel
    have hz := hb.size
    by_cases hkn : k < n
    · obtain ⟨b, off, p, rfl, hb1, hp, c0⟩ := intC_cells (HL.out.below hb (Nat.le_refl _)) hkn
      obtain ⟨b', off', p', rfl, hb1', hp', d0⟩ := intC_cells (HL'.out.below hb (Nat.le_refl _)) hkn
      obtain rfl : p = p' := by rw [hp] at hp'; injection hp'
      clear hp hp'
      have hlt : b < wr.heap.size := by omega
      have hlt' : b' < wr.heap.size := by omega
      go_wp2_with fail
      refine wp_region_below (by kernel_rfl) (by kernel_rfl) ?_
      repeat (first | go_big_quiet_skip | (go_big_quiet_want; go_big_quiet_op; first | go_big_quiet_on | (apply Exists.intro; refine ⟨fun w1 hC => ?_, ?_⟩; (focus (first | rfl | fail | (simp [(bcell hC).1, hlt, hlt', c0, d0]; done) | (simp [(bcell hC).1, hlt, hlt', c0, d0]; rfl))); go_big_quiet_on)))
      refine wpQuiet_nil ?_
      intro w2 hb2
      obtain ⟨hc2, hf2, hz2⟩ := bcell hb2
      go_wp2
      go_roundw
      case rel => exact ⟨k + 1, by omega, by go_num, hb.trans (hb2.mono hz)⟩
      case measure => simp [intOf]; omega
    · obtain rfl : k = n := by omega
      go_wp2
      go_ret
      exact ⟨rfl, hb⟩
set_option maxHeartbeats 1000000 in
theorem has_mem (A : Option Addr) (n c : Nat) (l : List Int) (v : Int) (w : World) (hl : RdL intC 1 w w.heap.size A n c l) (hv : v ∈ l) :
    Calls Tryd.prog 29 #[.slice A n c, .int .i64 v] w fun e w' => e = .returned (.bool true) ∧ Below w.heap.size w w' := by
  have hn := hl.le
  have hln := Lib.hid hl.1
  obtain ⟨j, hj⟩ := List.mem_iff_getElem?.1 hv
  have HJ := Lib.hid hj
  have hjl : j < n := by have := (List.getElem?_eq_some_iff.1 hj).1; have := hln.out; omega
  have HL := Lib.hid hl
  clear hl hv hj
  go_enter Tryd.func29, Tryd.ntmps29
  go_wp2_with fail
  go_loopw [5] (fun i wr => ∃ k : Nat, k ≤ j ∧ i = .int .i64 k ∧ Below w.heap.size w wr) (fun i _ => n - (intOf i).toNat)
  case atStart => exact ⟨0, by omega, rfl, Below.refl _ _⟩
  case round =>
    obtain ⟨k, hk, rfl, hb⟩ := hrel
    have hz := hb.size
    have hkn : k < n := by omega
    obtain ⟨b, off, p, rfl, hb1, hp, c0⟩ := intC_cells (HL.out.below hb (Nat.le_refl _)) hkn
    have hlt : b < wr.heap.size := by omega
    by_cases hpv : p = v
    · subst hpv
      clear hp
      go_wp2_with fail
      go_ret
      exact ⟨rfl, hb⟩
    · have hkj : k ≠ j := fun e => hpv (by subst e; rw [HJ.out] at hp; injection hp with h; exact h.symm)
      have hpb : (p == v) = false := by simpa using hpv
      clear hp
      go_wp2_with fail
      go_roundw
      case rel => exact ⟨k + 1, by omega, by go_num, hb⟩
      case measure => simp [intOf]; omega
end Go.Proofs.YteaggbbimhpolaaDoor
