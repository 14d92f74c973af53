/- slices.Contains and slices.Index at []int. -/
import Derived.Test.YtelnnegfkdfpiaaGreatDoorM
import Derived.Laws.AppendOwn
import Derived.OwnWalk
import Derived.Deep.AppendLies
import Derived.WalkKit
import Derived.WalkSpells
import Derived.WalkLawsBesides
import Derived.Lib.Hide
namespace Go.Proofs.YtelnnegfkdfpiaaGreatDoor
open Go.RowKit

def intC (x : Int) : List Value := [.int .i64 x]
theorem intC_len (x : Int) : (intC x).length = 1 := rfl
theorem int_cells {w : World} {B : Nat} {A : Option Addr} {n c : Nat} {l : List Int} (h : RdL intC 1 w B A n c l) {k : Nat} (hk : k < n) :
    ∃ b off x, A = some ⟨b, off, none⟩ ∧ b < B ∧ l[k]? = some x ∧ w.cell? ⟨b, off + k, none⟩ = some (.int .i64 x) := by
  obtain ⟨b, off, p, e, hb, hp, hc⟩ := h.at_ intC_len hk
  exact ⟨b, off, p, e, hb, hp, by have := hc 0 (by omega); simpa [intC] using this⟩
def hasI (l : List Int) (x : Int) : Bool := l.any (fun y => x == y)
theorem noneTo_hasI {l : List Int} {x : Int} : noneTo (fun y => x == y) l l.length = !(hasI l x) := by
  unfold noneTo hasI
  rw [List.take_length]
  induction l with
  | nil => rfl
  | cons y l ih => simp [ih]
theorem firstBy_hasI (l : List Int) (x : Int) : decide (0 ≤ firstBy (fun y => x == y) l) = hasI l x := by
  cases h : hasI l x
  · have e : firstBy (fun y => x == y) l = -1 := firstBy_miss (by rw [noneTo_hasI, h]; rfl)
    rw [e]; rfl
  · unfold hasI at h
    have : (l.findIdx? (fun y => x == y)).isSome = true := by rw [List.findIdx?_isSome]; exact h
    unfold firstBy
    cases hf : l.findIdx? (fun y => x == y) with
    | none => rw [hf] at this; cases this
    | some i => simp

theorem one_new (w : World) (u : Value) (t : TypeId) : ∀ (j : Nat) (x : Value), [u][j]? = some x → (w.alloc (Obj.cells #[u] t)).cell? ((⟨w.heap.size, 0, none⟩ : Addr).add j) = some x := by
  intro j x hj
  have h0 : j = 0 := by
    rcases Nat.eq_zero_or_pos j with h | h
    · exact h
    · rw [List.getElem?_eq_none (by simp; omega)] at hj; cases hj
  subst h0
  simp only [List.getElem?_cons_zero, Option.some.injEq] at hj
  subst hj
  simp [Addr.add]
theorem one_cell (u : Value) (h : u.oneCell' = true) : ∀ x ∈ [u], x.oneCell' = true := by
  intro x hx; simp only [List.mem_singleton] at hx; subst hx; exact h
theorem infoInt : (Tryz.prog.info? 3).map (fun i => (i.zero, i.size, i.bytes)) = some (some (.int .i64 0), 1, 8) := by kernel_rfl

set_option maxHeartbeats 400000 in
theorem IndexInt_any (A : Option Addr) (n c : Nat) (l : List Int) (x : Int) (w : World) (hl : RdL intC 1 w w.heap.size A n c l) :
    Calls Tryz.prog 113 #[.slice A n c, .int .i64 x] w fun e w' => e = .returned (.int .i64 (firstBy (fun y => x == y) l)) ∧ Below w.heap.size w w' := by
  have hn := hl.le
  have HL := Lib.hid hl
  have H0 := Lib.hid hl.1
  clear hl
  go_enter Tryz.func113, Tryz.ntmps113
  go_wp2_with fail
  go_loop [8] (fun i => ∃ k : Nat, k ≤ n ∧ i = .int .i64 k ∧ noneTo (fun y => x == y) l k = true) (fun i => n - (intOf i).toNat)
  case atStart => exact ⟨0, by omega, rfl, noneTo_zero _ _⟩
  case round =>
    obtain ⟨k, hk, rfl, hno⟩ := hrel
    have HN := Lib.hid hno; clear hno
    by_cases hkn : k < n
    · obtain ⟨b, off, p, rfl, hb1, hp, c0⟩ := int_cells HL.out hkn
      have HP := Lib.hid hp; clear hp
      cases ht : (x == p)
      · have HT := Lib.hid ht
        go_wp2
        go_round
        case rel => exact ⟨k + 1, by omega, by go_num, noneTo_succ HP.out HN.out HT.out⟩
        case measure => simp [intOf]; omega
      · have HT := Lib.hid ht
        go_wp2
        go_ret
        exact ⟨by rw [show firstBy (fun y => x == y) l = k from firstBy_hit HP.out HN.out HT.out]; rfl, Below.refl _ _⟩
    · obtain rfl : k = n := by omega
      go_wp2
      go_ret
      exact ⟨by rw [show firstBy (fun y => x == y) l = -1 from firstBy_miss (by rw [H0.out]; exact HN.out)]; rfl, Below.refl _ _⟩
theorem ContainsInt_any (A : Option Addr) (n c : Nat) (l : List Int) (x : Int) (w : World) (hl : RdL intC 1 w w.heap.size A n c l) :
    Calls Tryz.prog 104 #[.slice A n c, .int .i64 x] w fun e w' => e = .returned (.bool (hasI l x)) ∧ Below w.heap.size w w' := by
  have HL := Lib.hid hl
  have HF := Lib.hid (firstBy_hasI l x)
  clear hl
  go_enter Tryz.func104, Tryz.ntmps104
  go_wp2_with (go_at_call 113; (with_reducible refine (IndexInt_any _ _ _ l x _ (by exact HL.out)).mono ?_); rintro e w1 ⟨rfl, hb⟩)
  go_ret
  exact ⟨by rw [← HF.out]; rfl, (by repeat (first | exact Below.refl _ _ | assumption | refine Below.drew ?_ | refine belN ?_ _ | refine Below.alloc ?_ (by first | exact Nat.le_refl _ | (simp; done) | (simp; omega) | omega) _ | refine Below.setCell ?_ (by first | exact Nat.le_refl _ | (simp; done) | (simp; omega) | omega) _ | refine Below.trans ?_ (Below.mono (by assumption) (by first | exact Nat.le_refl _ | (simp; done) | (simp; omega) | omega))))⟩
end Go.Proofs.YtelnnegfkdfpiaaGreatDoor
