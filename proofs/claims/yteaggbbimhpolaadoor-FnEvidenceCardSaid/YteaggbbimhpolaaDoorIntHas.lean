/- slices.Contains and slices.Index at []int. -/
import Derived.Test.YteaggbbimhpolaaDoorM
import Derived.Laws.AppendOwn
import Derived.OwnWalk
import Derived.Deep.AppendLies
import Derived.WalkKit
import Derived.WalkSpells
import Derived.WalkLawsBesides
import Derived.Lib.Hide
namespace Go.Proofs.YteaggbbimhpolaaDoor
open Go.RowKit

def intC (x : Int) : List Value := [.int .i64 x]
theorem intC_len (x : Int) : (intC x).length = 1 := rfl
theorem int_cells {w : World} {B : Nat} {A : Option Addr} {n c : Nat} {l : List Int} (h : RdL intC 1 w B A n c l) {k : Nat} (hk : k < n) :
    ∃ b off x, A = some ⟨b, off, none⟩ ∧ b < B ∧ l[k]? = some x ∧ w.cell? ⟨b, off + k, none⟩ = some (.int .i64 x) := by
  obtain ⟨b, off, p, e, hb, hp, hc⟩ := h.at_ intC_len hk
  exact ⟨b, off, p, e, hb, hp, by have := hc 0 (by omega); simpa [intC] using this⟩
def hasI (l : List Int) (x : Int) : Bool := l.any (fun y => x == y)
theorem noneTo_hasI {l : List Int} {x : Int} : noneTo (fun y => x == y) l l.length = !(hasI l x) := by
  unfold noneTo hasI
  rw [List.take_length]
  induction l with
  | nil => rfl
  | cons y l ih => simp [ih]
theorem firstBy_hasI (l : List Int) (x : Int) : decide (0 ≤ firstBy (fun y => x == y) l) = hasI l x := by
  cases h : hasI l x
  · have e : firstBy (fun y => x == y) l = -1 := firstBy_miss (by rw [noneTo_hasI, h]; rfl)
    rw [e]; rfl
  · unfold hasI at h
    have : (l.findIdx? (fun y => x == y)).isSome = true := by rw [List.findIdx?_isSome]; exact h
    unfold firstBy
    cases hf : l.findIdx? (fun y => x == y) with
    | none => rw [hf] at this; cases this
    | some i => simp

theorem one_new (w : World) (u : Value) (t : TypeId) : ∀ (j : Nat) (x : Value), [u][j]? = some x → (w.alloc (Obj.cells #[u] t)).cell? ((⟨w.heap.size, 0, none⟩ : Addr).add j) = some x := by
  intro j x hj
  have h0 : j = 0 := by
    rcases Nat.eq_zero_or_pos j with h | h
    · exact h
    · rw [List.getElem?_eq_none (by simp; omega)] at hj; cases hj
  subst h0
  simp only [List.getElem?_cons_zero, Option.some.injEq] at hj
  subst hj
  simp [Addr.add]
theorem one_cell (u : Value) (h : u.oneCell' = true) : ∀ x ∈ [u], x.oneCell' = true := by
  intro x hx; simp only [List.mem_singleton] at hx; subst hx; exact h
theorem infoInt : (Tryd.prog.info? 3).map (fun i => (i.zero, i.size, i.bytes)) = some (some (.int .i64 0), 1, 8) := by kernel_rfl

end Go.Proofs.YteaggbbimhpolaaDoor
