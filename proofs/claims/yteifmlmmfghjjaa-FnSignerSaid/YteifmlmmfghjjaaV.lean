/- Var: numbers in bytes of seven bits. -/
import Derived.Test.YteifmlmmfghjjaaW2
import Derived.Laws.AppendOwn
import Derived.OwnWalk
import Derived.Deep.AppendLies
import Derived.WalkKit
import Derived.WalkSpells
import Derived.WalkLawsBesides
import Derived.Lib.Hide
namespace Go.Proofs.Yteifmlmmfghjjaa
open Go.RowKit

def varAux : Nat → Int → List UInt8
  | 0, n => [UInt8.ofNat n.toNat]
  | f + 1, n => if n ≤ 127 then [UInt8.ofNat n.toNat] else UInt8.ofNat (n % 128 + 128).toNat :: varAux f (n / 128)
def varL (n : Int) : List UInt8 := if inB n 0 562949953421311 = true then varAux 6 n else []
theorem varAux_last (f : Nat) (n : Int) (h : n ≤ 127) : varAux f n = [UInt8.ofNat n.toNat] := by cases f <;> simp [varAux, h]
theorem varAux_len (f : Nat) : ∀ n, (varAux f n).length ≤ f + 1 := by
  induction f with
  | zero => intro n; simp [varAux]
  | succ f ih => intro n; unfold varAux; split
                 · simp
                 · simp only [List.length_cons]; have := ih (n / 128); omega
theorem varL_len (n : Int) : (varL n).length ≤ 7 := by
  unfold varL; split
  · exact varAux_len 6 n
  · simp

def byteV (b : UInt8) : Value := .int .u8 b.toNat

theorem conv_own {w : World} {base : Nat} {v : Value} {l : List UInt8} (h : w.ownsRow base 5 1 v l.length (l.map byteV)) (h0 : 0 < l.length) :
    (convert 47 9 v).run Try.prog w = .ok (.string ⟨l.toArray⟩) w := by
  obtain ⟨g, cap, rfl, _, _⟩ := h.form h0
  refine run_convert_bytes_back (P := Try.prog) w 47 9 5 ⟨g, 0, none⟩ cap l Try.underlying47 Try.underlying5 Try.underlying9 (fun j hj => ?_)
  have e1 : (⟨g, 0, none⟩ : Addr).add j = ⟨g, j, none⟩ := by unfold Addr.add; split <;> simp_all
  rw [e1, h.cellAt j (by omega)]
  simp [byteV, List.getElem?_eq_getElem hj]
theorem i64_and127 (x : Int) (h₀ : 0 ≤ x) (h₁ : x < 2 ^ 63) : bits .and .i64 x 127 = x % 128 := bits_mask .i64 63 (by decide) wraps_i64 7 (by decide) x h₀ h₁
theorem i64_or128 (y : Int) (h₀ : 0 ≤ y) (h₁ : y < 128) : bits .or .i64 y 128 = y + 128 := by
  obtain ⟨n, rfl⟩ := Int.eq_ofNat_of_zero_le h₀
  have h := (bits_nat .i64 63 (by decide) wraps_i64 n 128 (by omega) (by decide)).2
  have e : n ||| 128 = n + 128 := by
    have h2 := Nat.two_pow_add_eq_or_of_lt (i := 7) (b := n) (by omega) 1
    rw [Nat.or_comm]
    simpa [Nat.add_comm] using h2.symm
  rw [e] at h
  simpa using h

theorem one_new (w : World) (u : Value) (t : TypeId) : ∀ (j : Nat) (x : Value), [u][j]? = some x → (w.alloc (Obj.cells #[u] t)).cell? ((⟨w.heap.size, 0, none⟩ : Addr).add j) = some x := by
  intro j x hj
  have h0 : j = 0 := by
    rcases Nat.eq_zero_or_pos j with h | h
    · exact h
    · rw [List.getElem?_eq_none (by simp; omega)] at hj; cases hj
  subst h0
  simp only [List.getElem?_cons_zero, Option.some.injEq] at hj
  subst hj
  simp [Addr.add]
theorem one_cell (u : Value) (h : u.oneCell' = true) : ∀ x ∈ [u], x.oneCell' = true := by
  intro x hx; simp only [List.mem_singleton] at hx; subst hx; exact h
def P128 (f : Nat) (m : Int) : Prop := m < 128 ^ (f + 1)

end Go.Proofs.Yteifmlmmfghjjaa
