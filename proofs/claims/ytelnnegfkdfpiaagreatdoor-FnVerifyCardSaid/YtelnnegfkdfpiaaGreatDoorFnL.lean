/- The frame of a law over a code: opening the code. -/
import Derived.Test.YtelnnegfkdfpiaaGreatDoorDraw
import Derived.Test.YtelnnegfkdfpiaaGreatDoorL
namespace Go.Proofs.YtelnnegfkdfpiaaGreatDoor
open Go.ChangeShapes Go.WideShapes Go.ChangeAt Go.RowKit Go.Joins

theorem big_any (A : Option Addr) (n c : Nat) (w : World) : Calls Tryz.prog 5 #[.slice A n c] w fun e w' => e = .returned (.bool (decide ((1048576 : Int) < n))) ∧ w = w' := by
  go_enter Tryz.func5, Tryz.ntmps5
  go_wp2
  go_ret
  exact ⟨rfl, rfl⟩

theorem field_oct {P : Program} {H : Type} {enc : TypeId × Value → H} {w : World} {base : Nat} {spare : Nat → Bool} {held : Bool} {n : Nat} {t : TypeId} {v : Value} {y : DataW H × List MemPlace} (ht : P.underlying t = some (.int .u8)) (h : DataW.trod enc P w base spare held n t [v] = some y) :
    ∃ x : UInt8, v = .int .u8 (x.toNat : Int) := by
  obtain ⟨a, e, _, hw⟩ := DataW.trod_int ht h
  simp only [List.cons.injEq, and_true] at e
  simp only [Lit.wf, Bool.and_eq_true, decide_eq_true_eq] at hw
  have h1 : IntKind.min .u8 = 0 := by decide
  have h2 : IntKind.max .u8 = 255 := by decide
  refine ⟨UInt8.ofNat a.toNat, ?_⟩
  rw [e]
  have : (UInt8.ofNat a.toNat).toNat = a.toNat := by simp; omega
  rw [this]
  congr 1
  omega
theorem octs_el {H : Type} {enc : TypeId × Value → H} {w : World} {n : Nat} {cs : List Value} {y : DataW H × List MemPlace} (h : DataW.trod enc Tryz.prog w 0 (fun _ => true) true n 5 cs = some y) : ∃ x, cs = octC x := by
  obtain ⟨a, e, _, hw⟩ := DataW.trod_int Tryz.underlying5 h
  subst e
  obtain ⟨x, hx⟩ := field_oct Tryz.underlying5 h
  exact ⟨x, by unfold octC; rw [hx]⟩

set_option maxRecDepth 100000 in
theorem open_code {H : Type} {enc : TypeId × Value → H} {w : World} {r : Reach} {b0 : Nat} {v : Value} {d : DataW H} {p : List MemPlace} (hv : Value.okWide Tryz.prog w r b0 22 v)
    (h : DataW.Trod enc Tryz.prog w 0 (fun _ => true) true 22 v d p) : ∃ A n c, v = .slice A n c ∧ ∃ l : List UInt8, RdL octC 1 w w.heap.size A n c l := by
  obtain ⟨a0, len, cap, rfl⟩ := okWide_slice Tryz.underlying22 hv
  obtain ⟨fuel, hf⟩ := h
  exact open_list Tryz.underlying22 (by kernel_rfl) (by decide) octC_len (fun cs y n h => octs_el h) hf
end Go.Proofs.YtelnnegfkdfpiaaGreatDoor
