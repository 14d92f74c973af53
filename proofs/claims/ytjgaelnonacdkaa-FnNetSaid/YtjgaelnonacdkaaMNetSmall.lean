/- What the walks of the laws want of a net's size. -/
import Derived.WalkKit
import Derived.WalkSpells
import Derived.WalkLawsBesides
import Derived.Lib.Hide
import Derived.Test.YtjgaelnonacdkaaMNetPlayS
import Derived.Test.YtjgaelnonacdkaaMNet2
namespace Go.Proofs.Ytjgaelnonacdkaa
open Go.RowKit

theorem szND_leB : ∀ ln : List NodeD, (∀ x ∈ ln, x.l.length ≤ 90) → szND ln ≤ 459 * ln.length
  | [], _ => by simp [szND]
  | x :: ln, h => by
    have h1 := szND_leB ln fun y hy => h y (List.mem_cons_of_mem _ hy)
    have h2 := h x (List.mem_cons_self ..)
    unfold szND at h1 ⊢
    rw [List.map_cons, List.sum_cons, List.length_cons]
    omega
theorem netB_small {ln : List NodeD} {lp : List NMsgD} (h : netB ln lp = true) : szND ln ≤ 1000000 ∧ ln.length ≤ 3 ∧ lp.length ≤ 150 ∧ ∀ x ∈ ln, x.l.length ≤ 1048576 := by
  obtain ⟨h3, hpk, hp150, hnodes⟩ := netB_iff.1 h
  have hm : ∀ x ∈ ln, x.l.length ≤ 90 := fun x hx => by
    obtain ⟨i, hi⟩ := List.mem_iff_getElem?.1 hx
    have := (hnodes i x hi).1.len
    omega
  have := szND_leB ln hm
  rw [h3] at this
  exact ⟨by omega, by omega, by omega, fun x hx => by have := hm x hx; omega⟩
theorem playN_small (l : List ActD) : szND (playN l).1.1 ≤ 1000000 ∧ (playN l).1.1.length ≤ 3 ∧ (playN l).1.2.length ≤ 150 ∧ ∀ x ∈ (playN l).1.1, x.l.length ≤ 1048576 := by
  unfold playN
  split
  · exact ⟨by decide, by decide, by decide, fun x hx => by cases hx⟩
  · exact netB_small (netI_play l).netB
theorem doN_small {ln : List NodeD} {lp : List NMsgD} (a : ActD) : szND (doN ln lp a).1 ≤ 1000000 ∧ (doN ln lp a).1.length ≤ 3 ∧ (doN ln lp a).2.1.length ≤ 150 ∧ ∀ x ∈ (doN ln lp a).1, x.l.length ≤ 1048576 := by
  unfold doN
  split
  · rename_i h
    exact netB_small (netDo_ok h a).1
  · exact ⟨by decide, by decide, by decide, fun x hx => by cases hx⟩
end Go.Proofs.Ytjgaelnonacdkaa
