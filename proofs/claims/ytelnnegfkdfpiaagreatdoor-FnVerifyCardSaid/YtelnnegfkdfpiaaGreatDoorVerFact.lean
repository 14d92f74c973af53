/- The code of a verification, one step after the other. -/
import Derived.Test.YtelnnegfkdfpiaaGreatDoorVerPure
import Derived.WalkKit
import Derived.WalkSpells
import Derived.WalkLawsBesides
import Derived.Lib.Hide
namespace Go.Proofs.YtelnnegfkdfpiaaGreatDoor
open Go.RowKit

section
variable {per sl now : Int} {a h : HeaderD} {al nl : List ValD} {p : ComD} {sg : List CSigD}
def verG (per sl : Int) (a : HeaderD) (al : List ValD) (h : HeaderD) (now : Int) : Bool := trustB per sl && (anchorB a al && (hdrB h && inB now 0 1000000))
theorem anchorB_hdr {a : HeaderD} {al : List ValD} (h : anchorB a al = true) : hdrB a = true := by
  unfold anchorB at h
  rw [Bool.and_eq_true] at h
  exact h.1
theorem hdrB_bd {a : HeaderD} (h : hdrB a = true) : 1 ≤ a.h ∧ a.h ≤ 1000000 ∧ 0 ≤ a.t ∧ a.t ≤ 1000000 ∧ (a.next.size : Int) = 8 := by
  simp only [hdrB, Bool.and_eq_true, inB_iff, beq_iff_eq] at h
  exact ⟨h.1.1.1.1.1.1, h.1.1.1.1.1.2, h.1.1.1.1.2.1, h.1.1.1.1.2.2, h.1.1.2⟩
theorem ver1 (g : verG per sl a al h now = false) : verN per sl a al h nl p sg now = 1 := by
  unfold verG at g
  unfold verN
  rw [if_pos g]
theorem ver2 (g : verG per sl a al h now = true) (g2 : a.t + per < now) : verN per sl a al h nl p sg now = 2 := by
  unfold verG at g
  unfold verN
  rw [if_neg (by rw [g]; decide), if_pos g2]
theorem ver3 (g : verG per sl a al h now = true) (g2 : ¬ a.t + per < now) (g3 : now + sl < h.t) : verN per sl a al h nl p sg now = 3 := by
  unfold verG at g
  unfold verN
  rw [if_neg (by rw [g]; decide), if_neg g2, if_pos g3]
theorem ver4 (g : verG per sl a al h now = true) (g2 : ¬ a.t + per < now) (g3 : ¬ now + sl < h.t) (g4 : ¬ h.h = a.h + 1) : verN per sl a al h nl p sg now = 4 := by
  unfold verG at g
  unfold verN
  rw [if_neg (by rw [g]; decide), if_neg g2, if_neg g3, if_pos (by rw [beq_eq_false_iff_ne]; exact g4)]
theorem ver5 (g : verG per sl a al h now = true) (g2 : ¬ a.t + per < now) (g3 : ¬ now + sl < h.t) (g4 : h.h = a.h + 1) (g5 : h.t ≤ a.t) : verN per sl a al h nl p sg now = 5 := by
  unfold verG at g
  unfold verN
  rw [if_neg (by rw [g]; decide), if_neg g2, if_neg g3, if_neg (by rw [g4]; simp), if_pos g5]
theorem ver6 (g : verG per sl a al h now = true) (g2 : ¬ a.t + per < now) (g3 : ¬ now + sl < h.t) (g4 : h.h = a.h + 1) (g5 : ¬ h.t ≤ a.t) (g6 : (h.last.toList == (headIdB a).toList) = false) : verN per sl a al h nl p sg now = 6 := by
  unfold verG at g
  unfold verN
  rw [if_neg (by rw [g]; decide), if_neg g2, if_neg g3, if_neg (by rw [g4]; simp), if_neg g5, if_pos g6]
theorem ver7 (g : verG per sl a al h now = true) (g2 : ¬ a.t + per < now) (g3 : ¬ now + sl < h.t) (g4 : h.h = a.h + 1) (g5 : ¬ h.t ≤ a.t) (g6 : (h.last.toList == (headIdB a).toList) = true) (g7 : (h.vals.toList == a.next.toList) = false) : verN per sl a al h nl p sg now = 7 := by
  unfold verG at g
  unfold verN
  rw [if_neg (by rw [g]; decide), if_neg g2, if_neg g3, if_neg (by rw [g4]; simp), if_neg g5, if_neg (by rw [g6]; decide), if_pos g7]
theorem ver8 (g : verG per sl a al h now = true) (g2 : ¬ a.t + per < now) (g3 : ¬ now + sl < h.t) (g4 : h.h = a.h + 1) (g5 : ¬ h.t ≤ a.t) (g6 : (h.last.toList == (headIdB a).toList) = true) (g7 : (h.vals.toList == a.next.toList) = true)
    (g8 : (h.next.toList == (valsHashB nl).toList) = false) : verN per sl a al h nl p sg now = 8 := by
  unfold verG at g
  unfold verN
  rw [if_neg (by rw [g]; decide), if_neg g2, if_neg g3, if_neg (by rw [g4]; simp), if_neg g5, if_neg (by rw [g6]; decide), if_neg (by rw [g7]; decide), if_pos g8]
theorem ver9 (g : verG per sl a al h now = true) (g2 : ¬ a.t + per < now) (g3 : ¬ now + sl < h.t) (g4 : h.h = a.h + 1) (g5 : ¬ h.t ≤ a.t) (g6 : (h.last.toList == (headIdB a).toList) = true) (g7 : (h.vals.toList == a.next.toList) = true)
    (g8 : (h.next.toList == (valsHashB nl).toList) = true) : verN per sl a al h nl p sg now = if comB al h p sg = false then 9 else 0 := by
  unfold verG at g
  unfold verN
  rw [if_neg (by rw [g]; decide), if_neg g2, if_neg g3, if_neg (by rw [g4]; simp), if_neg g5, if_neg (by rw [g6]; decide), if_neg (by rw [g7]; decide), if_neg (by rw [g8]; decide)]
/-- whoever is no set of validators has no hash of eight bytes -/
theorem next_bad (h1 : hdrB h = true) (hv : valsB nl = false) : (h.next.toList == (valsHashB nl).toList) = false := by
  have h8 := (hdrB_bd h1).2.2.2.2
  rw [beq_eq_false_iff_ne]
  intro e
  have hl := congrArg List.length e
  have e1 : valsHashB nl = ⟨#[]⟩ := by unfold valsHashB; rw [hv]; rfl
  rw [e1] at hl
  rw [ByteArray.toList_eq, ByteArray.toList_eq, ← size_list, ← size_list] at hl
  have e3 : (⟨#[]⟩ : ByteArray).size = 0 := rfl
  omega
end
end Go.Proofs.YtelnnegfkdfpiaaGreatDoor
