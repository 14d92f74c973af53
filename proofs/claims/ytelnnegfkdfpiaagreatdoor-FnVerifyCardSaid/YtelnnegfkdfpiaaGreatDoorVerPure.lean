/- What the verification of a header computes, in plain Lean: the validators of a commit, power, the code. -/
import Derived.Test.YtelnnegfkdfpiaaGreatDoorSortI
import Derived.Test.YtelnnegfkdfpiaaGreatDoorAnchor
import Derived.Test.YtelnnegfkdfpiaaGreatDoorFamCSig
import Derived.Test.YtelnnegfkdfpiaaGreatDoorA
import Derived.WalkKit
import Derived.WalkSpells
import Derived.WalkLawsBesides
import Derived.Lib.Hide
namespace Go.Proofs.YtelnnegfkdfpiaaGreatDoor
open Go.RowKit

structure ComD where
  h : Int
  r : Int
  id : ByteArray
def cvV (p : ComD) (v : Int) : VoteD := ⟨p.h, p.r, 2, p.id, v⟩
def cvB (p : ComD) (x : CSigD) : Bool := signedB (cvV p x.v) x.sig
def cvR (p : ComD) (l : List CSigD) (k : Nat) : List Int := ((l.take k).filter (cvB p)).map fun x => x.v
def cvL (p : ComD) (l : List CSigD) : List Int := if 12 < l.length then [] else Lib.compact (sortI (cvR p l l.length))
def csB (p : ComD) (l : List CSigD) (v : Int) (k : Nat) : Bool := (l.take k).any fun x => x.v == v && signedB (cvV p v) x.sig
def csS (p : ComD) (l : List CSigD) (V : Nat) : List Int := ((List.range V).filter fun (v : Nat) => csB p l ((v : Int) + 1) l.length).map fun (v : Nat) => (v : Int) + 1
theorem cvR_len (p : ComD) (l : List CSigD) (k : Nat) : (cvR p l k).length ≤ k := by
  unfold cvR
  rw [List.length_map]
  have h1 := List.length_filter_le (cvB p) (l.take k)
  have h2 := List.length_take_le k l
  omega
theorem cvR_next {p : ComD} {l : List CSigD} {k : Nat} {x : CSigD} (h : l[k]? = some x) : cvR p l (k + 1) = cvR p l k ++ if cvB p x = true then [x.v] else [] := by
  unfold cvR
  rw [take_next' h, List.filter_append, List.map_append]
  congr 1
  by_cases h : cvB p x = true <;> simp [h]
theorem csB_zero (p : ComD) (l : List CSigD) (v : Int) : csB p l v 0 = false := by simp [csB]
theorem csB_succ {p : ComD} {l : List CSigD} {v : Int} {k : Nat} {x : CSigD} (h : l[k]? = some x) : csB p l v (k + 1) = (csB p l v k || (x.v == v && signedB (cvV p v) x.sig)) := by
  unfold csB
  rw [take_next' h, List.any_append]
  simp
theorem csS_len (p : ComD) (l : List CSigD) (V : Nat) : (csS p l V).length ≤ V := by
  unfold csS
  rw [List.length_map]
  have := List.length_filter_le (fun (v : Nat) => csB p l ((v : Int) + 1) l.length) (List.range V)
  rw [List.length_range] at this
  exact this
theorem csS_succ (p : ComD) (l : List CSigD) (V : Nat) : csS p l (V + 1) = csS p l V ++ if csB p l ((V : Int) + 1) l.length = true then [(V : Int) + 1] else [] := by
  unfold csS
  rw [List.range_succ, List.filter_append, List.map_append]
  congr 1
  by_cases h : csB p l ((V : Int) + 1) l.length = true <;> simp [h]
theorem signed_valC {p : VoteD} {s : ByteArray} (h : signedB p s = true) : 1 ≤ p.v ∧ p.v ≤ 99 := by
  simp only [signedB, voteOkB, voteB, Bool.and_eq_true, inB_iff] at h
  exact h.1.2
theorem cv_eq (p : ComD) (l : List CSigD) : Lib.compact (sortI (cvR p l l.length)) = csS p l 99 := by
  have hl := sortI_len (cvR p l l.length)
  obtain ⟨h1, h2, h3⟩ := compact_spec (sortI (cvR p l l.length)) (sortI_sorted _) (sortI (cvR p l l.length)).length (Nat.le_refl _)
  have mem : ∀ x, x ∈ sortI (cvR p l l.length) ↔ x ∈ cvR p l l.length := fun x => by unfold sortI; exact List.mem_mergeSort
  refine strict_eq _ _ h1 ?_ fun x => ?_
  · unfold csS
    rw [List.pairwise_map]
    refine List.Pairwise.imp_of_mem ?_ ((List.pairwise_lt_range (n := 99)).filter _)
    intro a b _ _ hab
    omega
  · have e1 : x ∈ Lib.compactUpTo (sortI (cvR p l l.length)).toArray (sortI (cvR p l l.length)).length ↔ x ∈ cvR p l l.length := by
      rw [← mem x]
      constructor
      · intro hx
        obtain ⟨j, hj, rfl⟩ := h2 x hx
        simp [hj]
      · intro hx
        obtain ⟨j, hj⟩ := List.mem_iff_getElem?.1 hx
        obtain ⟨hlt, he⟩ := List.getElem?_eq_some_iff.1 hj
        have := h3 j hlt
        simpa [hlt, he] using this
    refine Iff.trans (show x ∈ Lib.compact (sortI (cvR p l l.length)) ↔ x ∈ cvR p l l.length from e1) ?_
    unfold cvR csS csB cvB
    simp only [List.take_length, List.mem_map, List.mem_filter, List.mem_range, List.any_eq_true, Bool.and_eq_true, beq_iff_eq]
    constructor
    · rintro ⟨a, ⟨ha, hb⟩, rfl⟩
      have := signed_valC hb
      have e : (((a.v - 1).toNat : Nat) : Int) + 1 = a.v := by simp only [cvV] at this; omega
      exact ⟨(a.v - 1).toNat, ⟨by simp only [cvV] at this; omega, a, ha, by rw [e], by rw [e]; exact hb⟩, e⟩
    · rintro ⟨v, ⟨hv, a, ha, e, hb⟩, rfl⟩
      exact ⟨a, ⟨ha, by rw [e]; exact hb⟩, e⟩
theorem cv_spec {p : ComD} {l : List CSigD} (h : ¬ 12 < l.length) : cvL p l = csS p l 99 := by unfold cvL; rw [if_neg h]; exact cv_eq p l
theorem cv_many {p : ComD} {l : List CSigD} (h : 12 < l.length) : cvL p l = [] := by unfold cvL; rw [if_pos h]
theorem cv_few {p : ComD} {l : List CSigD} (h : ¬ 12 < l.length) : cvL p l = Lib.compact (sortI (cvR p l l.length)) := by unfold cvL; rw [if_neg h]

/-- power -/
def sumP (f : Int → Bool) : List ValD → Int
  | [] => 0
  | x :: l => (if f x.id = true then x.pw else 0) + sumP f l
def sumK (f : Int → Bool) (l : List ValD) (k : Nat) : Int := sumP f (l.take k)
theorem sumP_app (f : Int → Bool) (l1 l2 : List ValD) : sumP f (l1 ++ l2) = sumP f l1 + sumP f l2 := by
  induction l1 with
  | nil => simp [sumP]
  | cons x l ih => simp only [List.cons_append, sumP, ih]; omega
theorem sumK_zero (f : Int → Bool) (l : List ValD) : sumK f l 0 = 0 := by simp [sumK, sumP]
theorem sumK_succ {f : Int → Bool} {l : List ValD} {k : Nat} {x : ValD} (h : l[k]? = some x) : sumK f l (k + 1) = sumK f l k + if f x.id = true then x.pw else 0 := by
  unfold sumK
  rw [take_next' h, sumP_app]
  simp [sumP]
theorem valsB_pw {l : List ValD} (h : valsB l = true) {k : Nat} {x : ValD} (hx : l[k]? = some x) : 1 ≤ x.pw ∧ x.pw ≤ 1000 := by
  simp only [valsB, Bool.and_eq_true] at h
  have hk : k < l.length := (List.getElem?_eq_some_iff.1 hx).1
  have h2 := allTo_getV h.1 hk hx
  simp only [okVal, Bool.and_eq_true, inB_iff] at h2
  exact h2.2.1
theorem sumK_bd {f : Int → Bool} {l : List ValD} (h : valsB l = true) : ∀ {k : Nat}, k ≤ l.length → 0 ≤ sumK f l k ∧ sumK f l k ≤ 1000 * k := by
  intro k
  induction k with
  | zero => intro _; rw [sumK_zero]; omega
  | succ k ih =>
    intro hk
    have h1 := ih (by omega)
    obtain ⟨x, hx⟩ : ∃ x, l[k]? = some x := ⟨l[k], List.getElem?_eq_getElem (by omega)⟩
    have h2 := valsB_pw h hx
    rw [sumK_succ hx]
    split <;> omega
def powL (l : List ValD) : Int := if valsB l = true then sumP (fun _ => true) l else 0
def enoughB (l : List ValD) (ids : List Int) : Bool := valsB l && decide (2 * powL l < 3 * sumP (hasI ids) l)
theorem sumP_bd {f : Int → Bool} {l : List ValD} (h : valsB l = true) : 0 ≤ sumP f l ∧ sumP f l ≤ 7000 := by
  have h1 := sumK_bd (f := f) h (Nat.le_refl _)
  have h2 := valsB_len h
  unfold sumK at h1
  rw [List.take_length] at h1
  omega
theorem powL_bd (l : List ValD) : 0 ≤ powL l ∧ powL l ≤ 7000 := by
  unfold powL
  split
  · rename_i h; exact sumP_bd h
  · omega
theorem enough_bad {l : List ValD} {ids : List Int} (h : valsB l = false) : enoughB l ids = false := by unfold enoughB; rw [h]; rfl
theorem enough_ok {l : List ValD} {ids : List Int} (h : valsB l = true) : enoughB l ids = decide (2 * powL l < 3 * sumP (hasI ids) l) := by unfold enoughB; rw [h]; rfl
theorem sumK_all (f : Int → Bool) (l : List ValD) : sumK f l l.length = sumP f l := by unfold sumK; rw [List.take_length]
theorem powL_ok {l : List ValD} (h : valsB l = true) : powL l = sumP (fun _ => true) l := by unfold powL; rw [if_pos h]
theorem powL_bad {l : List ValD} (h : valsB l = false) : powL l = 0 := by unfold powL; rw [h]; rfl

/-- a commit of a header by validators -/
def comB (l : List ValD) (h : HeaderD) (p : ComD) (sg : List CSigD) : Bool :=
  valsB l && (hdrB h && (p.h == h.h && (p.id.toList == (headIdB h).toList && ((valsHashB l).toList == h.vals.toList && enoughB l (cvL p sg)))))

/-- the code -/
def verN (per sl : Int) (a : HeaderD) (al : List ValD) (h : HeaderD) (nl : List ValD) (p : ComD) (sg : List CSigD) (now : Int) : Int :=
  if (trustB per sl && (anchorB a al && (hdrB h && inB now 0 1000000))) = false then 1
  else if a.t + per < now then 2
  else if now + sl < h.t then 3
  else if (h.h == a.h + 1) = false then 4
  else if h.t ≤ a.t then 5
  else if (h.last.toList == (headIdB a).toList) = false then 6
  else if (h.vals.toList == a.next.toList) = false then 7
  else if (h.next.toList == (valsHashB nl).toList) = false then 8
  else if comB al h p sg = false then 9 else 0
end Go.Proofs.YtelnnegfkdfpiaaGreatDoor
