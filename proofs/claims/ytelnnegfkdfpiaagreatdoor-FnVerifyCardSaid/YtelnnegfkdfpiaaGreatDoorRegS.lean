/- A region that draws its order, cut at an operation for which all that stands before is done and for which all that stands behind waits: a quiet stretch by its lexical order, then what is left. -/
import Derived.Test.YtelnnegfkdfpiaaGreatDoorReg
import Derived.Deep.Quiet
import Derived.WalkKit
import Derived.WalkSpells
import Derived.WalkLawsBesides
import Derived.Lib.Hide
namespace Go.Proofs.YtelnnegfkdfpiaaGreatDoor
open Go.RowKit

section
variable {P : Program}
def segB (L : List Oper) (m : Nat) : Bool :=
  (List.range L.length).all fun i => match L[i]? with
    | none => true
    | some o => if i < m then (o.after.all fun e => !(Region.binds .any e) || decide (e.on < i)) && (match o.guard with | some (j, _) => decide (j < i) | none => true) && (decide (i + 1 = m) || (List.range m).any fun j => match L[j]? with | some oj => oj.after.any fun e => e.on == i && Region.binds .any e | none => false)
        else o.after.any fun e => e.on + 1 == m && Region.binds .any e
structure SegOk (L : List Oper) (m : Nat) : Prop where
  back : ∀ (i : Nat) (o : Oper), i < m → L[i]? = some o → ∀ e ∈ o.after, Region.binds .any e = true → e.on < i
  guard : ∀ (i : Nat) (o : Oper), i < m → L[i]? = some o → ∀ (j : Nat) (b : Bool), o.guard = some (j, b) → j < i
  next : ∀ (i : Nat), i < m → i < L.length → i + 1 = m ∨ ∃ (j : Nat) (oj : Oper), j < m ∧ L[j]? = some oj ∧ ∃ e ∈ oj.after, e.on = i ∧ Region.binds .any e = true
  past : ∀ (i : Nat) (o : Oper), m ≤ i → L[i]? = some o → ∃ e ∈ o.after, e.on + 1 = m ∧ Region.binds .any e = true
theorem segB_ok {L : List Oper} {m : Nat} (h : segB L m = true) : SegOk L m := by
  unfold segB at h
  rw [List.all_eq_true] at h
  have key : ∀ (i : Nat) (o : Oper), L[i]? = some o → _ := fun i o ho => by
    have hi : i < L.length := (List.getElem?_eq_some_iff.1 ho).1
    have := h i (List.mem_range.2 hi)
    rw [ho] at this
    exact this
  refine ⟨fun i o hi ho e he hb => ?_, fun i o hi ho j b hg => ?_, fun i hi hil => ?_, fun i o hi ho => ?_⟩
  · have := key i o ho
    simp only [if_pos hi, Bool.and_eq_true] at this
    have h1 := this.1.1
    rw [Array.all_eq_true'] at h1
    have h2 := h1 e he
    rw [hb] at h2
    simpa using h2
  · have := key i o ho
    simp only [if_pos hi, Bool.and_eq_true] at this
    have h1 := this.1.2
    rw [hg] at h1
    simpa using h1
  · have := key i L[i] (List.getElem?_eq_getElem hil)
    simp only [if_pos hi, Bool.and_eq_true, Bool.or_eq_true, decide_eq_true_eq] at this
    rcases this.2 with h1 | h1
    · exact .inl h1
    · rw [List.any_eq_true] at h1
      obtain ⟨j, hj, h2⟩ := h1
      cases hoj : L[j]? with
      | none => rw [hoj] at h2; cases h2
      | some oj =>
        rw [hoj] at h2
        simp only [Array.any_eq_true'] at h2
        obtain ⟨e, he, h3⟩ := h2
        rw [Bool.and_eq_true, beq_iff_eq] at h3
        exact .inr ⟨j, oj, List.mem_range.1 hj, hoj, e, he, h3.1, h3.2⟩
  · have := key i o ho
    simp only [if_neg (Nat.not_lt.2 hi)] at this
    rw [Array.any_eq_true'] at this
    obtain ⟨e, he, h3⟩ := this
    rw [Bool.and_eq_true, beq_iff_eq] at h3
    exact ⟨e, he, h3.1, h3.2⟩

theorem seg_all {L : List Oper} {m : Nat} (ok : SegOk L m) (hm : m ≤ L.length) {S : Nat → Prop} (hc : ∀ (i : Nat) (o : Oper), S i → L[i]? = some o → ∀ e ∈ o.after, Region.binds .any e = true → S e.on) (hl : ∀ i, i + 1 = m → S i) :
    ∀ (k i : Nat), i + 1 + k = m → S i
  | 0, i, h => hl i (by omega)
  | k + 1, i, h => by
    rcases ok.next i (by omega) (by omega) with h1 | ⟨j, oj, hj, hoj, e, he, h1, h2⟩
    · exact hl i h1
    · have hij := ok.back j oj hj hoj e he h2
      have := seg_all ok hm hc hl (m - (j + 1)) j (by omega)
      have := hc j oj this hoj e he h2
      rw [h1] at this
      exact this
termination_by k => k
decreasing_by omega

theorem wpAny_split {C : World → Prop} {Qm : Act → Prop} {Q : Exit → Act → World → Prop} {L : List Oper} {m : Nat} (ok : SegOk L m) (hm : m ≤ L.length)
    (hK : ∀ a w, C w → Qm a → wpAny P .any L.toArray Q (L.length - m) (marksOf (List.range m) L.length) a w) :
    ∀ (fuel : Nat) (S : List Nat) (l1 l2 : Array Bool) (a : Act) (w : World), C w → S.Nodup → (∀ i ∈ S, i < m) → S.length + fuel = m → (∀ i, l1[i]? = if i < m then some (decide (i ∈ S)) else none) →
      (∀ i, l2[i]? = if i < L.length then some (decide (i ∈ S)) else none) → (∀ (i : Nat) (o : Oper), i ∈ S → L[i]? = some o → ∀ e ∈ o.after, Region.binds .any e = true → e.on ∈ S) →
      wpAnyQ P .any (L.take m).toArray C Qm fuel l1 a → wpAny P .any L.toArray Q (fuel + (L.length - m)) l2 a w := by
  have take_at : ∀ i, i < m → (L.take m).toArray[i]? = L[i]? := fun i hi => by rw [List.getElem?_toArray, List.getElem?_take, if_pos hi]
  have arr_at : ∀ i : Nat, L.toArray[i]? = L[i]? := fun i => List.getElem?_toArray ..
  intro fuel
  induction fuel with
  | zero =>
    intro S l1 l2 a w hC hS hlt hlen h1 h2 hcl h
    have hall : ∀ i, i < m → i ∈ S := by
      intro i hi
      by_cases hn : i ∈ S
      · exact hn
      · have h3 := nodup_sub (i :: S) (List.range m) (List.nodup_cons.2 ⟨hn, hS⟩) fun x hx => by
          simp only [List.mem_cons] at hx
          rcases hx with rfl | hx
          · exact List.mem_range.2 hi
          · exact List.mem_range.2 (hlt x hx)
        simp only [List.length_cons, List.length_range] at h3
        omega
    have hlis : l2 = marksOf (List.range m) L.length := by
      apply Array.ext_getElem?
      intro i
      rw [h2, marksOf_at]
      by_cases hi : i < L.length
      · rw [if_pos hi, if_pos hi]
        by_cases him : i < m
        · simp [hall i him, him]
        · have : i ∉ S := fun h => him (hlt i h)
          simp [this, him]
      · rw [if_neg hi, if_neg hi]
    rw [hlis, Nat.zero_add]
    exact hK a w hC h.2
  | succ fuel ih =>
    intro S l1 l2 a w hC hS hlt hlen h1 h2 hcl h
    have g1T : ∀ i, i < m → l1.getD i true = decide (i ∈ S) := fun i hi => by rw [Array.getD_eq_getD_getElem?, h1, if_pos hi]; rfl
    have g1F : ∀ i, i < m → l1.getD i false = decide (i ∈ S) := fun i hi => by rw [Array.getD_eq_getD_getElem?, h1, if_pos hi]; rfl
    have g2T : ∀ i, i < L.length → l2.getD i true = decide (i ∈ S) := fun i hi => by rw [Array.getD_eq_getD_getElem?, h2, if_pos hi]; rfl
    have g2F : ∀ i, i < L.length → l2.getD i false = decide (i ∈ S) := fun i hi => by rw [Array.getD_eq_getD_getElem?, h2, if_pos hi]; rfl
    obtain ⟨u, hum, hun⟩ : ∃ u, u < m ∧ u ∉ S := by
      rcases least_not (fun i => i ∈ S) m with hall | ⟨i, hi, hn, _⟩
      · have h3 := nodup_sub (List.range m) S List.nodup_range fun x hx => hall x (List.mem_range.1 hx)
        rw [List.length_range] at h3
        omega
      · exact ⟨i, hi, hn⟩
    have hlast : ∀ i, i + 1 = m → i ∉ S := fun i hi hin => by
      have := seg_all ok hm (S := fun j => j ∈ S) (fun j o hj => hcl j o hj) (fun j hj => by rw [show j = i by omega]; exact hin) (m - (u + 1)) u (by omega)
      exact hun this
    have hstep : ∀ i ∈ Region.ready .any L.toArray l2, wpOp P L.toArray Q i (wpAny P .any L.toArray Q (fuel + (L.length - m)) (l2.setIfInBounds i true)) a w := by
      intro i hi
      rw [mem_ready] at hi
      obtain ⟨hiu, o, ho, hdep⟩ := hi
      have ho' : L[i]? = some o := by rw [← arr_at]; exact ho
      have hil : i < L.length := (List.getElem?_eq_some_iff.1 ho').1
      have hiS : i ∉ S := by rw [g2T i hil] at hiu; simpa using hiu
      by_cases him : i < m
      · have hdepS : ∀ e ∈ o.after, Region.binds .any e = true → e.on ∈ S := fun e he hb => by
          have hlt' := ok.back i o him ho' e he hb
          have := hdep e he hb
          rw [g2F e.on (by omega)] at this
          simpa using this
        have hr1 : i ∈ Region.ready .any (L.take m).toArray l1 := by
          rw [mem_ready]
          refine ⟨by rw [g1T i him]; simpa using hiS, o, by rw [take_at i him]; exact ho', fun e he hb => ?_⟩
          have hlt' := ok.back i o him ho' e he hb
          rw [g1F e.on (by omega)]
          simpa using hdepS e he hb
        have hq := h.2 i hr1
        have hw : Region.wanted o (yielded (L.take m).toArray a.tmps) = Region.wanted o (yielded L.toArray a.tmps) := by
          unfold Region.wanted
          cases hg : o.guard with
          | none => rfl
          | some g =>
            obtain ⟨j, b⟩ := g
            have hj := ok.guard i o him ho' j b hg
            have : yielded (L.take m).toArray a.tmps j = yielded L.toArray a.tmps j := by unfold yielded; rw [take_at j (by omega), arr_at]
            simp only [this]
        unfold qOp at hq
        rw [take_at i him, ho'] at hq
        simp only at hq
        unfold wpOp
        rw [arr_at, ho']
        simp only
        rw [hw] at hq
        have go : ∀ (a' : Act) (w' : World), C w' → wpAnyQ P .any (L.take m).toArray C Qm fuel (l1.setIfInBounds i true) a' → wpAny P .any L.toArray Q (fuel + (L.length - m)) (l2.setIfInBounds i true) a' w' := by
          intro a' w' hC' hn
          have hsz : ∀ {l : Array Bool} {k : Nat}, 0 < k → (∀ j, l[j]? = if j < k then some (decide (j ∈ S)) else none) → l.size = k := by
            intro l k hk hl
            have h3 := hl k
            have h4 := hl (k - 1)
            rw [if_neg (by omega)] at h3
            rw [if_pos (by omega)] at h4
            have h5 := (Array.getElem?_eq_some_iff.1 h4).1
            have h6 := Array.getElem?_eq_none_iff.1 h3
            omega
          have upd : ∀ {l : Array Bool} {k : Nat}, i < k → (∀ j, l[j]? = if j < k then some (decide (j ∈ S)) else none) → ∀ j, (l.setIfInBounds i true)[j]? = if j < k then some (decide (j ∈ i :: S)) else none := by
            intro l k hk hl j
            have hs := hsz (by omega) hl
            rw [Array.getElem?_setIfInBounds, hl]
            by_cases hij : i = j
            · subst hij
              rw [if_pos rfl, if_pos (by omega), if_pos hk]; simp
            · rw [if_neg hij]
              by_cases hjl : j < k
              · rw [if_pos hjl, if_pos hjl]; simp [Ne.symm hij]
              · rw [if_neg hjl, if_neg hjl]
          refine ih (i :: S) _ _ a' w' hC' (List.nodup_cons.2 ⟨hiS, hS⟩) (fun x hx => ?_) (by simp only [List.length_cons]; omega) (upd him h1) (upd hil h2) (fun j oj hj hoj e he hb => ?_) hn
          · simp only [List.mem_cons] at hx
            rcases hx with rfl | hx
            · exact him
            · exact hlt x hx
          · simp only [List.mem_cons] at hj ⊢
            rcases hj with rfl | hj
            · obtain rfl : o = oj := by rw [ho'] at hoj; exact Option.some.inj hoj
              exact .inr (hdepS e he hb)
            · exact .inr (hcl j oj hj hoj e he hb)
        split
        · rename_i hww
          rw [if_pos hww] at hq
          exact .inl (Oper.wp_of_quiet hC go hq)
        · rename_i hww
          rw [if_neg hww] at hq
          exact go _ _ hC hq
      · obtain ⟨e, he, h3, h4⟩ := ok.past i o (by omega) ho'
        have := hdep e he h4
        rw [g2F e.on (by omega)] at this
        exact absurd (by simpa using this) (hlast e.on h3)
    rw [show fuel + 1 + (L.length - m) = (fuel + (L.length - m)) + 1 by omega]
    refine ⟨fun h0 => ?_, hstep⟩
    exfalso
    rcases least_not (fun i => i ∈ S) m with hall | ⟨i, hi, hn, hb⟩
    · exact hun (hall u hum)
    · have hio : L[i]? = some L[i] := List.getElem?_eq_getElem (by omega)
      have : i ∈ Region.ready .any L.toArray l2 := by
        rw [mem_ready]
        refine ⟨by rw [g2T i (by omega)]; simpa using hn, L[i], by rw [arr_at]; exact hio, fun e he hbd => ?_⟩
        have := ok.back i L[i] hi hio e he hbd
        rw [g2F e.on (by omega)]
        simpa using hb e.on this
      rw [h0] at this
      cases this

/-- the first stretch is quiet -/
theorem wp_region_split {id : Nat} {Q : Exit → Act → World → Prop} {a : Act} {w : World} {L : List Oper} (m : Nat) (C : World → Prop) (hm : P.follows .mixedOrders = true) (hl : m ≤ L.length) (hB : segB L m = true)
    (hx : Region.lexB .any (L.take m).toArray = true) (hC : C w.drew)
    (h : wpQuiet P (L.take m).toArray C (fun a' => ∀ w', C w' → wpAny P .any L.toArray Q (L.length - m) (marksOf (List.range m) L.length) a' w') (L.take m) a) : (Code.region id L.toArray true).wp P Q a w := by
  simp only [Region.lexB, Bool.and_eq_true] at hx
  refine wp_region_any hm ?_
  have ha := wpAnyQ_lex (C := C) (md := .any) hx.1 (L.take m) 0 (Array.replicate (L.take m).toArray.size false) a (by simp) (by simpa using hx.2) h
  rw [show (L.take m).toArray.size = m by simp; omega] at ha
  have hlen : (L.take m).length = m := by simp; omega
  rw [hlen] at ha
  have := wpAny_split (segB_ok hB) hl (Qm := fun a' => ∀ w', C w' → wpAny P .any L.toArray Q (L.length - m) (marksOf (List.range m) L.length) a' w') (fun a w hC h => h w hC) m [] (Array.replicate m false) (Array.replicate L.length false) a w.drew hC List.nodup_nil (fun i h => by cases h) (by simp)
    (fun i => by simp [Array.getElem?_replicate]) (fun i => by simp [Array.getElem?_replicate]) (fun i o h => by cases h) ha
  rw [show m + (L.length - m) = L.length by omega] at this
  simpa using this
/-- a later stretch is quiet -/
theorem wpAny_quiet {Q : Exit → Act → World → Prop} {a : Act} {w : World} {L : List Oper} (k m : Nat) (C : World → Prop) (hk : k ≤ m) (hl : m ≤ L.length) (hB0 : segB L k = true) (hB : segB L m = true)
    (hs : Region.noSelect (L.take m).toArray = true) (hx : Region.lexFrom .any (L.take m).toArray (m - k) k (marksOf (List.range k) m) = true) (hC : C w)
    (h : wpQuiet P (L.take m).toArray C (fun a' => ∀ w', C w' → wpAny P .any L.toArray Q (L.length - m) (marksOf (List.range m) L.length) a' w') ((L.take m).drop k) a) : wpAny P .any L.toArray Q (L.length - k) (marksOf (List.range k) L.length) a w := by
  have hlen : ((L.take m).drop k).length = m - k := by simp; omega
  have ha := wpAnyQ_lex (C := C) (md := .any) hs ((L.take m).drop k) k (marksOf (List.range k) m) a (fun j => by rw [List.getElem?_drop, List.getElem?_toArray]) (by rw [hlen]; exact hx) h
  rw [hlen] at ha
  have ok0 := segB_ok hB0
  have := wpAny_split (segB_ok hB) hl (Qm := fun a' => ∀ w', C w' → wpAny P .any L.toArray Q (L.length - m) (marksOf (List.range m) L.length) a' w') (fun a w hC h => h w hC) (m - k) (List.range k) (marksOf (List.range k) m) (marksOf (List.range k) L.length) a w hC List.nodup_range (fun i h => by have := List.mem_range.1 h; omega) (by simp; omega)
    (fun i => by rw [marksOf_at]) (fun i => by rw [marksOf_at]) (fun i o h ho e he hb => by have h1 := List.mem_range.1 h; have := ok0.back i o h1 ho e he hb; exact List.mem_range.2 (by omega)) ha
  rw [show m - k + (L.length - m) = L.length - k by omega] at this
  exact this
end
end Go.Proofs.YtelnnegfkdfpiaaGreatDoor
