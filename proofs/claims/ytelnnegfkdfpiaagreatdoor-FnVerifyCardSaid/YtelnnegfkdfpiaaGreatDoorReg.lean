/- A region that draws its order, whose operations may make memory: each operation is proved ONCE, from what the operations that it waits for leave; then what stands behind. (wp_region_core) -/
import Derived.Test.YtelnnegfkdfpiaaGreatDoorChg
import Derived.WalkKit
import Derived.WalkSpells
import Derived.WalkLawsBesides
import Derived.Lib.Hide
namespace Go.Proofs.YtelnnegfkdfpiaaGreatDoor
open Go.RowKit

section
variable {P : Program}
def slotOf (o : Oper) (a : Act) : Value := match o.dst with | some d => a.tmps.getD d undef | none => undef
/-- operation number i of a region -/
def nthOp (l : List Oper) (i : Nat) : Option Oper := l[i]?
/-- the frame behind operations, by their values in a' -/
def fillA : List Oper → Act → Act → Act
  | [], b, _ => b
  | o :: r, b, a' => fillA r (b.put o.dst (slotOf o a')) a'
/-- the operations of the core (their numbers: ks) write slots of their own, unguarded, and wait for earlier ones of the core alone; the others wait for all of the core -/
def coreB (l : List Oper) (ks : List Nat) (n : Nat) : Bool :=
  decide ks.Nodup && (ks.all fun i => decide (i < l.length)) &&
  ((List.range l.length).all fun i => match l[i]? with
    | none => true
    | some o =>
        (if i ∈ ks then (o.after.all fun e => !(Region.binds .any e) || (decide (e.on < i) && decide (e.on ∈ ks))) && (match o.dst with | some d => decide (d < n) | none => true) && o.guard.isNone && ((List.range i).all fun j => !(decide (j ∈ ks)) || match l[j]? with | some o' => !(o'.dst == o.dst) || o.dst.isNone | none => true)
         else ks.all fun j => o.after.any fun e => e.on == j && Region.binds .any e))
def coreOps (l : List Oper) (ks : List Nat) : List Oper := ks.filterMap fun i => l[i]?
def noDst (l : List Oper) (ks : List Nat) (s : Nat) : Bool := (coreOps l ks).all fun o => !(o.dst == some s)

structure CoreOk (l : List Oper) (ks : List Nat) (n : Nat) : Prop where
  nodup : ks.Nodup
  lt : ∀ i, i ∈ ks → i < l.length
  back : ∀ (i : Nat) (o : Oper), i ∈ ks → l[i]? = some o → ∀ e ∈ o.after, Region.binds .any e = true → e.on < i ∧ e.on ∈ ks
  dst : ∀ (i : Nat) (o : Oper), i ∈ ks → l[i]? = some o → ∀ d, o.dst = some d → d < n
  guard : ∀ (i : Nat) (o : Oper), i ∈ ks → l[i]? = some o → o.guard = none
  apart : ∀ (i j : Nat) (o o' : Oper), i ∈ ks → j ∈ ks → i ≠ j → l[i]? = some o → l[j]? = some o' → ∀ d, o.dst = some d → o'.dst ≠ some d
  tail : ∀ (i : Nat) (o : Oper), i ∉ ks → l[i]? = some o → ∀ j, j ∈ ks → ∃ e ∈ o.after, e.on = j ∧ Region.binds .any e = true
theorem coreB_ok {l : List Oper} {ks : List Nat} {n : Nat} (h : coreB l ks n = true) : CoreOk l ks n := by
  unfold coreB at h
  rw [Bool.and_eq_true, Bool.and_eq_true, decide_eq_true_eq, List.all_eq_true, List.all_eq_true] at h
  obtain ⟨⟨hk, hlt⟩, h⟩ := h
  have core : ∀ (i : Nat) (o : Oper), i ∈ ks → l[i]? = some o → (∀ e ∈ o.after, Region.binds .any e = true → e.on < i ∧ e.on ∈ ks) ∧ (∀ d, o.dst = some d → d < n) ∧ o.guard = none ∧ ∀ (j : Nat) (o' : Oper), j < i → j ∈ ks → l[j]? = some o' → ∀ d, o.dst = some d → o'.dst ≠ some d := by
    intro i o hik ho
    have hi : i < l.length := (List.getElem?_eq_some_iff.1 ho).1
    have := h i (List.mem_range.2 hi)
    rw [ho] at this
    simp only [if_pos hik, Bool.and_eq_true] at this
    obtain ⟨⟨⟨h0, h1⟩, h2⟩, h3⟩ := this
    refine ⟨fun e he hbd => ?_, ?_, by simpa using h2, fun j o' hj hjk ho' d hod he => ?_⟩
    · rw [Array.all_eq_true'] at h0
      have := h0 e he
      rw [hbd] at this
      simpa using this
    · intro d hd
      rw [hd] at h1
      simpa using h1
    · rw [List.all_eq_true] at h3
      have := h3 j (List.mem_range.2 hj)
      rw [ho'] at this
      simp [he, hjk, hod] at this
  refine ⟨hk, fun i hi => by simpa using hlt i hi, fun i o hi ho => (core i o hi ho).1, fun i o hi ho => (core i o hi ho).2.1, fun i o hi ho => (core i o hi ho).2.2.1, fun i j o o' hi hj hij ho ho' => ?_, fun i o hi ho j hj => ?_⟩
  · rcases Nat.lt_or_gt_of_ne hij with hlt | hgt
    · exact fun d hd he => (core j o' hj ho').2.2.2 i o hlt hi ho d he hd
    · exact fun d hd he => (core i o hi ho).2.2.2 j o' hgt hj ho' d hd he
  · have hil : i < l.length := (List.getElem?_eq_some_iff.1 ho).1
    have := h i (List.mem_range.2 hil)
    rw [ho] at this
    simp only [if_neg hi, List.all_eq_true] at this
    have := this j hj
    rw [Array.any_eq_true'] at this
    obtain ⟨e, he, h1⟩ := this
    rw [Bool.and_eq_true, beq_iff_eq] at h1
    exact ⟨e, he, h1.1, h1.2⟩

/-- the general form: whoever is not of the core waits, by way of others if need be, for all of the core -/
structure CoreG (l : List Oper) (ks : List Nat) (n : Nat) : Prop where
  nodup : ks.Nodup
  lt : ∀ i, i ∈ ks → i < l.length
  back : ∀ (i : Nat) (o : Oper), i ∈ ks → l[i]? = some o → ∀ e ∈ o.after, Region.binds .any e = true → e.on < i ∧ e.on ∈ ks
  dst : ∀ (i : Nat) (o : Oper), i ∈ ks → l[i]? = some o → ∀ d, o.dst = some d → d < n
  guard : ∀ (i : Nat) (o : Oper), i ∈ ks → l[i]? = some o → o.guard = none
  apart : ∀ (i j : Nat) (o o' : Oper), i ∈ ks → j ∈ ks → i ≠ j → l[i]? = some o → l[j]? = some o' → ∀ d, o.dst = some d → o'.dst ≠ some d
  tail : ∀ (i : Nat) (o : Oper), i ∉ ks → l[i]? = some o → ∀ S : Nat → Prop, (∀ (j : Nat) (oj : Oper), S j → l[j]? = some oj → ∀ e ∈ oj.after, Region.binds .any e = true → S e.on) → (∀ e ∈ o.after, Region.binds .any e = true → S e.on) → ∀ j, j ∈ ks → S j
theorem CoreOk.gen {l : List Oper} {ks : List Nat} {n : Nat} (h : CoreOk l ks n) : CoreG l ks n :=
  ⟨h.nodup, h.lt, h.back, h.dst, h.guard, h.apart, fun i o hi ho S _ hd j hj => by
    obtain ⟨e, he, h1, h2⟩ := h.tail i o hi ho j hj
    rw [← h1]; exact hd e he h2⟩
def depsOf (l : List Oper) (j : Nat) : List Nat := match l[j]? with | some o => (o.after.toList.filter fun e => Region.binds .any e).map fun e => e.on | none => []
def reachN (l : List Oper) : Nat → List Nat → List Nat
  | 0, S => S
  | k + 1, S => reachN l k (S ++ S.flatMap (depsOf l))
theorem reachN_sub {l : List Oper} {S : Nat → Prop} (hc : ∀ (j : Nat) (oj : Oper), S j → l[j]? = some oj → ∀ e ∈ oj.after, Region.binds .any e = true → S e.on) : ∀ (k : Nat) (R : List Nat), (∀ j ∈ R, S j) → ∀ j ∈ reachN l k R, S j
  | 0, _, h => h
  | k + 1, R, h => reachN_sub hc k _ fun j hj => by
    rcases List.mem_append.1 hj with hj | hj
    · exact h j hj
    · obtain ⟨i, hi, hj⟩ := List.mem_flatMap.1 hj
      unfold depsOf at hj
      cases ho : l[i]? with
      | none => rw [ho] at hj; cases hj
      | some o =>
        rw [ho] at hj
        obtain ⟨e, he, rfl⟩ := List.mem_map.1 hj
        obtain ⟨he, hb⟩ := List.mem_filter.1 he
        exact hc i o (h i hi) ho e (by simpa using he) hb
def coreB2 (l : List Oper) (ks : List Nat) (n : Nat) : Bool :=
  decide ks.Nodup && (ks.all fun i => decide (i < l.length)) &&
  ((List.range l.length).all fun i => match l[i]? with
    | none => true
    | some o =>
        (if i ∈ ks then (o.after.all fun e => !(Region.binds .any e) || (decide (e.on < i) && decide (e.on ∈ ks))) && (match o.dst with | some d => decide (d < n) | none => true) && o.guard.isNone && ((List.range i).all fun j => !(decide (j ∈ ks)) || match l[j]? with | some o' => !(o'.dst == o.dst) || o.dst.isNone | none => true)
         else (let R := reachN l l.length (depsOf l i); ks.all fun j => decide (j ∈ R))))
theorem coreB2_ok {l : List Oper} {ks : List Nat} {n : Nat} (h : coreB2 l ks n = true) : CoreG l ks n := by
  unfold coreB2 at h
  rw [Bool.and_eq_true, Bool.and_eq_true, decide_eq_true_eq, List.all_eq_true, List.all_eq_true] at h
  obtain ⟨⟨hk, hlt⟩, h⟩ := h
  have core : ∀ (i : Nat) (o : Oper), i ∈ ks → l[i]? = some o → (∀ e ∈ o.after, Region.binds .any e = true → e.on < i ∧ e.on ∈ ks) ∧ (∀ d, o.dst = some d → d < n) ∧ o.guard = none ∧ ∀ (j : Nat) (o' : Oper), j < i → j ∈ ks → l[j]? = some o' → ∀ d, o.dst = some d → o'.dst ≠ some d := by
    intro i o hik ho
    have hi : i < l.length := (List.getElem?_eq_some_iff.1 ho).1
    have := h i (List.mem_range.2 hi)
    rw [ho] at this
    simp only [if_pos hik, Bool.and_eq_true] at this
    obtain ⟨⟨⟨h0, h1⟩, h2⟩, h3⟩ := this
    refine ⟨fun e he hbd => ?_, ?_, by simpa using h2, fun j o' hj hjk ho' d hod he => ?_⟩
    · rw [Array.all_eq_true'] at h0
      have := h0 e he
      rw [hbd] at this
      simpa using this
    · intro d hd
      rw [hd] at h1
      simpa using h1
    · rw [List.all_eq_true] at h3
      have := h3 j (List.mem_range.2 hj)
      rw [ho'] at this
      simp [he, hjk, hod] at this
  refine ⟨hk, fun i hi => by simpa using hlt i hi, fun i o hi ho => (core i o hi ho).1, fun i o hi ho => (core i o hi ho).2.1, fun i o hi ho => (core i o hi ho).2.2.1, fun i j o o' hi hj hij ho ho' => ?_, fun i o hi ho S hc hd j hj => ?_⟩
  · rcases Nat.lt_or_gt_of_ne hij with hlt | hgt
    · exact fun d hd he => (core j o' hj ho').2.2.2 i o hlt hi ho d he hd
    · exact fun d hd he => (core i o hi ho).2.2.2 j o' hgt hj ho' d hd he
  · have hil : i < l.length := (List.getElem?_eq_some_iff.1 ho).1
    have := h i (List.mem_range.2 hil)
    rw [ho] at this
    simp only [if_neg hi, List.all_eq_true, decide_eq_true_eq] at this
    refine reachN_sub hc _ _ ?_ j (this j hj)
    intro q hq
    unfold depsOf at hq
    rw [ho] at hq
    obtain ⟨e, he, rfl⟩ := List.mem_map.1 hq
    obtain ⟨he, hb⟩ := List.mem_filter.1 he
    exact hd e (by simpa using he) hb

theorem put_getD (a : Act) (d s : Nat) (v : Value) (hs : s < a.tmps.size) : (a.put (some d) v).tmps.getD s undef = if d = s then v else a.tmps.getD s undef := by
  simp only [Act.put, Array.getD_eq_getD_getElem?, Array.getElem?_setIfInBounds]
  split
  · rename_i h; subst h; simp [hs]
  · rfl
theorem put_getD_ne (a : Act) (d s : Nat) (v : Value) (hs : d ≠ s) : (a.put (some d) v).tmps.getD s undef = a.tmps.getD s undef := by
  simp only [Act.put, Array.getD_eq_getD_getElem?, Array.getElem?_setIfInBounds, if_neg hs]
theorem put_size (a : Act) (d : Option Nat) (v : Value) : (a.put d v).tmps.size = a.tmps.size := by cases d <;> simp [Act.put]
theorem put_defers (a : Act) (d : Option Nat) (v : Value) : (a.put d v).defers = a.defers := by cases d <;> rfl
theorem fillA_spec (a' : Act) : ∀ (l : List Oper) (b : Act), (fillA l b a').tmps.size = b.tmps.size ∧ (fillA l b a').defers = b.defers ∧
    ∀ s, s < b.tmps.size → (fillA l b a').tmps.getD s undef = if (l.any fun o => o.dst == some s) = true then a'.tmps.getD s undef else b.tmps.getD s undef
  | [], b => ⟨rfl, rfl, fun s _ => rfl⟩
  | o :: l, b => by
    obtain ⟨h1, h2, h3⟩ := fillA_spec a' l (b.put o.dst (slotOf o a'))
    refine ⟨by show (fillA l _ a').tmps.size = _; rw [h1, put_size], by show (fillA l _ a').defers = _; rw [h2, put_defers], fun s hs => ?_⟩
    show (fillA l _ a').tmps.getD s undef = _
    rw [h3 s (by rw [put_size]; exact hs)]
    cases ho : o.dst with
    | none =>
      have : ((o :: l).any fun o => o.dst == some s) = (l.any fun o => o.dst == some s) := by simp [ho]
      rw [this]
      simp [Act.put]
    | some d =>
      rw [put_getD b d s _ hs]
      by_cases hds : d = s
      · subst hds
        have : ((o :: l).any fun o => o.dst == some d) = true := by simp [ho]
        rw [this]
        simp [slotOf, ho]
      · have : ((o :: l).any fun o => o.dst == some s) = (l.any fun o => o.dst == some s) := by simp [ho, hds]
        rw [this, if_neg hds]
theorem fill_eq {l : List Oper} {ks : List Nat} {a a' : Act} (hs : a'.tmps.size = a.tmps.size) (hd : a'.defers = a.defers) (hsame : ∀ s, noDst l ks s = true → a'.tmps.getD s undef = a.tmps.getD s undef) : a' = fillA (coreOps l ks) a a' := by
  obtain ⟨g1, g2, g3⟩ := fillA_spec a' (coreOps l ks) a
  have ht : a'.tmps = (fillA (coreOps l ks) a a').tmps := by
    apply Array.ext (by rw [g1, hs])
    intro s h1 h2
    have e1 : a'.tmps[s] = a'.tmps.getD s undef := by simp [h1]
    have e2 : (fillA (coreOps l ks) a a').tmps[s] = (fillA (coreOps l ks) a a').tmps.getD s undef := by simp [h2]
    rw [e1, e2, g3 s (by rw [← hs]; exact h1)]
    by_cases hn : ((coreOps l ks).any fun o => o.dst == some s) = true
    · rw [if_pos hn]
    · rw [if_neg hn]
      refine hsame s ?_
      unfold noDst
      rw [List.all_eq_true]
      intro o ho
      cases hq : (o.dst == some s)
      · rfl
      · exact absurd (List.any_eq_true.2 ⟨o, ho, hq⟩) hn
  exact congr (congrArg Act.mk ht) (hd.trans g2.symm)
theorem nodup_sub : ∀ (l1 l2 : List Nat), l1.Nodup → (∀ x ∈ l1, x ∈ l2) → l1.length ≤ l2.length
  | [], _, _, _ => Nat.zero_le _
  | x :: t, l2, h, hs => by
    have hx : x ∈ l2 := hs x (by simp)
    rw [List.nodup_cons] at h
    have := nodup_sub t (l2.erase x) h.2 fun y hy => by
      have hne : y ≠ x := by intro e; subst e; exact h.1 hy
      exact (List.mem_erase_of_ne hne).2 (hs y (by simp [hy]))
    rw [List.length_erase_of_mem hx] at this
    have : 0 < l2.length := List.length_pos_of_mem hx
    simp only [List.length_cons]
    omega
theorem least_not (p : Nat → Prop) [DecidablePred p] (k : Nat) : (∀ i, i < k → p i) ∨ ∃ i, i < k ∧ ¬ p i ∧ ∀ j, j < i → p j := by
  induction k with
  | zero => exact .inl fun i h => absurd h (by omega)
  | succ k ih =>
    rcases ih with h | ⟨i, h1, h2, h3⟩
    · by_cases hk : p k
      · exact .inl fun i hi => by
          rcases Nat.lt_or_ge i k with h' | h'
          · exact h i h'
          · rw [show i = k by omega]; exact hk
      · exact .inr ⟨k, by omega, hk, h⟩
    · exact .inr ⟨i, by omega, h2, h3⟩
/-- the core is listed, and nothing else -/
def marksOf (ks : List Nat) (m : Nat) : Array Bool := ((List.range m).map fun i => decide (i ∈ ks)).toArray
theorem marksOf_at (ks : List Nat) (m i : Nat) : (marksOf ks m)[i]? = if i < m then some (decide (i ∈ ks)) else none := by
  unfold marksOf
  rw [List.getElem?_toArray, List.getElem?_map]
  by_cases h : i < m
  · rw [if_pos h, List.getElem?_eq_getElem (by simpa using h)]; simp
  · rw [if_neg h, List.getElem?_eq_none (by simpa using h)]; rfl

/-- what holds on the way -/
structure Mid (l : List Oper) (ks : List Nat) (a : Act) (C : List Nat → World → Prop) (Φ : List Nat → Nat → Act → World → Prop) (S : List Nat) (a' : Act) (w' : World) : Prop where
  size : a'.tmps.size = a.tmps.size
  defers : a'.defers = a.defers
  same : ∀ s, noDst l ks s = true → a'.tmps.getD s undef = a.tmps.getD s undef
  cls : C S w'
  told : ∀ i, i ∈ S → Φ S i a' w'
  closed : ∀ (i : Nat), i ∈ S → ∀ (o : Oper), l[i]? = some o → ∀ e ∈ o.after, Region.binds .any e = true → e.on ∈ S

theorem wp_region_full {id : Nat} {Q : Exit → Act → World → Prop} {a : Act} {w : World} {l : List Oper} (ks : List Nat) (C : List Nat → World → Prop) (E : Nat → World → World → Prop) (Φ : List Nat → Nat → Act → World → Prop)
    (hm : P.follows .mixedOrders = true) (ok : CoreG l ks a.tmps.size) (hC : C [] w.drew)
    (hE : ∀ (S : List Nat) (b : Act) (w1 w2 : World) (i j : Nat) (oj : Oper) (v : Value), i ∈ S → j ∉ S → (∀ (x : Nat) (ox : Oper), x ∈ S → l[x]? = some ox → ∀ e ∈ ox.after, Region.binds .any e = true → e.on ∈ S) → i ∈ ks → j ∈ ks → i ≠ j → l[j]? = some oj → (∀ oi, l[i]? = some oi → ∀ e ∈ oi.after, Region.binds .any e = true → e.on ≠ j) → E j w1 w2 → Φ S i b w1 → Φ (j :: S) i (b.put oj.dst v) w2)
    (hstep : ∀ (S : List Nat) (j : Nat) (o : Oper), j ∈ ks → j ∉ S → (∀ (i : Nat) (oi : Oper), i ∈ S → l[i]? = some oi → ∀ e ∈ oi.after, Region.binds .any e = true → e.on ∈ S) → l[j]? = some o → ∀ a' w', C S w' → (∀ s, noDst l ks s = true → a'.tmps.getD s undef = a.tmps.getD s undef) →
      (∀ e ∈ o.after, Region.binds .any e = true → Φ S e.on a' w') →
      o.wp P a' w' (fun a'' w'' => ∃ v, a'' = a'.put o.dst v ∧ C (j :: S) w'' ∧ E j w' w'' ∧ ∀ b : Act, (∀ d, o.dst = some d → b.tmps.getD d undef = v) → (∀ s, (∀ d, o.dst = some d → d ≠ s) → b.tmps.getD s undef = a'.tmps.getD s undef) → Φ (j :: S) j b w'') Q)
    (hdone : ∀ S a' w', (∀ i, i ∈ ks → i ∈ S) → C S w' → a' = fillA (coreOps l ks) a a' → (∀ i, i ∈ ks → Φ S i a' w') → wpAny P .any l.toArray Q (l.length - ks.length) (marksOf ks l.length) a' w') :
    (Code.region id l.toArray true).wp P Q a w := by
  have main : ∀ (fuel : Nat) (S : List Nat) (listed : Array Bool) (a' : Act) (w' : World), S.Nodup → (∀ i ∈ S, i ∈ ks) → S.length + fuel = l.length → (∀ i, listed[i]? = if i < l.length then some (decide (i ∈ S)) else none) →
      Mid l ks a C Φ S a' w' → wpAny P .any l.toArray Q fuel listed a' w' := by
    have full : ∀ (fuel : Nat) (S : List Nat) (listed : Array Bool) (a' : Act) (w' : World), S.Nodup → (∀ i ∈ S, i ∈ ks) → S.length + fuel = l.length → (∀ i, listed[i]? = if i < l.length then some (decide (i ∈ S)) else none) →
        Mid l ks a C Φ S a' w' → (∀ i ∈ ks, i ∈ S) → wpAny P .any l.toArray Q fuel listed a' w' := by
      intro fuel S listed a' w' hS hlt hlen hls hmid hall
      have h1 := nodup_sub S ks hS hlt
      have h2 := nodup_sub ks S ok.nodup hall
      have hlis : listed = marksOf ks l.length := by
        apply Array.ext_getElem?
        intro i
        rw [hls, marksOf_at]
        by_cases hi : i < l.length
        · rw [if_pos hi, if_pos hi]
          by_cases hik : i ∈ ks
          · simp [hall i hik, hik]
          · have : i ∉ S := fun h => hik (hlt i h)
            simp [this, hik]
        · rw [if_neg hi, if_neg hi]
      have := hdone S a' w' hall hmid.cls (fill_eq hmid.size hmid.defers hmid.same) fun i hi => hmid.told i (hall i hi)
      rw [hlis, show fuel = l.length - ks.length by omega]
      exact this
    intro fuel
    induction fuel with
    | zero =>
      intro S listed a' w' hS hlt hlen hls hmid
      have h1 := nodup_sub S ks hS hlt
      have h0 := nodup_sub ks (List.range l.length) ok.nodup fun x hx => List.mem_range.2 (ok.lt x hx)
      rw [List.length_range] at h0
      refine full 0 S listed a' w' hS hlt hlen hls hmid fun i hi => ?_
      by_cases hn : i ∈ S
      · exact hn
      · have h2 := nodup_sub (i :: S) ks (List.nodup_cons.2 ⟨hn, hS⟩) fun x hx => by
          simp only [List.mem_cons] at hx
          rcases hx with rfl | hx
          · exact hi
          · exact hlt x hx
        simp only [List.length_cons] at h2
        omega
    | succ fuel ih =>
      intro S listed a' w' hS hlt hlen hls hmid
      have hgetT : ∀ i, i < l.length → listed.getD i true = decide (i ∈ S) := by
        intro i hi
        rw [Array.getD_eq_getD_getElem?, hls, if_pos hi]; rfl
      have hgetF : ∀ i, i < l.length → listed.getD i false = decide (i ∈ S) := by
        intro i hi
        rw [Array.getD_eq_getD_getElem?, hls, if_pos hi]; rfl
      rcases least_not (fun i => i ∈ ks → i ∈ S) l.length with hall | ⟨i0, hi0l, hn, hb0⟩
      · exact full (fuel + 1) S listed a' w' hS hlt hlen hls hmid fun i hi => hall i (ok.lt i hi) hi
      · have hi0 : i0 ∈ ks := by
          by_cases h : i0 ∈ ks
          · exact h
          · exact absurd (fun h' => absurd h' h) hn
        have hn0 : i0 ∉ S := fun h => hn fun _ => h
        have hready0 : i0 ∈ Region.ready .any l.toArray listed := by
          rw [mem_ready]
          refine ⟨by rw [hgetT i0 hi0l]; simpa using hn0, l[i0], by simp [hi0l], fun e he hbd => ?_⟩
          obtain ⟨g1, g2⟩ := ok.back i0 l[i0] hi0 (by simp [hi0l]) e he hbd
          rw [hgetF e.on (by omega)]
          simpa using hb0 e.on g1 g2
        refine ⟨fun h0 => (by rw [h0] at hready0; cases hready0), fun i hi => ?_⟩
        rw [mem_ready] at hi
        obtain ⟨hun, o, ho, hdep⟩ := hi
        have ho' : l[i]? = some o := by simpa using ho
        have hil : i < l.length := (List.getElem?_eq_some_iff.1 ho').1
        have hiS : i ∉ S := by rw [hgetT i hil] at hun; simpa using hun
        have hik : i ∈ ks := by
          by_cases h : i ∈ ks
          · exact h
          · refine absurd (ok.tail i o h ho' (· ∈ S) (fun j oj hj hoj e he hbd => hmid.closed j hj oj hoj e he hbd) (fun e he hbd => ?_) i0 hi0) hn0
            have hq := hdep e he hbd
            by_cases hlt' : e.on < l.length
            · rw [hgetF e.on hlt'] at hq
              simpa using hq
            · have hnone : listed[e.on]? = none := by rw [hls, if_neg hlt']
              rw [Array.getD_eq_getD_getElem?, hnone] at hq
              cases hq
        have hw : Region.wanted o (yielded l.toArray a'.tmps) = true := by simp [Region.wanted, ok.guard i o hik ho']
        have hst := hstep S i o hik hiS (fun j oj hj hoj e he hbd => hmid.closed j hj oj hoj e he hbd) ho' a' w' hmid.cls hmid.same fun e he hbd => by
          refine hmid.told e.on ?_
          have := hdep e he hbd
          rw [hgetF e.on (by have := (ok.back i o hik ho' e he hbd).1; omega)] at this
          simpa using this
        unfold wpOp
        rw [ho]
        simp only [hw, if_true]
        refine .inl (Oper.wp_mono (fun a2 w2 h => ?_) hst)
        obtain ⟨v, rfl, hc2, he2, hphi⟩ := h
        refine ih (i :: S) _ _ _ (List.nodup_cons.2 ⟨hiS, hS⟩) (fun x hx => ?_) (by simp only [List.length_cons]; omega) (fun j => ?_) ⟨by rw [put_size]; exact hmid.size, by rw [put_defers]; exact hmid.defers, fun s hs => ?_, hc2, fun j hj => ?_, ?_⟩
        · simp only [List.mem_cons] at hx
          rcases hx with rfl | hx
          · exact hik
          · exact hlt x hx
        · have hsz : listed.size = l.length := by
            have h3 := hls l.length
            have h4 := hls (l.length - 1)
            rw [if_neg (by omega)] at h3
            rw [if_pos (by omega)] at h4
            have h5 := (Array.getElem?_eq_some_iff.1 h4).1
            have h6 := Array.getElem?_eq_none_iff.1 h3
            omega
          rw [Array.getElem?_setIfInBounds, hls]
          by_cases hij : i = j
          · subst hij
            rw [if_pos rfl, if_pos (by omega), if_pos hil]; simp
          · rw [if_neg hij]
            by_cases hjl : j < l.length
            · rw [if_pos hjl, if_pos hjl]; simp [Ne.symm hij]
            · rw [if_neg hjl, if_neg hjl]
        · cases hd : o.dst with
          | none => exact hmid.same s hs
          | some d =>
            have hds : d ≠ s := by
              intro e
              subst e
              unfold noDst at hs
              rw [List.all_eq_true] at hs
              have := hs o (List.mem_filterMap.2 ⟨i, hik, ho'⟩)
              simp [hd] at this
            rw [put_getD_ne a' d s v hds]
            exact hmid.same s hs
        · simp only [List.mem_cons] at hj
          rcases hj with rfl | hj
          · refine hphi _ (fun d hd => ?_) (fun s hs => ?_)
            · rw [hd, put_getD a' d d v (by rw [hmid.size]; exact ok.dst j o hik ho' d hd), if_pos rfl]
            · cases hd : o.dst with
              | none => rfl
              | some d => exact put_getD_ne a' d s v (hs d hd)
          · refine hE S a' w' w2 j i o v hj hiS (fun x ox hx hox e he hbd => hmid.closed x hx ox hox e he hbd) (hlt j hj) hik (fun e => hiS (e ▸ hj)) ho' (fun oi hoi e he hbd hei => ?_) he2 (hmid.told j hj)
            have := hmid.closed j hj oi hoi e he hbd
            rw [hei] at this
            exact hiS this
        · intro j hj oj hoj e he hbd
          simp only [List.mem_cons] at hj ⊢
          rcases hj with rfl | hj
          · obtain rfl : o = oj := by rw [ho'] at hoj; exact Option.some.inj hoj
            have := hdep e he hbd
            rw [hgetF e.on (by have := (ok.back j o hik ho' e he hbd).1; omega)] at this
            exact .inr (by simpa using this)
          · exact .inr (hmid.closed j hj oj hoj e he hbd)
  refine wp_region_any hm ?_
  have := main l.length [] (Array.replicate l.length false) a w.drew List.nodup_nil (fun i h => by cases h) (by simp) (fun i => by simp [Array.getElem?_replicate]) ⟨rfl, rfl, fun s _ => rfl, hC, fun i h => (by cases h), fun i h => (by cases h)⟩
  simpa using this
theorem wp_region_seq {id : Nat} {Q : Exit → Act → World → Prop} {a : Act} {w : World} {l : List Oper} (ks : List Nat) (C : List Nat → World → Prop) (E : Nat → World → World → Prop) (Φ : Nat → Act → World → Prop)
    (hm : P.follows .mixedOrders = true) (ok : CoreG l ks a.tmps.size) (hC : C [] w.drew)
    (hE : ∀ (b : Act) (w1 w2 : World) (i j : Nat) (oj : Oper) (v : Value), i ∈ ks → j ∈ ks → i ≠ j → l[j]? = some oj → (∀ oi, l[i]? = some oi → ∀ e ∈ oi.after, Region.binds .any e = true → e.on ≠ j) → E j w1 w2 → Φ i b w1 → Φ i (b.put oj.dst v) w2)
    (hstep : ∀ (S : List Nat) (j : Nat) (o : Oper), j ∈ ks → j ∉ S → (∀ (i : Nat) (oi : Oper), i ∈ S → l[i]? = some oi → ∀ e ∈ oi.after, Region.binds .any e = true → e.on ∈ S) → l[j]? = some o → ∀ a' w', C S w' → (∀ s, noDst l ks s = true → a'.tmps.getD s undef = a.tmps.getD s undef) →
      (∀ e ∈ o.after, Region.binds .any e = true → Φ e.on a' w') →
      o.wp P a' w' (fun a'' w'' => ∃ v, a'' = a'.put o.dst v ∧ C (j :: S) w'' ∧ E j w' w'' ∧ ∀ b : Act, (∀ d, o.dst = some d → b.tmps.getD d undef = v) → (∀ s, (∀ d, o.dst = some d → d ≠ s) → b.tmps.getD s undef = a'.tmps.getD s undef) → Φ j b w'') Q)
    (hdone : ∀ S a' w', (∀ i, i ∈ ks → i ∈ S) → C S w' → a' = fillA (coreOps l ks) a a' → (∀ i, i ∈ ks → Φ i a' w') → wpAny P .any l.toArray Q (l.length - ks.length) (marksOf ks l.length) a' w') :
    (Code.region id l.toArray true).wp P Q a w :=
  wp_region_full ks C E (fun _ => Φ) hm ok hC (fun _ b w1 w2 i j oj v _ _ _ => hE b w1 w2 i j oj v) hstep hdone
theorem wp_region_gen {id : Nat} {Q : Exit → Act → World → Prop} {a : Act} {w : World} {l : List Oper} (ks : List Nat) (C : World → Prop) (E : Nat → World → World → Prop) (Φ : Nat → Act → World → Prop)
    (hm : P.follows .mixedOrders = true) (ok : CoreG l ks a.tmps.size) (hC : C w.drew)
    (hE : ∀ (b : Act) (w1 w2 : World) (i j : Nat) (oj : Oper) (v : Value), i ∈ ks → j ∈ ks → i ≠ j → l[j]? = some oj → (∀ oi, l[i]? = some oi → ∀ e ∈ oi.after, Region.binds .any e = true → e.on ≠ j) → E j w1 w2 → Φ i b w1 → Φ i (b.put oj.dst v) w2)
    (hstep : ∀ (j : Nat) (o : Oper), j ∈ ks → l[j]? = some o → ∀ a' w', C w' → (∀ s, noDst l ks s = true → a'.tmps.getD s undef = a.tmps.getD s undef) →
      (∀ e ∈ o.after, Region.binds .any e = true → Φ e.on a' w') →
      o.wp P a' w' (fun a'' w'' => ∃ v, a'' = a'.put o.dst v ∧ C w'' ∧ E j w' w'' ∧ ∀ b : Act, (∀ d, o.dst = some d → b.tmps.getD d undef = v) → (∀ s, (∀ d, o.dst = some d → d ≠ s) → b.tmps.getD s undef = a'.tmps.getD s undef) → Φ j b w'') Q)
    (hdone : ∀ a' w', C w' → a' = fillA (coreOps l ks) a a' → (∀ i, i ∈ ks → Φ i a' w') → wpAny P .any l.toArray Q (l.length - ks.length) (marksOf ks l.length) a' w') :
    (Code.region id l.toArray true).wp P Q a w :=
  wp_region_seq ks (fun _ => C) E Φ hm ok hC hE (fun _ j o hj _ _ ho a' w' h1 h2 h3 => hstep j o hj ho a' w' h1 h2 h3) (fun _ a' w' _ h1 h2 h3 => hdone a' w' h1 h2 h3)
theorem wp_region_core {id : Nat} {Q : Exit → Act → World → Prop} {a : Act} {w : World} {l : List Oper} (ks : List Nat) (C : World → Prop) (E : Nat → World → World → Prop) (Φ : Nat → Act → World → Prop)
    (hm : P.follows .mixedOrders = true) (hB : coreB l ks a.tmps.size = true) (hC : C w.drew)
    (hE : ∀ (b : Act) (w1 w2 : World) (i j : Nat) (oj : Oper) (v : Value), i ∈ ks → j ∈ ks → i ≠ j → l[j]? = some oj → (∀ oi, l[i]? = some oi → ∀ e ∈ oi.after, Region.binds .any e = true → e.on ≠ j) → E j w1 w2 → Φ i b w1 → Φ i (b.put oj.dst v) w2)
    (hstep : ∀ (j : Nat) (o : Oper), j ∈ ks → l[j]? = some o → ∀ a' w', C w' → (∀ s, noDst l ks s = true → a'.tmps.getD s undef = a.tmps.getD s undef) →
      (∀ e ∈ o.after, Region.binds .any e = true → Φ e.on a' w') →
      o.wp P a' w' (fun a'' w'' => ∃ v, a'' = a'.put o.dst v ∧ C w'' ∧ E j w' w'' ∧ ∀ b : Act, (∀ d, o.dst = some d → b.tmps.getD d undef = v) → (∀ s, (∀ d, o.dst = some d → d ≠ s) → b.tmps.getD s undef = a'.tmps.getD s undef) → Φ j b w'') Q)
    (hdone : ∀ a' w', C w' → a' = fillA (coreOps l ks) a a' → (∀ i, i ∈ ks → Φ i a' w') → wpAny P .any l.toArray Q (l.length - ks.length) (marksOf ks l.length) a' w') :
    (Code.region id l.toArray true).wp P Q a w := wp_region_gen ks C E Φ hm (coreB_ok hB).gen hC hE hstep hdone
/-- the same where the others wait for the core by way of each other -/
theorem wp_region_core2 {id : Nat} {Q : Exit → Act → World → Prop} {a : Act} {w : World} {l : List Oper} (ks : List Nat) (C : World → Prop) (E : Nat → World → World → Prop) (Φ : Nat → Act → World → Prop)
    (hm : P.follows .mixedOrders = true) (hB : coreB2 l ks a.tmps.size = true) (hC : C w.drew)
    (hE : ∀ (b : Act) (w1 w2 : World) (i j : Nat) (oj : Oper) (v : Value), i ∈ ks → j ∈ ks → i ≠ j → l[j]? = some oj → (∀ oi, l[i]? = some oi → ∀ e ∈ oi.after, Region.binds .any e = true → e.on ≠ j) → E j w1 w2 → Φ i b w1 → Φ i (b.put oj.dst v) w2)
    (hstep : ∀ (j : Nat) (o : Oper), j ∈ ks → l[j]? = some o → ∀ a' w', C w' → (∀ s, noDst l ks s = true → a'.tmps.getD s undef = a.tmps.getD s undef) →
      (∀ e ∈ o.after, Region.binds .any e = true → Φ e.on a' w') →
      o.wp P a' w' (fun a'' w'' => ∃ v, a'' = a'.put o.dst v ∧ C w'' ∧ E j w' w'' ∧ ∀ b : Act, (∀ d, o.dst = some d → b.tmps.getD d undef = v) → (∀ s, (∀ d, o.dst = some d → d ≠ s) → b.tmps.getD s undef = a'.tmps.getD s undef) → Φ j b w'') Q)
    (hdone : ∀ a' w', C w' → a' = fillA (coreOps l ks) a a' → (∀ i, i ∈ ks → Φ i a' w') → wpAny P .any l.toArray Q (l.length - ks.length) (marksOf ks l.length) a' w') :
    (Code.region id l.toArray true).wp P Q a w := wp_region_gen ks C E Φ hm (coreB2_ok hB) hC hE hstep hdone
end
theorem wp_val {P : Program} {o : Oper} {a' : Act} {w' w2 : World} {next : Act → World → Prop} {Q : Exit → Act → World → Prop} (v : Value) (h : ∀ K : Act → World → Prop, K (a'.put o.dst v) w2 → o.wp P a' w' K Q) (hn : next (a'.put o.dst v) w2) : o.wp P a' w' next Q := h _ hn
theorem wp_call {P : Program} {o : Oper} {a' : Act} {w' : World} {next : Act → World → Prop} {Q : Exit → Act → World → Prop} (R : Value → World → Prop) (h : ∀ K : Act → World → Prop, (∀ v w2, R v w2 → K (a'.put o.dst v) w2) → o.wp P a' w' K Q) (hn : ∀ v w2, R v w2 → next (a'.put o.dst v) w2) : o.wp P a' w' next Q := h _ hn
/-- nothing old has turned but the cells of blocks of a type -/
structure BoxTurn (T : TypeId) (a b : World) : Prop where
  size : a.heap.size ≤ b.heap.size
  block : ∀ q, q < a.heap.size → b.heap[q]? = a.heap[q]? ∨ ∃ cs cs' : Array Value, a.heap[q]? = some (.cells cs T (0, 0)) ∧ b.heap[q]? = some (.cells cs' T (0, 0)) ∧ cs'.size = cs.size
theorem BoxTurn.row {T : TypeId} {a b : World} {α : Type} {f : α → List Value} {size : Nat} {t : TypeId} {lo : Nat} {A : Option Addr} {n c : Nat} {l : List α} (h : BoxTurn T a b) (ht : t ≠ T) (ho : OwnL f size t a lo a.heap.size A n c l) : OwnL f size t b lo b.heap.size A n c l := by
  obtain ⟨hl, h0 | ⟨g, cur, rfl, h1, h2, h3, h4⟩⟩ := ho
  · exact ⟨hl, .inl h0⟩
  · refine ⟨hl, .inr ⟨g, cur, rfl, h1, Nat.lt_of_lt_of_le h2 h.size, ?_, h4⟩⟩
    rcases h.block g h2 with e | ⟨cs, cs', e, _, _⟩
    · exact e.trans h3
    · have h3' : a.heap[g]? = some (.cells cur t (0, 0)) := h3
      rw [h3'] at e
      injection e with e
      injection e with _ e
      exact absurd e ht
theorem BoxTurn.box {T : TypeId} {a b : World} {g : Nat} {cs : Array Value} (h : BoxTurn T a b) (hb : Blk a g T cs) : ∃ cs', cs'.size = cs.size ∧ Blk b g T cs' := by
  rcases h.block g hb.lt with e | ⟨c1, c2, e1, e2, e3⟩
  · exact ⟨cs, rfl, e.trans hb⟩
  · have hb' : a.heap[g]? = some (.cells cs T (0, 0)) := hb
    rw [hb'] at e1
    injection e1 with e1
    injection e1 with e1
    exact ⟨c2, by rw [e3, e1], e2⟩
theorem BoxTurn.of_blk {T : TypeId} {a b : World} {g : Nat} {cs cs' : Array Value} (ha : Blk a g T cs) (hb : Blk b g T cs') (hsz : cs'.size = cs.size) (hc : Chg g (g + 1) a b) : BoxTurn T a b :=
  ⟨hc.size, fun q hq => by
    by_cases h : q = g
    · subst h; exact .inr ⟨cs, cs', ha, hb, hsz⟩
    · exact .inl (hc.block q hq (by omega))⟩
theorem OwnL.apart {α : Type} {f : α → List Value} {size : Nat} {t T : TypeId} {w : World} {lo hi q : Nat} {A : Option Addr} {n c : Nat} {l : List α} {cs : Array Value} (h : OwnL f size t w lo hi A n c l) (hb : Blk w q T cs) (ht : t ≠ T) (hl : lo ≤ hi) :
    ∃ ga gb, OwnL f size t w ga gb A n c l ∧ lo ≤ ga ∧ ga ≤ gb ∧ gb ≤ hi ∧ (q < ga ∨ gb ≤ q) := by
  obtain ⟨hll, h0 | ⟨g, cur, rfl, b, d, e, e'⟩⟩ := h
  · exact ⟨lo, lo, ⟨hll, .inl h0⟩, Nat.le_refl _, Nat.le_refl _, hl, by omega⟩
  · refine ⟨g, g + 1, ⟨hll, .inr ⟨g, cur, rfl, Nat.le_refl _, by omega, e, e'⟩⟩, b, by omega, d, ?_⟩
    by_cases hq : q = g
    · subst hq
      have h1 : w.heap[q]? = some (.cells cur t (0, 0)) := e
      have h2 : w.heap[q]? = some (.cells cs T (0, 0)) := hb
      rw [h1] at h2
      injection h2 with h2
      injection h2 with _ h2
      exact absurd h2 ht
    · omega
theorem getD_set_ne' (a : Array Value) (d s : Nat) (v : Value) (hs : ¬ d = s) : (a.setIfInBounds d v).getD s undef = a.getD s undef := by
  simp only [Array.getD_eq_getD_getElem?, Array.getElem?_setIfInBounds, if_neg hs]
end Go.Proofs.YtelnnegfkdfpiaaGreatDoor
