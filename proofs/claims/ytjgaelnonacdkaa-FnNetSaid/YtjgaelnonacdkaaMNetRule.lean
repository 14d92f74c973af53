/- A net as a function; what is kept by whatever is done to it; one value at most. -/
import Derived.WalkKit
import Derived.WalkSpells
import Derived.WalkLawsBesides
import Derived.Lib.Hide
import Derived.Test.YtjgaelnonacdkaaG14
import Derived.Test.YtjgaelnonacdkaaMNetOk
import Derived.Test.YtjgaelnonacdkaaG28
import Derived.Test.YtjgaelnonacdkaaG16
namespace Go.Proofs.Ytjgaelnonacdkaa
open Go.RowKit

structure ActD where
  k : Int
  a : Int
  b : Int
  m : NMsgD
def zeroM : NMsgD := ⟨0, 0, 0, 0, 0⟩
def addN (p : List NMsgD) (m : NMsgD) : List NMsgD := if hasB p m = true then p else p ++ [m]
def addAll (p o : List NMsgD) : List NMsgD := o.foldl addN p
def lieBad (lp : List NMsgD) (m : NMsgD) : Bool := !(okMsg m) || !(m.f == 4) || hasB lp m || decide (150 ≤ lp.length)
def actBad (lp : List NMsgD) (a : ActD) : Bool := !(inB a.a 1 3) || (a.k == 2 && !(inB a.b 0 ((lp.length : Int) - 1)))
def callN (lp : List NMsgD) (n : NodeD) (a : ActD) : RunS × Bool :=
  if (a.k == 1) = true then startN n.s n.l else if (a.k == 2) = true then getN n.s n.l (lp.getD a.b.toNat zeroM) else if (a.k == 3) = true then timeN n.s n.l a.b else (⟨n.s, n.l, []⟩, false)
def nodeN (ln : List NodeD) (a : Int) : NodeD := ln.getD (a - 1).toNat ⟨zeroNS, []⟩
def netDoN (ln : List NodeD) (lp : List NMsgD) (a : ActD) : List NodeD × List NMsgD × Bool :=
  if (a.k == 4) = true then (if lieBad lp a.m = true then (ln, lp, false) else (ln, lp ++ [a.m], true))
  else if actBad lp a = true then (ln, lp, false)
  else if (callN lp (nodeN ln a.a) a).2 = true then
    (if 150 < (addAll lp (callN lp (nodeN ln a.a) a).1.o).length then (ln, lp, false)
     else (ln.set (a.a - 1).toNat ⟨(callN lp (nodeN ln a.a) a).1.s, (callN lp (nodeN ln a.a) a).1.l⟩, addAll lp (callN lp (nodeN ln a.a) a).1.o, true))
  else (ln, lp, false)
def playStep (x : (List NodeD × List NMsgD) × Nat) (a : ActD) : (List NodeD × List NMsgD) × Nat :=
  (((netDoN x.1.1 x.1.2 a).1, (netDoN x.1.1 x.1.2 a).2.1), if (netDoN x.1.1 x.1.2 a).2.2 = true then x.2 + 1 else x.2)
def playTo (l : List ActD) : (List NodeD × List NMsgD) × Nat := l.foldl playStep ((newN, []), 0)

theorem addN_mem {p : List NMsgD} {m x : NMsgD} : x ∈ addN p m ↔ x ∈ p ∨ x = m := by
  unfold addN
  split
  · rename_i h
    rw [hasB_iff] at h
    exact ⟨.inl, fun e => e.elim id fun e => by rw [e]; exact h⟩
  · simp
theorem addAll_mem {o : List NMsgD} : ∀ {p : List NMsgD} {x : NMsgD}, x ∈ addAll p o ↔ x ∈ p ∨ x ∈ o := by
  induction o with
  | nil => intro p x; simp [addAll]
  | cons m o ih =>
    intro p x
    unfold addAll at ih ⊢
    rw [List.foldl_cons, ih, addN_mem, List.mem_cons, or_assoc]
theorem addAll_ok {o : List NMsgD} : ∀ {p : List NMsgD}, msgsOk p = true → (∀ m ∈ o, okMsg m = true) → msgsOk (addAll p o) = true := by
  induction o with
  | nil => intro p h _; exact h
  | cons m o ih =>
    intro p h ho
    unfold addAll at ih ⊢
    rw [List.foldl_cons]
    refine ih ?_ fun x hx => ho x (by simp [hx])
    unfold addN
    split
    · exact h
    · rename_i hb
      rw [msgsOk_snoc, h, ho m (by simp), Bool.eq_false_iff.2 hb]; rfl
theorem addAll_pre {o : List NMsgD} : ∀ {p : List NMsgD}, p <+: addAll p o := by
  induction o with
  | nil => intro p; exact List.prefix_refl p
  | cons m o ih =>
    intro p
    unfold addAll at ih ⊢
    rw [List.foldl_cons]
    refine List.IsPrefix.trans ?_ ih
    unfold addN
    split
    · exact List.prefix_refl p
    · exact List.prefix_append p [m]

/-! ### any right net stays right -/
theorem netB_iff {ln : List NodeD} {lp : List NMsgD} : netB ln lp = true ↔ ln.length = 3 ∧ msgsOk lp = true ∧ lp.length ≤ 150 ∧ ∀ (i : Nat) (x : NodeD), ln[i]? = some x → NodeP x.s x.l ∧ x.s.me = (i : Int) + 1 ∧ ∀ m ∈ x.l, m.f ≤ 3 → m ∈ lp := by
  unfold netB
  simp only [Bool.and_eq_true, decide_eq_true_eq, allTo_iff]
  have e : ∀ (i : Nat) (x : NodeD), nodeAt lp i x = true ↔ NodeP x.s x.l ∧ x.s.me = (i : Int) + 1 ∧ ∀ m ∈ x.l, m.f ≤ 3 → m ∈ lp := by
    intro i x
    unfold nodeAt
    simp only [Bool.and_eq_true, nodeB_iff, beq_iff_eq, allTo_iff, and_assoc]
    refine and_congr_right fun _ => and_congr_right fun _ => ?_
    constructor
    · intro h m hm h3
      obtain ⟨k, hk⟩ := List.mem_iff_getElem?.1 hm
      have := h k m hk
      simp only [poolF, Bool.or_eq_true, Bool.not_eq_true', decide_eq_false_iff_not, hasB_iff] at this
      exact this.resolve_left fun h => h h3
    · intro h k m hk
      simp only [poolF, Bool.or_eq_true, Bool.not_eq_true', decide_eq_false_iff_not, hasB_iff]
      by_cases h3 : m.f ≤ 3
      · exact .inr (h m (List.mem_of_getElem? hk) h3)
      · exact .inl h3
  simp only [e]
  constructor
  · rintro ⟨⟨a, b, c⟩, d⟩; exact ⟨a, b, by omega, d⟩
  · rintro ⟨a, b, c, d⟩; exact ⟨⟨a, b, by omega⟩, d⟩
theorem inv_ok {me : Int} {M : NMsgD → Prop} {x : RunS} (h : InvR me M x) : ∀ m ∈ x.o, okMsg m = true := fun m hm => h.ok m (.inr hm)

/-- what an act may do -/
inductive Did (ln : List NodeD) (lp : List NMsgD) (a : ActD) : List NodeD × List NMsgD × Bool → Prop
  | no : Did ln lp a (ln, lp, false)
  | lie (hm : okMsg a.m = true) (hf : a.m.f = 4) (hn : hasB lp a.m = false) (hl : lp.length < 150) : Did ln lp a (ln, lp ++ [a.m], true)
  | act (j : Nat) (n : NodeD) (r : RunS × Bool) (hj : j < 3) (hn : ln[j]? = some n) (hr : r.2 = true) (hc : r = startN n.s n.l ∨ (∃ m ∈ lp, r = getN n.s n.l m) ∨ ∃ k, r = timeN n.s n.l k) (hl : (addAll lp r.1.o).length ≤ 150) :
      Did ln lp a (ln.set j ⟨r.1.s, r.1.l⟩, addAll lp r.1.o, true)
theorem did_any {ln : List NodeD} {lp : List NMsgD} (hln : ln.length = 3) (a : ActD) : Did ln lp a (netDoN ln lp a) := by
  unfold netDoN
  split
  · split
    · exact .no
    · rename_i hb
      simp only [lieBad, Bool.or_eq_true, Bool.not_eq_true', decide_eq_true_eq, not_or, Bool.not_eq_false, Bool.not_eq_true, beq_eq_false_iff_ne, ne_eq, Decidable.not_not] at hb
      exact .lie hb.1.1.1 hb.1.1.2 hb.1.2 (by omega)
  · split
    · exact .no
    · rename_i hb
      simp only [actBad, Bool.or_eq_true, Bool.not_eq_true', not_or, Bool.not_eq_false, inB_iff, Bool.and_eq_true, beq_iff_eq, not_and] at hb
      split
      · rename_i hc
        split
        · exact .no
        · rename_i hl
          have hj : (a.a - 1).toNat < 3 := by omega
          have hn : ln[(a.a - 1).toNat]? = some (nodeN ln a.a) := by
            unfold nodeN
            rw [List.getD_eq_getElem?_getD, List.getElem?_eq_getElem (by omega)]; rfl
          refine .act _ _ _ hj hn hc ?_ (by omega)
          unfold callN
          split
          · exact .inl rfl
          · split
            · rename_i _ h2
              rw [beq_iff_eq] at h2
              have := hb.2 h2
              refine .inr (.inl ⟨_, ?_, rfl⟩)
              rw [List.getD_eq_getElem?_getD, List.getElem?_eq_getElem (by omega)]
              exact List.getElem_mem _
            · split
              · exact .inr (.inr ⟨_, rfl⟩)
              · rename_i h1 h2 h3
                unfold callN at hc
                rw [if_neg h1, if_neg h2, if_neg h3] at hc
                cases hc
      · exact .no
theorem call_q {s : NodeS} {l lp : List NMsgD} {r : RunS × Bool} (h : NodeP s l) (hc : r = startN s l ∨ (∃ m ∈ lp, r = getN s l m) ∨ ∃ k, r = timeN s l k) :
    NodeP r.1.s r.1.l ∧ r.1.s.me = s.me ∧ (∀ m ∈ r.1.l, m ∈ l ∨ m ∈ lp ∨ m ∈ r.1.o) ∧ ∀ m ∈ r.1.o, okMsg m = true := by
  rcases hc with rfl | ⟨m, hm, rfl⟩ | ⟨k, rfl⟩
  · have := (start_q h).run
    exact ⟨this.node, this.me, fun x hx => (this.sub x hx).elim .inl fun e => .inr (.inr e), fun x hx => (this.out x hx).1⟩
  · have := (get_q (m := m) h).1
    exact ⟨this.node, this.me, fun x hx => (this.sub x hx).elim (fun e => by
      rcases List.mem_append.1 e with e | e
      · exact .inl e
      · rw [List.mem_singleton.1 e]; exact .inr (.inl hm)) fun e => .inr (.inr e), fun x hx => (this.out x hx).1⟩
  · have := (time_q (k := k) h).run
    exact ⟨this.node, this.me, fun x hx => (this.sub x hx).elim .inl fun e => .inr (.inr e), fun x hx => (this.out x hx).1⟩
theorem netDo_ok {ln : List NodeD} {lp : List NMsgD} (h : netB ln lp = true) (a : ActD) : netB (netDoN ln lp a).1 (netDoN ln lp a).2.1 = true ∧ lp <+: (netDoN ln lp a).2.1 ∧ ((netDoN ln lp a).2.2 = false → (netDoN ln lp a).2.1 = lp ∧ (netDoN ln lp a).1 = ln) := by
  have h' := netB_iff.1 h
  obtain ⟨h3, hp, hl, hn⟩ := h'
  have hd := did_any (lp := lp) h3 a
  generalize netDoN ln lp a = r at hd ⊢
  cases hd with
  | no => exact ⟨h, List.prefix_refl lp, fun _ => ⟨rfl, rfl⟩⟩
  | lie hm hf hnn hl2 =>
    refine ⟨netB_iff.2 ⟨h3, by rw [msgsOk_snoc, hp, hm, hnn]; rfl, by simp; omega, fun i x hx => ?_⟩, List.prefix_append _ _, fun e => by cases e⟩
    obtain ⟨a1, a2, a3⟩ := hn i x hx
    exact ⟨a1, a2, fun m hm hf => List.mem_append.2 (.inl (a3 m hm hf))⟩
  | act j n r hj hjn hr hc hl2 =>
    obtain ⟨b1, b2, b3⟩ := hn j n hjn
    obtain ⟨c1, c2, c3, c4⟩ := call_q b1 hc
    refine ⟨netB_iff.2 ⟨by simpa using h3, addAll_ok hp c4, hl2, fun i x hx => ?_⟩, addAll_pre, fun e => by cases e⟩
    rw [List.getElem?_set] at hx
    by_cases hij : j = i
    · subst hij
      rw [if_pos rfl, if_pos (by omega)] at hx
      simp only [Option.some.injEq] at hx
      subst hx
      refine ⟨c1, c2.trans b2, fun m hm hf => addAll_mem.2 ?_⟩
      rcases c3 m hm with e | e | e
      · exact .inl (b3 m e hf)
      · exact .inl e
      · exact .inr e
    · rw [if_neg hij] at hx
      obtain ⟨a1, a2, a3⟩ := hn i x hx
      exact ⟨a1, a2, fun m hm hf => addAll_mem.2 (.inl (a3 m hm hf))⟩

/-! ### a net that began anew -/
structure NetI (ln : List NodeD) (lp : List NMsgD) : Prop where
  three : ln.length = 3
  pool : msgsOk lp = true
  len : lp.length ≤ 150
  node : ∀ (i : Nat) (x : NodeD), ln[i]? = some x → Inv ((i : Int) + 1) x.s x.l (· ∈ lp)
theorem netI_new : NetI newN [] := by
  refine ⟨rfl, rfl, by decide, fun i x hx => ?_⟩
  have key : ∀ me : Int, 1 ≤ me → me ≤ 4 → Inv me (newS me) [] (· ∈ ([] : List NMsgD)) := fun me h1 h2 =>
    { node := ⟨⟨h1, h2⟩, by show (-1 : Int) ≤ -1 ∧ (-1 : Int) ≤ 11; omega, by show (1 : Int) ≤ 1 ∧ (1 : Int) ≤ 3; omega, by show (0 : Int) ≤ 0 ∧ (0 : Int) ≤ 20; omega, by show (0 : Int) ≤ 0 ∧ (0 : Int) ≤ 20; omega, by show (0 : Int) ≤ 0 ∧ (0 : Int) ≤ 20; omega, by show (-1 : Int) ≤ -1 ∧ (-1 : Int) ≤ -1; omega, by show (-1 : Int) ≤ -1 ∧ (-1 : Int) ≤ -1; omega, by show (-1 : Int) ≤ -1 ∧ (-1 : Int) ≤ -1; omega, ⟨fun _ => rfl, fun _ => rfl⟩, ⟨fun _ => rfl, fun _ => rfl⟩, rfl, by decide⟩
      who := rfl, sub := fun m hm => hm, ok := fun _ hm => (by cases hm), late := fun _ hm => (by cases hm), one := fun _ _ hm => (by cases hm), com := fun _ hm => (by cases hm), lock := fun h => absurd rfl h
      vote := fun _ _ hp => (by cases hp), dec := fun h => (by have h : (0 : Int) < 0 := h; omega), early := fun _ h => (by have h : (0 : Int) ≤ -1 := h; omega) }
  match i, hx with
  | 0, hx => simp only [newN, List.getElem?_cons_zero, Option.some.injEq] at hx; subst hx; exact key 1 (by decide) (by decide)
  | 1, hx => simp only [newN, List.getElem?_cons_succ, List.getElem?_cons_zero, Option.some.injEq] at hx; subst hx; exact key 2 (by decide) (by decide)
  | 2, hx => simp only [newN, List.getElem?_cons_succ, List.getElem?_cons_zero, Option.some.injEq] at hx; subst hx; exact key 3 (by decide) (by decide)
  | i + 3, hx => simp [newN] at hx
theorem call_inv {me : Int} {s : NodeS} {l lp : List NMsgD} {r : RunS × Bool} (h : Inv me s l (· ∈ lp)) (hc : r = startN s l ∨ (∃ m ∈ lp, r = getN s l m) ∨ ∃ k, r = timeN s l k) : InvR me (· ∈ lp) r.1 := by
  rcases hc with rfl | ⟨m, hm, rfl⟩ | ⟨k, rfl⟩
  · exact start_inv h
  · exact get_inv h hm
  · exact time_inv h
theorem call_from {s : NodeS} {l lp : List NMsgD} {r : RunS × Bool} (h : NodeP s l) (hc : r = startN s l ∨ (∃ m ∈ lp, r = getN s l m) ∨ ∃ k, r = timeN s l k) : ∀ m ∈ r.1.o, m.f = s.me := by
  rcases hc with rfl | ⟨m, hm, rfl⟩ | ⟨k, rfl⟩
  · exact fun x hx => ((start_q h).run.out x hx).2.1
  · exact fun x hx => ((get_q (m := m) h).1.out x hx).2.1
  · exact fun x hx => ((time_q (k := k) h).run.out x hx).2.1
theorem netI_do {ln : List NodeD} {lp : List NMsgD} (h : NetI ln lp) (a : ActD) : NetI (netDoN ln lp a).1 (netDoN ln lp a).2.1 := by
  have hd := did_any (lp := lp) h.three a
  generalize netDoN ln lp a = r at hd ⊢
  cases hd with
  | no => exact h
  | lie hm hf hnn hl2 =>
    have hall : ∀ m, m ∈ lp ++ [a.m] → okMsg m = true := fun m hmm => by
      rcases List.mem_append.1 hmm with e | e
      · exact msgsOk_mem h.pool e
      · rw [List.mem_singleton.1 e]; exact hm
    refine ⟨h.three, by rw [msgsOk_snoc, h.pool, hm, hnn]; rfl, by simp; omega, fun i x hx => ?_⟩
    have hi : i < 3 := by have h1 : i < ln.length := (List.getElem?_eq_some_iff.1 hx).1; have := h.three; omega
    exact (h.node i x hx).more (fun m hm => List.mem_append.2 (.inl hm)) hall fun m hmm hmf => by
      rcases List.mem_append.1 hmm with e | e
      · exact e
      · rw [List.mem_singleton.1 e] at hmf; omega
  | act j n r hj hjn hr hc hl2 =>
    have hI := h.node j n hjn
    have hR := call_inv hI hc
    have hfrom := call_from hI.node hc
    have hok : ∀ m, m ∈ addAll lp r.1.o → okMsg m = true := fun m hmm => by
      rcases addAll_mem.1 hmm with e | e
      · exact msgsOk_mem h.pool e
      · exact inv_ok hR m e
    refine ⟨by simpa using h.three, addAll_ok h.pool (inv_ok hR), hl2, fun i x hx => ?_⟩
    rw [List.getElem?_set] at hx
    by_cases hij : j = i
    · subst hij
      rw [if_pos rfl, if_pos (by have := h.three; omega)] at hx
      simp only [Option.some.injEq] at hx
      subst hx
      exact Inv.more (M := Said (· ∈ lp) r.1.o) hR (fun m hm => addAll_mem.2 hm) hok fun m hmm _ => addAll_mem.1 hmm
    · rw [if_neg hij] at hx
      exact (h.node i x hx).more (fun m hm => addAll_mem.2 (.inl hm)) hok fun m hmm hmf => by
        rcases addAll_mem.1 hmm with e | e
        · exact e
        · have := hfrom m e
          have := hI.who
          omega
theorem netI_play (l : List ActD) : NetI (playTo l).1.1 (playTo l).1.2 := by
  have main : ∀ (l : List ActD) (x : (List NodeD × List NMsgD) × Nat), NetI x.1.1 x.1.2 → NetI (l.foldl playStep x).1.1 (l.foldl playStep x).1.2 := by
    intro l
    induction l with
    | nil => exact fun x h => h
    | cons a l ih => intro x h; rw [List.foldl_cons]; exact ih _ (netI_do h a)
  exact main l _ netI_new

/-! ### one value at most -/
section
variable {ln : List NodeD} {lp : List NMsgD}
theorem NetI.of (h : NetI ln lp) {f : Int} (h1 : 1 ≤ f) (h3 : f ≤ 3) : ∃ x, Inv f x.s x.l (· ∈ lp) ∧ ln[(f - 1).toNat]? = some x := by
  have hlt : (f - 1).toNat < ln.length := by have := h.three; omega
  refine ⟨ln[(f - 1).toNat], ?_, List.getElem?_eq_getElem hlt⟩
  have := h.node (f - 1).toNat _ (List.getElem?_eq_getElem hlt)
  rwa [show (((f - 1).toNat : Nat) : Int) + 1 = f by omega] at this
theorem NetI.okm (h : NetI ln lp) : ∀ m, m ∈ lp → okMsg m = true := fun _ hm => msgsOk_mem h.pool hm
/-- what three have committed to, nothing goes against later -/
theorem NetI.safe (h : NetI ln lp) {r v : Int} (hv : v ≠ 0) (hq : Quor (· ∈ lp) 3 r v) : ∀ (n : Nat) (r' v' : Int), r' - r = n → v' ≠ 0 → Quor (· ∈ lp) 2 r' v' → v' = v := by
  intro n
  induction n using Nat.strongRecOn with
  | _ n ih =>
    intro r' v' hn hv' hq'
    obtain ⟨f, f1, f3, hc, hp⟩ := quor_meet h.okm hq hq'
    obtain ⟨x, hx, _⟩ := h.of f1 f3
    rcases Nat.eq_zero_or_pos n with h0 | h0
    · have er : r' = r := by omega
      subst er
      have hq2 := (hx.com _ hc rfl rfl hv).1
      obtain ⟨g, g1, g3, ha, hb⟩ := quor_meet h.okm hq2 hq'
      obtain ⟨y, hy, _⟩ := h.of g1 g3
      have := hy.one _ _ ha hb rfl rfl rfl rfl
      simp only [NMsgD.mk.injEq] at this
      exact this.2.2.1.symm
    · obtain ⟨q, q1, q2, q3⟩ := hx.vote _ _ hp hc rfl rfl rfl rfl hv' hv (by show r < r'; omega)
      have q1 : r ≤ q := q1
      have q2 : q < r' := q2
      exact ih (q - r).toNat (by omega) q v' (by omega) hv' q3
theorem NetI.safe2 (h : NetI ln lp) {r v r' v' : Int} (hv : v ≠ 0) (hq : Quor (· ∈ lp) 3 r v) (hr : r ≤ r') (hv' : v' ≠ 0) (hq' : Quor (· ∈ lp) 2 r' v') : v' = v :=
  h.safe hv hq (r' - r).toNat r' v' (by omega) hv' hq'
/-- a quorum of precommits has a quorum of prevotes -/
theorem NetI.pre (h : NetI ln lp) {r v : Int} (hv : v ≠ 0) (hq : Quor (· ∈ lp) 3 r v) : Quor (· ∈ lp) 2 r v := by
  obtain ⟨f, f1, f3, hc, _⟩ := quor_meet h.okm hq hq
  obtain ⟨x, hx, _⟩ := h.of f1 f3
  exact (hx.com _ hc rfl rfl hv).1
theorem NetI.agree (h : NetI ln lp) {x y : NodeD} (hx : x ∈ ln) (hy : y ∈ ln) (dx : 0 < x.s.dec) (dy : 0 < y.s.dec) : x.s.dec = y.s.dec := by
  obtain ⟨i, hi⟩ := List.mem_iff_getElem?.1 hx
  obtain ⟨j, hj⟩ := List.mem_iff_getElem?.1 hy
  obtain ⟨r, hr⟩ := (h.node i x hi).dec dx
  obtain ⟨q, hq⟩ := (h.node j y hj).dec dy
  rcases Int.le_total r q with hle | hle
  · exact (h.safe2 (by omega) hr hle (by omega) (h.pre (by omega) hq)).symm
  · exact h.safe2 (by omega) hq hle (by omega) (h.pre (by omega) hr)
theorem NetI.netB (h : NetI ln lp) : netB ln lp = true :=
  netB_iff.2 ⟨h.three, h.pool, h.len, fun i x hx => ⟨(h.node i x hx).node, (h.node i x hx).who, fun m hm _ => (h.node i x hx).sub m hm⟩⟩
theorem pool_at {l : List NMsgD} (h : msgsOk l = true) {i j : Nat} {m : NMsgD} (hi : l[i]? = some m) (hj : l[j]? = some m) : i = j := by
  have key : ∀ (i j : Nat), l[i]? = some m → l[j]? = some m → ¬ j < i := by
    intro i j hi hj hlt
    have := (allTo_iff.1 h) i m hi
    simp only [freshMsg, Bool.and_eq_true, Bool.not_eq_true'] at this
    have h2 : hasB (l.take i) m = true := by
      rw [hasB_iff]
      exact List.mem_of_getElem? (i := j) (by rw [List.getElem?_take, if_pos hlt]; exact hj)
    rw [h2] at this
    cases this.2
  rcases Nat.lt_trichotomy i j with h1 | h1 | h1
  · exact absurd h1 (key j i hj hi)
  · exact h1
  · exact absurd h1 (key i j hi hj)
theorem NetI.honest (h : NetI ln lp) : honestB ln lp = true := by
  unfold honestB
  rw [h.netB, Bool.true_and, allTo_iff]
  intro k x hk
  unfold honAt noneTo
  rw [List.all_eq_true]
  intro y hy
  obtain ⟨j, hj⟩ := List.mem_iff_getElem?.1 hy
  rw [List.getElem?_take] at hj
  split at hj
  · rename_i hlt
    rw [Bool.not_eq_true']
    rw [Bool.eq_false_iff]
    intro hc
    simp only [honC, Bool.and_eq_true, decide_eq_true_eq, beq_iff_eq] at hc
    have hxm := List.mem_of_getElem? hk
    have hym := List.mem_of_getElem? hj
    have hf := ((okMsg_iff x).1 (h.okm x hxm)).2.2.1
    obtain ⟨z, hz, _⟩ := h.of hf.1 hc.1.1.1
    have e := hz.one x y hxm hym rfl hc.1.1.2.symm hc.1.2 hc.2
    subst e
    have := pool_at h.pool hk hj
    omega
  · cases hj
theorem NetI.held (h : NetI ln lp) : heldB ln lp = true := by
  unfold heldB
  rw [h.netB, Bool.true_and, allTo_iff]
  intro k a hk
  unfold heldA
  simp only [Bool.or_eq_true, Bool.not_eq_true', beq_eq_false_iff_ne, beq_iff_eq, heldRV, decide_eq_true_eq]
  by_cases h1 : a.k = 3
  · by_cases h2 : a.v = 0
    · exact .inl (.inr h2)
    · refine .inr ?_
      by_cases h3 : countN lp 3 a.r a.v < 3
      · exact .inl h3
      · refine .inr ?_
        have hq := quor_of h.okm (by decide : (3 : Int) ≠ 1) (show 3 ≤ countN lp 3 a.r a.v by omega)
        unfold noneTo
        rw [List.take_length, List.all_eq_true]
        intro b hb
        rw [Bool.not_eq_true', Bool.eq_false_iff]
        intro hbad
        simp only [badM, Bool.and_eq_true, beq_iff_eq, decide_eq_true_eq, Bool.not_eq_true', beq_eq_false_iff_ne] at hbad
        have hf := ((okMsg_iff b).1 (h.okm b hb)).2.2.1
        obtain ⟨z, hz, _⟩ := h.of hf.1 hbad.1.1.1.2
        have := (hz.com b hb rfl hbad.1.1.1.1 (by omega)).1
        exact hbad.2 (h.safe2 h2 hq (by omega) (by omega) this)
  · exact .inl (.inl h1)
end
end Go.Proofs.Ytjgaelnonacdkaa
