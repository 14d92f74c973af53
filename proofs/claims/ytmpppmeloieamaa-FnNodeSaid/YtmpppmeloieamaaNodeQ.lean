/- What a run keeps to, whatever its node was told; nodes and nets as functions. -/
import Derived.Test.YtmpppmeloieamaaNodeSafe
import Derived.WalkKit
import Derived.WalkSpells
import Derived.WalkLawsBesides
import Derived.Lib.Hide
namespace Go.Proofs.Ytmpppmeloieamaa
open Go.RowKit

structure RunQ (s0 : NodeS) (l0 : List NMsgD) (x : RunS) : Prop where
  node : NodeP x.s x.l
  me : x.s.me = s0.me
  round : s0.round ≤ x.s.round
  lr : s0.lr ≤ x.s.lr
  dec : 0 < s0.dec → x.s.dec = s0.dec
  sub : ∀ m ∈ x.l, m ∈ l0 ∨ m ∈ x.o
  out : ∀ m ∈ x.o, okMsg m = true ∧ m.f = s0.me ∧ m.r ≤ x.s.round ∧ (m.r = x.s.round → m.k ≤ x.s.step)
  uniq : x.o.Pairwise fun a b => ¬ (a.k = b.k ∧ a.r = b.r)

section
variable {s0 : NodeS} {l0 : List NMsgD} {x : RunS}
theorem q_same {s : NodeS} {l : List NMsgD} (h : NodeP s l) : RunQ s l ⟨s, l, []⟩ :=
  ⟨h, rfl, Int.le_refl _, Int.le_refl _, fun _ => rfl, fun m hm => .inl hm, fun m hm => (by cases hm), List.Pairwise.nil⟩
/-- a send, with the step that it brings -/
theorem q_send {k v p j : Int} (h : RunQ s0 l0 x) (hok : okMsg (msgOf x.s k v p) = true) (hk : k ≤ j) (hj : x.s.step ≤ j ∧ 1 ≤ j ∧ j ≤ 3) (hn : ∀ m ∈ x.o, m.r = x.s.round → m.k < k) : RunQ s0 l0 (setStep (sendR x k v p) j) where
  node := step_ok (send_ok h.node hok) hj.2
  me := h.me
  round := h.round
  lr := h.lr
  dec := h.dec
  sub := fun m hm => by
    rcases addM_sub hm with e | e
    · rcases h.sub m e with e | e
      · exact .inl e
      · exact .inr (List.mem_append.2 (.inl e))
    · exact .inr (List.mem_append.2 (.inr (by rw [e]; simp)))
  out := fun m hm => by
    rcases List.mem_append.1 hm with e | e
    · obtain ⟨a, b, c, d⟩ := h.out m e
      exact ⟨a, b, c, fun e => by have := d e; show m.k ≤ j; omega⟩
    · simp only [List.mem_singleton] at e
      subst e
      exact ⟨hok, h.me, Int.le_refl _, fun _ => hk⟩
  uniq := by
    show (x.o ++ [msgOf x.s k v p]).Pairwise _
    rw [List.pairwise_append]
    refine ⟨h.uniq, List.pairwise_singleton _ _, fun a ha b hb => ?_⟩
    simp only [List.mem_singleton] at hb
    subst hb
    intro ⟨e1, e2⟩
    have := hn a ha e2
    have e1 : a.k = k := e1
    omega
theorem q_atRound {r : Int} (h : RunQ s0 l0 x) (h1 : x.s.round < r) (h2 : r ≤ 11) : RunQ s0 l0 ⟨atRound x.s r, x.l, x.o⟩ where
  node := by
    have h := h.node
    exact ⟨h.me, by have := h.round; exact ⟨by show -1 ≤ r; omega, h2⟩, by show (1 : Int) ≤ 1 ∧ (1 : Int) ≤ 3; omega, h.lv, h.vv, h.dec, by have := h.lr; exact ⟨this.1, by show x.s.lr ≤ r; omega⟩, by have := h.vr; exact ⟨this.1, by show x.s.vr ≤ r; omega⟩, by have := h.polka; exact ⟨this.1, by show x.s.polka ≤ r; omega⟩, h.lock, h.valid, h.msgs, h.len⟩
  me := h.me
  round := by have := h.round; show s0.round ≤ r; omega
  lr := h.lr
  dec := h.dec
  sub := h.sub
  out := fun m hm => by
    obtain ⟨a, b, c, d⟩ := h.out m hm
    exact ⟨a, b, by show m.r ≤ r; omega, fun e => by have e : m.r = r := e; omega⟩
  uniq := h.uniq
theorem setStep_same (x : RunS) {j : Int} (h : x.s.step = j) : setStep x j = x := by
  subst h; rfl
theorem q_start {r : Int} (h : RunQ s0 l0 x) (h1 : x.s.round < r) (h2 : r ≤ 11) : RunQ s0 l0 (startR x r) := by
  have h0 := q_atRound h h1 h2
  have hn : ∀ m ∈ x.o, m.r = r → m.k < 1 := fun m hm e => by have := (h.out m hm).2.2.1; omega
  have g1 := h.node.me; have g2 := h.node.round; have g3 := h.node.vr; have g4 := h.node.vv; have g5 := h.node.valid
  have fin : ∀ v p, okMsg (msgOf (atRound x.s r) 1 v p) = true → RunQ s0 l0 (sendR ⟨atRound x.s r, x.l, x.o⟩ 1 v p) := fun v p hok => by
    have := q_send (j := 1) h0 hok (Int.le_refl _) (by show (1 : Int) ≤ 1 ∧ (1 : Int) ≤ 1 ∧ (1 : Int) ≤ 3; omega) hn
    rwa [setStep_same _ (by rfl)] at this
  unfold startR
  split
  · rename_i hp
    rw [beq_iff_eq] at hp
    split
    · refine fin _ _ ((okMsg_iff _).2 ?_)
      simp only [msgOf, atRound]
      refine ⟨by omega, by omega, by omega, fun _ => ⟨hp.symm, by omega, by omega⟩, fun h => absurd rfl h⟩
    · rename_i hv
      refine fin _ _ ((okMsg_iff _).2 ?_)
      simp only [beq_iff_eq] at hv
      simp only [msgOf, atRound]
      refine ⟨by omega, by omega, by omega, fun _ => ⟨hp.symm, by omega, by omega⟩, fun h => absurd rfl h⟩
  · exact h0
theorem q_prevote {v : Int} (h : RunQ s0 l0 x) (hs : x.s.step = 1) (hr : 0 ≤ x.s.round) (hv : 0 ≤ v ∧ v ≤ 20) : RunQ s0 l0 (prevoteR x v) :=
  q_send h (vote_ok h.node hr (.inl rfl) hv) (Int.le_refl _) (by omega) fun m hm e => by have := (h.out m hm).2.2.2 e; omega
theorem q_precommit {v : Int} (h : RunQ s0 l0 x) (hs : x.s.step = 2) (hr : 0 ≤ x.s.round) (hv : 0 ≤ v ∧ v ≤ 20) : RunQ s0 l0 (precommitR x v) :=
  q_send h (vote_ok h.node hr (.inr rfl) hv) (Int.le_refl _) (by omega) fun m hm e => by have := (h.out m hm).2.2.2 e; omega
theorem q_lock {v : Int} (h : RunQ s0 l0 x) (hr : 0 ≤ x.s.round) (hv : 1 ≤ v ∧ v ≤ 20) : RunQ s0 l0 (lockR x v) :=
  ⟨lock_ok h.node hr hv, h.me, h.round, (show s0.lr ≤ x.s.round from Int.le_trans h.lr h.node.lr.2), h.dec, h.sub, h.out, h.uniq⟩
theorem q_valid {v : Int} (h : RunQ s0 l0 x) (hr : 0 ≤ x.s.round) (hv : 1 ≤ v ∧ v ≤ 20) : RunQ s0 l0 (validR x v) :=
  ⟨valid_ok h.node hr hv, h.me, h.round, h.lr, h.dec, h.sub, h.out, h.uniq⟩
theorem q_polka {v : Int} (h : RunQ s0 l0 x) (hr : 0 ≤ x.s.round) (hv : 1 ≤ v ∧ v ≤ 20) : RunQ s0 l0 (polkaR x v) := by
  unfold polkaR
  split
  · rename_i hs
    rw [beq_iff_eq] at hs
    exact q_valid (q_precommit (q_lock h hr hv) hs hr (by omega)) hr hv
  · exact q_valid h hr hv
theorem q_rule {y : RunS} (h : RunQ s0 l0 x) (hy : ruleR x = some y) : RunQ s0 l0 y := by
  have hnode := h.node
  have hmsg := hnode.msgs; have hrd := hnode.round; have hst := hnode.step
  unfold ruleR at hy
  split at hy
  · cases hy
  rename_i hc
  simp only [Bool.or_eq_true, decide_eq_true_eq, beq_iff_eq, not_or] at hc
  have hr : 0 ≤ x.s.round := by omega
  split at hy
  · rename_i m hb
    simp only [Option.some.injEq] at hy
    subst hy
    obtain ⟨hm, hg⟩ := bestOf_some hb
    simp only [goodB, Bool.and_eq_true, beq_iff_eq] at hg
    have hv := (prop_val hmsg hm hg.1).1
    exact ⟨⟨hnode.me, hnode.round, hnode.step, hnode.lv, hnode.vv, by show 0 ≤ m.v ∧ m.v ≤ 20; omega, hnode.lr, hnode.vr, hnode.polka, hnode.lock, hnode.valid, hnode.msgs, hnode.len⟩, h.me, h.round, h.lr, fun hd => by have := h.dec hd; omega, h.sub, h.out, h.uniq⟩
  split at hy
  · rename_i r hk
    simp only [Option.some.injEq] at hy
    subst hy
    obtain ⟨h1, h2, h3, _⟩ := skipTo_some hk
    exact q_start h h1 h3
  split at hy
  · rename_i hs1
    rw [beq_iff_eq] at hs1
    unfold rule34 at hy
    split at hy
    · rename_i m h3
      simp only [Option.some.injEq] at hy
      subst hy
      obtain ⟨hm, hk1, _, _⟩ := propBy_some h3
      have hv := (prop_val hmsg hm hk1).1
      exact q_prevote h hs1 hr (by split <;> omega)
    · split at hy
      · rename_i m h4
        simp only [Option.some.injEq] at hy
        subst hy
        obtain ⟨hm, hk1, _, _⟩ := propBy_some h4
        have hv := (prop_val hmsg hm hk1).1
        exact q_prevote h hs1 hr (by split <;> omega)
      · cases hy
  · have h6 : rule6 x = some y → RunQ s0 l0 y := by
      intro h6
      unfold rule6 at h6
      split at h6
      · rename_i hs2
        simp only [Bool.and_eq_true, beq_iff_eq] at hs2
        simp only [Option.some.injEq] at h6
        subst h6
        exact q_precommit h hs2.1 hr (by decide)
      · cases h6
    unfold rule56 at hy
    split at hy
    · exact h6 hy
    · split at hy
      · rename_i m h5
        simp only [Option.some.injEq] at hy
        subst hy
        obtain ⟨hm, hk1, _, _⟩ := propBy_some h5
        exact q_polka h hr (prop_val hmsg hm hk1).1
      · exact h6 hy
theorem q_rest (h : RunQ s0 l0 x) : RunQ s0 l0 (restR x) := by
  have main : ∀ (k : Nat) (x : RunS), RunQ s0 l0 x → RunQ s0 l0 (restF k x) := by
    intro k
    induction k with
    | zero => exact fun x h => h
    | succ k ih =>
      intro x h
      unfold restF
      cases hr : ruleR x with
      | none => exact h
      | some y => exact ih y (q_rule h hr)
  exact main _ x h
end

/-! ### the calls on a node -/
def zeroNS : NodeS := ⟨0, 0, 0, 0, 0, 0, 0, 0, 0⟩
def startN (s : NodeS) (l : List NMsgD) : RunS × Bool :=
  if nodeB s l = true then (if (s.round == -1) = true then (restR (startR ⟨s, l, []⟩ 0), true) else (⟨s, l, []⟩, false)) else (⟨zeroNS, [], []⟩, false)
def getBad (l : List NMsgD) (m : NMsgD) : Bool := !(okMsg m) || hasB l m || decide (90 ≤ l.length)
def getN (s : NodeS) (l : List NMsgD) (m : NMsgD) : RunS × Bool :=
  if nodeB s l = true then (if getBad l m = true then (⟨s, l, []⟩, false) else (restR ⟨s, l ++ [m], []⟩, true)) else (⟨zeroNS, [], []⟩, false)
def timeBad (s : NodeS) (k : Int) : Bool := !(s.step == k) || s.round == -1 || decide (0 < s.dec) || (k == 3 && s.round == 11)
def timeR (x : RunS) (k : Int) : RunS := if (k == 1) = true then prevoteR x 0 else if (k == 2) = true then precommitR x 0 else startR x (x.s.round + 1)
def timeN (s : NodeS) (l : List NMsgD) (k : Int) : RunS × Bool :=
  if nodeB s l = true then (if timeBad s k = true then (⟨s, l, []⟩, false) else (restR (timeR ⟨s, l, []⟩ k), true)) else (⟨zeroNS, [], []⟩, false)
theorem got_ok {s : NodeS} {l : List NMsgD} {m : NMsgD} (h : NodeP s l) (hb : getBad l m = false) : NodeP s (l ++ [m]) := by
  simp only [getBad, Bool.or_eq_false_iff, Bool.not_eq_false', decide_eq_false_iff_not] at hb
  exact ⟨h.me, h.round, h.step, h.lv, h.vv, h.dec, h.lr, h.vr, h.polka, h.lock, h.valid, by rw [msgsOk_snoc, h.msgs, hb.1.1, hb.1.2]; rfl, by simp; omega⟩
theorem time_ok {s : NodeS} {l : List NMsgD} {k : Int} (h : NodeP s l) (hb : timeBad s k = false) : s.step = k ∧ 0 ≤ s.round ∧ s.dec = 0 ∧ (k = 3 → s.round < 11) := by
  simp only [timeBad, Bool.or_eq_false_iff, Bool.not_eq_false', decide_eq_false_iff_not, beq_iff_eq, beq_eq_false_iff_ne, Bool.and_eq_false_iff, ne_eq] at hb
  have := h.round; have := h.dec
  omega
/-- what a call on a node keeps to -/
structure CallQ (s0 : NodeS) (l0 : List NMsgD) (r : RunS × Bool) : Prop where
  run : RunQ s0 l0 r.1
  no : r.2 = false → r.1 = ⟨s0, l0, []⟩
theorem start_q {s : NodeS} {l : List NMsgD} (h : NodeP s l) : CallQ s l (startN s l) := by
  unfold startN
  rw [if_pos ((nodeB_iff s l).2 h)]
  split
  · rename_i hr
    rw [beq_iff_eq] at hr
    exact ⟨q_rest (q_start (q_same h) (by show s.round < 0; omega) (by decide)), fun e => by cases e⟩
  · exact ⟨q_same h, fun _ => rfl⟩
theorem get_q {s : NodeS} {l : List NMsgD} {m : NMsgD} (h : NodeP s l) : RunQ s (l ++ [m]) (getN s l m).1 ∧ ((getN s l m).2 = false → (getN s l m).1 = ⟨s, l, []⟩) := by
  unfold getN
  rw [if_pos ((nodeB_iff s l).2 h)]
  split
  · have hq := q_same h
    exact ⟨⟨hq.node, hq.me, hq.round, hq.lr, hq.dec, fun x hx => .inl ((hq.sub x hx).elim (fun e => List.mem_append.2 (.inl e)) (fun e => by cases e)), hq.out, hq.uniq⟩, fun _ => rfl⟩
  · rename_i hb
    exact ⟨q_rest (q_same (got_ok h (by simpa using hb))), fun e => by cases e⟩
theorem time_q {s : NodeS} {l : List NMsgD} {k : Int} (h : NodeP s l) : CallQ s l (timeN s l k) := by
  unfold timeN
  rw [if_pos ((nodeB_iff s l).2 h)]
  split
  · exact ⟨q_same h, fun _ => rfl⟩
  · rename_i hb
    obtain ⟨h1, h2, h3, h4⟩ := time_ok h (by simpa using hb)
    refine ⟨q_rest ?_, fun e => by cases e⟩
    have hs := h.step
    unfold timeR
    split
    · rename_i e; rw [beq_iff_eq] at e
      exact q_prevote (q_same h) (by show s.step = 1; omega) h2 (by decide)
    · rename_i e1
      split
      · rename_i e; rw [beq_iff_eq] at e
        exact q_precommit (q_same h) (by show s.step = 2; omega) h2 (by decide)
      · rename_i e2
        rw [beq_iff_eq] at e1 e2
        have := h.round
        exact q_start (q_same h) (by show s.round < s.round + 1; omega) (by show s.round + 1 ≤ 11; omega)
section
variable {me : Int} {M : NMsgD → Prop} {s : NodeS} {l : List NMsgD}
theorem inv_same (h : Inv me s l M) : InvR me M ⟨s, l, []⟩ :=
  h.more (fun m hm => .inl hm) (fun m hm => by rcases hm with e | e; exact h.ok m e; cases e) (fun m hm _ => by rcases hm with e | e; exact e; cases e)
theorem start_inv (h : Inv me s l M) : InvR me M (startN s l).1 := by
  unfold startN
  rw [if_pos ((nodeB_iff s l).2 h.node)]
  split
  · rename_i hr
    rw [beq_iff_eq] at hr
    exact inv_rest (inv_start (inv_same h) (by show s.round < 0; omega) (by decide))
  · exact inv_same h
theorem get_inv {m : NMsgD} (h : Inv me s l M) (hm : M m) : InvR me M (getN s l m).1 := by
  unfold getN
  rw [if_pos ((nodeB_iff s l).2 h.node)]
  split
  · exact inv_same h
  · rename_i hb
    have h2 : Inv me s (l ++ [m]) M := { node := got_ok h.node (by simpa using hb), who := h.who, sub := fun x hx => by rcases List.mem_append.1 hx with e | e; exact h.sub x e; rw [List.mem_singleton.1 e]; exact hm, ok := h.ok, late := h.late, one := h.one, com := h.com, lock := h.lock, vote := h.vote, dec := h.dec, early := h.early }
    exact inv_rest (inv_same h2)
theorem time_inv {k : Int} (h : Inv me s l M) : InvR me M (timeN s l k).1 := by
  unfold timeN
  rw [if_pos ((nodeB_iff s l).2 h.node)]
  split
  · exact inv_same h
  · rename_i hb
    obtain ⟨h1, h2, h3, h4⟩ := time_ok h.node (by simpa using hb)
    refine inv_rest ?_
    have hs := h.node.step
    unfold timeR
    split
    · rename_i e; rw [beq_iff_eq] at e
      exact inv_prevote (inv_same h) (by show s.step = 1; omega) h2 (by decide) (fun e => absurd rfl e)
    · rename_i e1
      split
      · rename_i e; rw [beq_iff_eq] at e
        exact inv_precommit0 (inv_same h) (by show s.step = 2; omega) h2
      · rename_i e2
        rw [beq_iff_eq] at e1 e2
        have := h.node.round
        exact inv_start (inv_same h) (by show s.round < s.round + 1; omega) (by show s.round + 1 ≤ 11; omega)
end
end Go.Proofs.Ytmpppmeloieamaa
